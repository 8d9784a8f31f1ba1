/- A part of the proof of rubFirst_holds: RpJ. Own work of this project; texts printed by own programs among it. -/
import Derived.KernelRfl
import Derived.Test.YtfmnoohhhokicaaZvI
set_option maxRecDepth 1000000
set_option maxHeartbeats 16000000
noncomputable section
noncomputable section
namespace Go.AM.Ytfmnoohhhokicaa
open Go Go.AM
variable {C : Callee} {B N : Nat} {E0 : AHeap} (φ : AFr) (H : AHeap) (s : St)
def Zbz := kBody Proofs.Try.f24
def ZEk := kL Zbz
def Zj3 := kO ZEk
def ZyZ := opN Zj3 0
theorem Z0l6 : XG 24 26 ZEk Zj3 [4] := Z1 (by rfl) (by rfl) _
theorem Z04P : Zj3.toList = [ZyZ] := nf
theorem Z01f : stepA E C B 26 Zj3 ZyZ (φ, H) = some (fput φ 4 (.bool false), H) := nf
def Zkb := kR Zbz
def Zk5 := kL Zkb
def ZEq := kL Zk5
def Z1W := kO ZEq
def ZA1 := opN Z1W 0
def ZwA := opN Z1W 1
def ZyE := opN Z1W 2
def Zy2 := opN Z1W 3
def Zvn := opN Z1W 4
theorem Z0iO : XG 24 26 ZEq Z1W [6, 7, 8, 9] := Z1 (by rfl) (by rfl) _
theorem ZYN : Z1W.toList = [ZA1, ZwA, ZyE, Zy2, Zvn] := nf
theorem Z09S : stepA E C B 26 Z1W ZA1 (φ, H) = some (fput φ 6 (fget φ 0), H) := nf
theorem Z00e : stepA E C B 26 Z1W ZwA (φ, H) = stp (some 7) φ H (Z4 E.T (B + 7) .len #[22] [(fget φ 6)]) := nf
theorem Z07u : stepA E C B 26 Z1W ZyE (φ, H) = some (fput φ 8 (fget φ 1), H) := nf
theorem Z02p : stepA E C B 26 Z1W Zy2 (φ, H) = stp (some 9) φ H (Z4 E.T (B + 9) .len #[22] [(fget φ 8)]) := nf
theorem Z06u : stepA E C B 26 Z1W Zvn (φ, H) = stp (some 10) φ H (just (aBin E.T .neq 3 (fget φ 7) (fget φ 9))) := nf
def Zke := kR Zk5
def ZjZ := kT Zke
def ZEx := kL ZjZ
def ZiF := kO ZEx
def ZxE := opN ZiF 0
theorem Z0m0 : XG 24 26 ZEx ZiF [0, 1, 10] := Z1 (by rfl) (by rfl) _
theorem Z05C : ZiF.toList = [ZxE] := nf
theorem Z01e : stepA E C B 26 ZiF ZxE (φ, H) = some (fput φ 4 (.bool false), H) := nf
def ZWo := kR ZjZ
theorem Z0mS : execA E C (fg 24) B 26 E0 N ZWo s = some (.ret, s) := Zq (by rfl) s
theorem Z0li : XQ 24 26 ZjZ ZEx ZWo := Z0 (by rfl) _
def ZWl := kE Zke
theorem Z0m7 : execA E C (fg 24) B 26 E0 N ZWl s = some (.normal, s) := Zh (by rfl) s
theorem Z0jI : XC 24 26 Zke 10 ZjZ ZWl := Zf (by rfl) _
theorem Z0mP : XQ 24 26 Zk5 ZEq Zke := Z0 (by rfl) _
def Zbl := kR Zkb
def ZbO := kL Zbl
def Znz := kL ZbO
def ZjV := kO Znz
def Zy9 := opN ZjV 0
theorem Z0fR : XG 24 26 Znz ZjV [10] := Z1 (by rfl) (by rfl) _
theorem Z00T : ZjV.toList = [Zy9] := nf
theorem Z00u : stepA E C B 26 ZjV Zy9 (φ, H) = some (fput φ 5 (.int .i64 0), H) := nf
def Zll := kR ZbO
def Zp4 := kB Zll
def Z4H := kB Zp4
def Zcg := kL Z4H
def ZlQ := kL Zcg
def Z2E := kO ZlQ
def ZCK := opN Z2E 0
def ZvP := opN Z2E 1
def ZAA := opN Z2E 2
def Zzz := opN Z2E 3
theorem Z0eZ : XG 24 26 ZlQ Z2E [11, 12, 13] := Z1 (by rfl) (by rfl) _
theorem Z03j : Z2E.toList = [ZCK, ZvP, ZAA, Zzz] := nf
theorem Z02P : stepA E C B 26 Z2E ZCK (φ, H) = some (fput φ 11 (fget φ 5), H) := nf
theorem Z0ao : stepA E C B 26 Z2E ZvP (φ, H) = some (fput φ 12 (fget φ 0), H) := nf
theorem Z00E : stepA E C B 26 Z2E ZAA (φ, H) = stp (some 13) φ H (Z4 E.T (B + 13) .len #[22] [(fget φ 12)]) := nf
theorem Z075 : stepA E C B 26 Z2E Zzz (φ, H) = stp (some 14) φ H (just (aBin E.T .lss 3 (fget φ 11) (fget φ 13))) := nf
def Zb1 := kR Zcg
def ZJv := kT Zb1
theorem Z0c8 : execA E C (fg 24) B 26 E0 N ZJv s = some (.normal, s) := Zh (by rfl) s
def ZHg := kE Zb1
theorem Z0e2 : execA E C (fg 24) B 26 E0 N ZHg s = some (.exit 0, s) := ZI (by rfl) s
theorem Z0g8 : XC 24 26 Zb1 14 ZJv ZHg := Zf (by rfl) _
theorem Z0bE : XQ 24 26 Zcg ZlQ Zb1 := Z0 (by rfl) _
def Zaq := kR Z4H
def Zle := kL Zaq
def ZaG := kB Zle
def Zpv := kL ZaG
def Z02 := kO Zpv
def ZAH := opN Z02 0
def ZBv := opN Z02 1
def ZDv := opN Z02 2
def Zwk := opN Z02 3
def Zz6 := opN Z02 4
def ZAe := opN Z02 5
def ZCu := opN Z02 6
def ZCd := opN Z02 7
def ZzG := opN Z02 8
theorem Z0d3 : XD 24 26 Zpv Z02 [14, 17, 18, 19, 20, 21, 22, 23, 24] := Z0h (by rfl) (by rfl) _
theorem ZYd : Z02.toList = [ZAH, ZBv, ZDv, Zwk, Zz6, ZAe, ZCu, ZCd, ZzG] := nf
theorem ZUF : statOk Z02 = true := by kernel_rfl
theorem ZQ1 : drawA E C B 26 Z02 s = if neat 26 s = true then drX Z02 (runT E C B 26 Z02 Z02.toList 0 s) else none := Z00 ZUF s
theorem ZNV (l : List (Nat × Tr)) : dynOk Z02 l = (!writing l || Za [[], [], [0, 1], [0, 1, 2], [], [], [4, 5], [4, 5, 6], [0, 1, 2, 3, 4, 5, 6, 7]] (Z9 l)) := ZQ (by kernel_rfl) l
theorem Z06o : stepT E C B 26 Z02 ZAH (φ, H) = some ((fput φ 17 (fget φ 0), H), ⟨false, [], []⟩) := Z3 rfl (Z7 rfl rfl)
theorem ZYa : stepT E C B 26 Z02 ZBv (φ, H) = some ((fput φ 18 (fget φ 5), H), ⟨false, [], []⟩) := Z3 rfl (Z7 rfl rfl)
theorem Z04H : stepT E C B 26 Z02 ZDv (φ, H) = stpT (some 19) φ H (just (Z2 E.T 22 (fget φ 17) (fget φ 18))) := Z3 rfl (Z5 rfl rfl)
theorem ZWP : stepT E C B 26 Z02 Zwk (φ, H) = stpT (some 20) φ H (just (aLoad E.T 3 (fget φ 19))) := Z3 rfl (Z5 rfl rfl)
theorem ZXr : stepT E C B 26 Z02 Zz6 (φ, H) = some ((fput φ 21 (fget φ 1), H), ⟨false, [], []⟩) := Z3 rfl (Z7 rfl rfl)
theorem ZXQ : stepT E C B 26 Z02 ZAe (φ, H) = some ((fput φ 22 (fget φ 5), H), ⟨false, [], []⟩) := Z3 rfl (Z7 rfl rfl)
theorem Z03x : stepT E C B 26 Z02 ZCu (φ, H) = stpT (some 23) φ H (just (Z2 E.T 22 (fget φ 21) (fget φ 22))) := Z3 rfl (Z5 rfl rfl)
theorem Z02q : stepT E C B 26 Z02 ZCd (φ, H) = stpT (some 24) φ H (just (aLoad E.T 3 (fget φ 23))) := Z3 rfl (Z5 rfl rfl)
theorem ZXf : stepT E C B 26 Z02 ZzG (φ, H) = stpT (some 25) φ H (just (aBin E.T .neq 3 (fget φ 20) (fget φ 24))) := Z3 rfl (Z5 rfl rfl)
def Z9g := kR ZaG
def Za6 := kT Z9g
def Znv := kL Za6
def Zjg := kO Znv
def Zxw := opN Zjg 0
theorem Z0dC : XG 24 26 Znv Zjg [0, 1, 5, 25] := Z1 (by rfl) (by rfl) _
theorem Z03M : Zjg.toList = [Zxw] := nf
theorem ZXL : stepA E C B 26 Zjg Zxw (φ, H) = some (fput φ 4 (.bool false), H) := nf
def ZHz := kR Za6
theorem Z0fM : execA E C (fg 24) B 26 E0 N ZHz s = some (.ret, s) := Zq (by rfl) s
theorem Z0bO : XQ 24 26 Za6 Znv ZHz := Z0 (by rfl) _
def ZMJ := kE Z9g
theorem Z0bu : execA E C (fg 24) B 26 E0 N ZMJ s = some (.normal, s) := Zh (by rfl) s
theorem Z0hj : XC 24 26 Z9g 25 Za6 ZMJ := Zf (by rfl) _
theorem Z0bJ : XQ 24 26 ZaG Zpv Z9g := Z0 (by rfl) _
theorem Z0iB : execA E C (fg 24) B 26 E0 N Zle s = blockX 1 (fun s => (forget s.1 [25], s.2)) (execA E C (fg 24) B 26 E0 N ZaG s) := Ze (by rfl) (by rfl) s
def Znf := kR Zaq
def Z45 := kO Znf
def ZwL := opN Z45 0
def ZvB := opN Z45 1
def Zv1 := opN Z45 2
theorem Z0aP : XG 24 26 Znf Z45 [15, 16] := Z1 (by rfl) (by rfl) _
theorem ZZx : Z45.toList = [ZwL, ZvB, Zv1] := nf
theorem Z05v : stepA E C B 26 Z45 ZwL (φ, H) = some (fput φ 15 (fget φ 5), H) := nf
theorem Z08f : stepA E C B 26 Z45 ZvB (φ, H) = stp (some 16) φ H (just (aBin E.T .add 3 (fget φ 15) (.int .i64 1))) := nf
theorem Z00N : stepA E C B 26 Z45 Zv1 (φ, H) = some (fput φ 5 (fget φ 16), H) := nf
theorem Z0bB : XQ 24 26 Zaq Zle Znf := Z0 (by rfl) _
theorem Z0ia : XQ 24 26 Z4H Zcg Zaq := Z0 (by rfl) _
theorem Z0fZ : execA E C (fg 24) B 26 E0 N Zp4 s = iterA (execA E C (fg 24) B 26 E0 N Z4H) (headA E0) N s := ZV (by rfl) s
theorem Z0hA : execA E C (fg 24) B 26 E0 N Zll s = blockX 0 (fun s => (forget s.1 [0, 1, 5, 14], s.2)) (execA E C (fg 24) B 26 E0 N Zp4 s) := Ze (by rfl) (by rfl) s
theorem Z0iG : XQ 24 26 ZbO Znz Zll := Z0 (by rfl) _
def Z9R := kR Zbl
def ZnJ := kL Z9R
def ZiZ := kO ZnJ
def Zxq := opN ZiZ 0
theorem Z0eG : XG 24 26 ZnJ ZiZ [] := Z1 (by rfl) (by rfl) _
theorem Z07B : ZiZ.toList = [Zxq] := nf
theorem Z04V : stepA E C B 26 ZiZ Zxq (φ, H) = some (fput φ 4 (.bool true), H) := nf
def ZI8 := kR Z9R
theorem Z0bY : execA E C (fg 24) B 26 E0 N ZI8 s = some (.ret, s) := Zq (by rfl) s
theorem Z0cd : XQ 24 26 Z9R ZnJ ZI8 := Z0 (by rfl) _
theorem Z0ft : XQ 24 26 Zbl ZbO Z9R := Z0 (by rfl) _
theorem Z0mn : XQ 24 26 Zkb Zk5 Zbl := Z0 (by rfl) _
theorem Z0kX : XQ 24 26 Zbz ZEk Zkb := Z0 (by rfl) _
theorem Z0nl : fInfo E 24 = some ⟨26, #[.tmp 4], Zbz⟩ := nf
theorem b_24 (args : List AV) : bodyA E C fg N 24 args H B = bodyX E [.tmp 4] (execA E C (fg 24) B 26 H N Zbz (Z8 args 0 [], H)) := Zt Z0nl args H
abbrev F_24 := And.intro (And.intro (And.intro (And.intro (And.intro (And.intro @Z0l6 @Z04P) (And.intro @Z01f @Z0iO)) (And.intro (And.intro @ZYN @Z09S) (And.intro @Z00e (And.intro @Z07u @Z02p)))) (And.intro (And.intro (And.intro @Z06u @Z0m0) (And.intro @Z05C @Z01e)) (And.intro (And.intro @Z0mS @Z0li) (And.intro @Z0m7 (And.intro @Z0jI @Z0mP))))) (And.intro (And.intro (And.intro (And.intro @Z0fR @Z00T) (And.intro @Z00u @Z0eZ)) (And.intro (And.intro @Z03j @Z02P) (And.intro @Z0ao (And.intro @Z00E @Z075)))) (And.intro (And.intro (And.intro @Z0c8 @Z0e2) (And.intro @Z0g8 @Z0bE)) (And.intro (And.intro @Z0d3 @ZYd) (And.intro @ZQ1 (And.intro @ZNV @Z06o)))))) (And.intro (And.intro (And.intro (And.intro (And.intro @ZYa @Z04H) (And.intro @ZWP @ZXr)) (And.intro (And.intro @ZXQ @Z03x) (And.intro @Z02q (And.intro @ZXf @Z0dC)))) (And.intro (And.intro (And.intro @Z03M @ZXL) (And.intro @Z0fM @Z0bO)) (And.intro (And.intro @Z0bu @Z0hj) (And.intro @Z0bJ (And.intro @Z0iB @Z0aP))))) (And.intro (And.intro (And.intro (And.intro @ZZx @Z05v) (And.intro @Z08f @Z00N)) (And.intro (And.intro @Z0bB @Z0ia) (And.intro @Z0fZ (And.intro @Z0hA @Z0iG)))) (And.intro (And.intro (And.intro @Z0eG @Z07B) (And.intro @Z04V @Z0bY)) (And.intro (And.intro @Z0cd @Z0ft) (And.intro @Z0mn (And.intro @Z0kX @b_24))))))
def Zbu := kBody Proofs.Try.f56
def ZFz := kL Zbu
def Z87 := kO ZFz
def ZwX := opN Z87 0
def ZxF := opN Z87 1
theorem Z0lm : XG 56 40 ZFz Z87 [0, 6] := Z1 (by rfl) (by rfl) _
theorem Z05h : Z87.toList = [ZwX, ZxF] := nf
theorem Z07D : stepA E C B 40 Z87 ZwX (φ, H) = stp (some 3) φ H (opBox (B + 3) (acells (fget φ 0))) := nf
theorem Z01d : stepA E C B 40 Z87 ZxF (φ, H) = some (fput φ 6 (.nilsl), H) := nf
def Zj9 := kR Zbu
def ZEy := kL Zj9
def ZjI := kO ZEy
def Zxn := opN ZjI 0
theorem Z0k9 : XG 56 40 ZEy ZjI [] := Z1 (by rfl) (by rfl) _
theorem Z02E : ZjI.toList = [Zxn] := nf
theorem Z01D : stepA E C B 40 ZjI Zxn (φ, H) = some (fput φ 7 (.nilsl), H) := nf
def Zkh := kR Zj9
def ZjL := kL Zkh
def ZDA := kL ZjL
def Z0x := kO ZDA
def Zzq := opN Z0x 0
def ZCr := opN Z0x 1
def ZDs := opN Z0x 2
def ZCs := opN Z0x 3
def Zvq := opN Z0x 4
def ZwQ := opN Z0x 5
def Zzs := opN Z0x 6
def ZAE := opN Z0x 7
def ZwI := opN Z0x 8
def ZxV := opN Z0x 9
theorem Z0l9 : XG 56 40 ZDA Z0x [1, 10, 11, 12, 13, 14, 15, 16] := Z1 (by rfl) (by rfl) _
theorem Z07K : Z0x.toList = [Zzq, ZCr, ZDs, ZCs, Zvq, ZwQ, Zzs, ZAE, ZwI, ZxV] := nf
theorem Z09t : stepA E C B 40 Z0x Zzq (φ, H) = stp (some 10) φ H (just (Z0I E.T 49 (fget φ 3) 2)) := nf
theorem Z08n : stepA E C B 40 Z0x ZCr (φ, H) = stp (some 11) φ H (just (Z0I E.T 49 (fget φ 3) 0)) := nf
theorem ZZD : stepA E C B 40 Z0x ZDs (φ, H) = stp (some 12) φ H (just (aLoad E.T 5 (fget φ 11))) := nf
theorem Z05k : stepA E C B 40 Z0x ZCs (φ, H) = stp (some 13) φ H (justO (aConv E.T 5 3 (fget φ 12))) := nf
theorem Z07Y : stepA E C B 40 Z0x Zvq (φ, H) = some (fput φ 14 (fget φ 1), H) := nf
theorem Z01V : stepA E C B 40 Z0x ZwQ (φ, H) = stp (some 15) φ H (just (aBin E.T .rem 3 (fget φ 13) (fget φ 14))) := nf
theorem ZZq : stepA E C B 40 Z0x Zzs (φ, H) = stp (some 16) φ H (just (aBin E.T .add 3 (.int .i64 1) (fget φ 15))) := nf
theorem Z00B : stepA E C B 40 Z0x ZAE (φ, H) = stp (some 17) φ H (just (aSlice E.T 47 (fget φ 10) none (some (fget φ 16)) none)) := nf
theorem Z03C : stepA E C B 40 Z0x ZwI (φ, H) = stp (some 18) φ H (Z4 E.T (B + 18) .len #[93] [(fget φ 17)]) := nf
theorem Z00w : stepA E C B 40 Z0x ZxV (φ, H) = some (fput φ 19 (.int .i64 0), H) := nf
def ZEV := kR ZjL
def ZFm := kB ZEV
def Z6I := kB ZFm
def Znq := kL Z6I
def Zka := kO Znq
def Zym := opN Zka 0
theorem Z0dy : XG 56 40 Znq Zka [] := Z1 (by rfl) (by rfl) _
theorem Z053 : Zka.toList = [Zym] := nf
theorem Z063 : stepA E C B 40 Zka Zym (φ, H) = stp (some 20) φ H (just (aBin E.T .lss 3 (fget φ 19) (fget φ 18))) := nf
def Z9i := kR Z6I
def Z9N := kL Z9i
def ZJn := kT Z9N
theorem Z0gK : execA E C (fg 56) B 40 E0 N ZJn s = some (.normal, s) := Zh (by rfl) s
def ZHb := kE Z9N
theorem Z0c2 : execA E C (fg 56) B 40 E0 N ZHb s = some (.exit 0, s) := ZI (by rfl) s
theorem Z0g4 : XC 56 40 Z9N 20 ZJn ZHb := Zf (by rfl) _
def Z95 := kR Z9i
def ZoF := kL Z95
def ZbP := kB ZoF
def ZoW := kL ZbP
def Z4g := kO ZoW
def ZDi := opN Z4g 0
def ZA6 := opN Z4g 1
def ZBB := opN Z4g 2
theorem Z0ep : XG 56 40 ZoW Z4g [20, 21, 22] := Z1 (by rfl) (by rfl) _
theorem Z07H : Z4g.toList = [ZDi, ZA6, ZBB] := nf
theorem Z01k : stepA E C B 40 Z4g ZDi (φ, H) = stp (some 21) φ H (just (Z2 E.T 93 (fget φ 17) (fget φ 19))) := nf
theorem Z00L : stepA E C B 40 Z4g ZA6 (φ, H) = stp (some 22) φ H (just (aLoad E.T 5 (fget φ 21))) := nf
theorem Z032 : stepA E C B 40 Z4g ZBB (φ, H) = some (fput φ 9 (fget φ 22), H) := nf
def ZtT := kR ZbP
def ZU := kO ZtT
def ZAW := opN ZU 0
def Zws := opN ZU 1
def ZAG := opN ZU 2
def Zz8 := opN ZU 3
def ZvY := opN ZU 4
def Zvo := opN ZU 5
def Zzf := opN ZU 6
def ZCw := opN ZU 7
def Zyf := opN ZU 8
def Zyh := opN ZU 9
def ZoB := opN ZU 10
def ZrT := opN ZU 11
def ZsX := opN ZU 12
def Zr1 := opN ZU 13
theorem Z0ed : XG 56 40 ZtT ZU [9, 23, 24, 25, 26, 27, 28, 29, 30, 31, 32, 33, 34, 35] := Z1 (by rfl) (by rfl) _
theorem Z05V : ZU.toList = [ZAW, Zws, ZAG, Zz8, ZvY, Zvo, Zzf, ZCw, Zyf, Zyh, ZoB, ZrT, ZsX, Zr1] := nf
theorem Z07i : stepA E C B 40 ZU ZAW (φ, H) = some (fput φ 23 (fget φ 7), H) := nf
theorem Z05e : stepA E C B 40 ZU Zws (φ, H) = some (fput φ 24 (fget φ 9), H) := nf
theorem Z07d : stepA E C B 40 ZU ZAG (φ, H) = stp (some 25) φ H (justO (aConv E.T 5 3 (fget φ 24))) := nf
theorem ZX6 : stepA E C B 40 ZU Zz8 (φ, H) = stp (some 26) φ H (just (Z0I E.T 49 (fget φ 3) 1)) := nf
theorem Z00h : stepA E C B 40 ZU ZvY (φ, H) = stp (some 27) φ H (just (aLoad E.T 5 (fget φ 26))) := nf
theorem Z05M : stepA E C B 40 ZU Zvo (φ, H) = stp (some 28) φ H (justO (aConv E.T 5 3 (fget φ 27))) := nf
theorem Z09o : stepA E C B 40 ZU Zzf (φ, H) = some (fput φ 29 (fget φ 2), H) := nf
theorem Z058 : stepA E C B 40 ZU ZCw (φ, H) = stp (some 30) φ H (just (aBin E.T .rem 3 (fget φ 28) (fget φ 29))) := nf
theorem Z05n : stepA E C B 40 ZU Zyf (φ, H) = stp (some 31) φ H (just (aBin E.T .add 3 (.int .i64 1) (fget φ 30))) := nf
theorem Z034 : stepA E C B 40 ZU Zyh (φ, H) = stp (some 32) φ H (just (aBin E.T .add 3 (fget φ 31) (.int .i64 1))) := nf
theorem ZPl : stepA E C B 40 ZU ZoB (φ, H) = stp (some 33) φ H (just (aBin E.T .rem 3 (fget φ 25) (fget φ 32))) := nf
theorem ZOE : stepA E C B 40 ZU ZrT (φ, H) = stp (some 34) φ H (Zi E.T (B + 34) 22 1 (evO E φ) [(0, Operand.tmp 33)]) := nf
theorem ZVH : stepA E C B 40 ZU ZsX (φ, H) = stp (some 35) φ H (Z4 E.T (B + 35) .append #[22, 22] [(fget φ 23), (fget φ 34)]) := nf
theorem ZTq : stepA E C B 40 ZU Zr1 (φ, H) = some (fput φ 7 (fget φ 35), H) := nf
theorem Z0db : XQ 56 40 ZbP ZoW ZtT := Z0 (by rfl) _
theorem Z0iA : execA E C (fg 56) B 40 E0 N ZoF s = blockX 1 (fun s => (forget s.1 [], s.2)) (execA E C (fg 56) B 40 E0 N ZbP s) := Ze (by rfl) (by rfl) s
def ZlF := kR Z95
def Z7K := kO ZlF
def ZCm := opN Z7K 0
def ZzK := opN Z7K 1
theorem Z0gS : XG 56 40 ZlF Z7K [36] := Z1 (by rfl) (by rfl) _
theorem ZXg : Z7K.toList = [ZCm, ZzK] := nf
theorem Z072 : stepA E C B 40 Z7K ZCm (φ, H) = stp (some 36) φ H (just (aBin E.T .add 3 (fget φ 19) (.int .i64 1))) := nf
theorem Z02J : stepA E C B 40 Z7K ZzK (φ, H) = some (fput φ 19 (fget φ 36), H) := nf
theorem Z0ir : XQ 56 40 Z95 ZoF ZlF := Z0 (by rfl) _
theorem Z0cb : XQ 56 40 Z9i Z9N Z95 := Z0 (by rfl) _
theorem Z0lu : XQ 56 40 Z6I Znq Z9i := Z0 (by rfl) _
theorem Z0lC : execA E C (fg 56) B 40 E0 N ZFm s = iterA (execA E C (fg 56) B 40 E0 N Z6I) (headA E0) N s := ZV (by rfl) s
theorem Z0kR : execA E C (fg 56) B 40 E0 N ZEV s = blockX 0 (fun s => (forget s.1 [2, 3, 17, 18, 19, 20], s.2)) (execA E C (fg 56) B 40 E0 N ZFm s) := Ze (by rfl) (by rfl) s
theorem Z0ka : XQ 56 40 ZjL ZDA ZEV := Z0 (by rfl) _
def Z9T := kR Zkh
def Zst := kL Z9T
def Z7m := kO Zst
def Zzo := opN Z7m 0
def ZAZ := opN Z7m 1
theorem Z0ix : XG 56 40 Zst Z7m [37, 38] := Z1 (by rfl) (by rfl) _
theorem ZXS : Z7m.toList = [Zzo, ZAZ] := nf
theorem Z06e : stepA E C B 40 Z7m Zzo (φ, H) = some (fput φ 37 (fget φ 7), H) := nf
theorem Z05R : stepA E C B 40 Z7m ZAZ (φ, H) = mutX (some 38) φ (C 67 [(fget φ 37)] H (B + 40 * 8)) := nf
def Z9w := kR Z9T
def Zp2 := kL Z9w
def Z7y := kO Zp2
def ZuT := opN Z7y 0
def ZyW := opN Z7y 1
theorem Z0gt : XG 56 40 Zp2 Z7y [7, 39] := Z1 (by rfl) (by rfl) _
theorem Z02C : Z7y.toList = [ZuT, ZyW] := nf
theorem Z04i : stepA E C B 40 Z7y ZuT (φ, H) = some (fput φ 39 (fget φ 7), H) := nf
theorem ZXb : stepA E C B 40 Z7y ZyW (φ, H) = some (fput φ 6 (fget φ 39), H) := nf
def ZJA := kR Z9w
theorem Z0ex : execA E C (fg 56) B 40 E0 N ZJA s = some (.ret, s) := Zq (by rfl) s
theorem Z0br : XQ 56 40 Z9w Zp2 ZJA := Z0 (by rfl) _
theorem Z0ge : XQ 56 40 Z9T Zst Z9w := Z0 (by rfl) _
theorem Z0ly : XQ 56 40 Zkh ZjL Z9T := Z0 (by rfl) _
theorem Z0l3 : XQ 56 40 Zj9 ZEy Zkh := Z0 (by rfl) _
theorem Z0kG : XQ 56 40 Zbu ZFz Zj9 := Z0 (by rfl) _
theorem Z0jf : fInfo E 56 = some ⟨40, #[.tmp 6], Zbu⟩ := nf
theorem b_56 (args : List AV) : bodyA E C fg N 56 args H B = bodyX E [.tmp 6] (execA E C (fg 56) B 40 H N Zbu (Z8 args 0 [], H)) := Zt Z0jf args H
abbrev F_56 := And.intro (And.intro (And.intro (And.intro (And.intro (And.intro @Z0lm @Z05h) (And.intro @Z07D @Z01d)) (And.intro (And.intro @Z0k9 @Z02E) (And.intro @Z01D (And.intro @Z0l9 @Z07K)))) (And.intro (And.intro (And.intro @Z09t @Z08n) (And.intro @ZZD @Z05k)) (And.intro (And.intro @Z07Y @Z01V) (And.intro @ZZq (And.intro @Z00B @Z03C))))) (And.intro (And.intro (And.intro (And.intro @Z00w @Z0dy) (And.intro @Z053 @Z063)) (And.intro (And.intro @Z0gK @Z0c2) (And.intro @Z0g4 (And.intro @Z0ep @Z07H)))) (And.intro (And.intro (And.intro @Z01k @Z00L) (And.intro @Z032 @Z0ed)) (And.intro (And.intro @Z05V @Z07i) (And.intro @Z05e (And.intro @Z07d @ZX6)))))) (And.intro (And.intro (And.intro (And.intro (And.intro @Z00h @Z05M) (And.intro @Z09o @Z058)) (And.intro (And.intro @Z05n @Z034) (And.intro @ZPl (And.intro @ZOE @ZVH)))) (And.intro (And.intro (And.intro @ZTq @Z0db) (And.intro @Z0iA @Z0gS)) (And.intro (And.intro @ZXg @Z072) (And.intro @Z02J (And.intro @Z0ir @Z0cb))))) (And.intro (And.intro (And.intro (And.intro @Z0lu @Z0lC) (And.intro @Z0kR @Z0ka)) (And.intro (And.intro @Z0ix @ZXS) (And.intro @Z06e (And.intro @Z05R @Z0gt)))) (And.intro (And.intro (And.intro @Z02C @Z04i) (And.intro @ZXb (And.intro @Z0ex @Z0br))) (And.intro (And.intro @Z0ge @Z0ly) (And.intro @Z0l3 (And.intro @Z0kG @b_56))))))
def Zjs := kBody Proofs.Try.f67
def Z6k := kO Zjs
def ZAk := opN Z6k 0
def Zzt := opN Z6k 1
theorem Z0j7 : XG 67 4 Zjs Z6k [0, 2, 3] := Z1 (by rfl) (by rfl) _
theorem ZY8 : Z6k.toList = [ZAk, Zzt] := nf
theorem Z09b : stepA E C B 4 Z6k ZAk (φ, H) = some (fput φ 2 (fget φ 0), H) := nf
theorem Z02b : stepA E C B 4 Z6k Zzt (φ, H) = mutX (some 3) φ (C 108 [(fget φ 2), (.clo 109 [])] H (B + 4 * 8)) := nf
theorem Z0mH : fInfo E 67 = some ⟨4, #[], Zjs⟩ := nf
theorem b_67 (args : List AV) : bodyA E C fg N 67 args H B = bodyX E [] (execA E C (fg 67) B 4 H N Zjs (Z8 args 0 [], H)) := Zt Z0mH args H
abbrev F_67 := And.intro (And.intro @Z0j7 @ZY8) (And.intro @Z09b (And.intro @Z02b @b_67))
def Z60 := kBody Proofs.Try.f109
def Zul := kL Z60
def Zcy := kO Zul
def Ztw := opN Zcy 0
theorem Z0cK : XG 109 8 Zul Zcy [4] := Z1 (by rfl) (by rfl) _
theorem ZOB : Zcy.toList = [Ztw] := nf
theorem ZSK : stepA E C B 8 Zcy Ztw (φ, H) = some (fput φ 4 (.int .i64 0), H) := nf
def Zcr := kR Z60
def Zs4 := kL Zcr
def Z1J := kO Zs4
def ZkZ := opN Z1J 0
def Zph := opN Z1J 1
def ZrL := opN Z1J 2
def Zsz := opN Z1J 3
theorem Z0aB : XG 109 8 Zs4 Z1J [0, 1, 5, 6, 7] := Z1 (by rfl) (by rfl) _
theorem ZTo : Z1J.toList = [ZkZ, Zph, ZrL, Zsz] := nf
theorem ZVh : stepA E C B 8 Z1J ZkZ (φ, H) = some (fput φ 5 (fget φ 1), H) := nf
theorem ZSz : stepA E C B 8 Z1J Zph (φ, H) = some (fput φ 6 (fget φ 0), H) := nf
theorem ZNq : stepA E C B 8 Z1J ZrL (φ, H) = stp (some 7) φ H (just (aBin E.T .sub 3 (fget φ 5) (fget φ 6))) := nf
theorem ZOS : stepA E C B 8 Z1J Zsz (φ, H) = some (fput φ 4 (fget φ 7), H) := nf
def ZJp := kR Zcr
theorem Z0fg : execA E C (fg 109) B 8 E0 N ZJp s = some (.ret, s) := Zq (by rfl) s
theorem Z0io : XQ 109 8 Zcr Zs4 ZJp := Z0 (by rfl) _
theorem Z0aL : XQ 109 8 Z60 Zul Zcr := Z0 (by rfl) _
theorem ZsH : fInfo E 109 = some ⟨8, #[.tmp 4], Z60⟩ := nf
theorem Z0jO (args : List AV) : bodyA E C fg N 109 args H B = bodyX E [.tmp 4] (execA E C (fg 109) B 8 H N Z60 (Z8 args 0 [], H)) := Zt ZsH args H
abbrev Z0nj := And.intro (And.intro (And.intro @Z0cK (And.intro @ZOB @ZSK)) (And.intro @Z0aB (And.intro @ZTo @ZVh))) (And.intro (And.intro @ZSz (And.intro @ZNq @ZOS)) (And.intro (And.intro @Z0fg @Z0io) (And.intro @Z0aL @Z0jO)))
def Zan := kBody Proofs.Try.f58
def ZFy := kL Zan
def Zjd := kO ZFy
def ZxR := opN Zjd 0
theorem Z0iV : XG 58 17 ZFy Zjd [2] := Z1 (by rfl) (by rfl) _
theorem Z05m : Zjd.toList = [ZxR] := nf
theorem Z0aa : stepA E C B 17 Zjd ZxR (φ, H) = some (fput φ 2 (.int .i64 0), H) := nf
def ZjQ := kR Zan
def ZEb := kL ZjQ
def ZjB := kO ZEb
def Zyp := opN ZjB 0
theorem Z0jy : XG 58 17 ZEb ZjB [] := Z1 (by rfl) (by rfl) _
theorem Z00H : ZjB.toList = [Zyp] := nf
theorem ZXJ : stepA E C B 17 ZjB Zyp (φ, H) = some (fput φ 3 (.int .i64 0), H) := nf
def Zjp := kR ZjQ
def Zju := kL Zjp
def ZE3 := kL Zju
def Z4a := kO ZE3
def ZvK := opN Z4a 0
def ZuZ := opN Z4a 1
def Zxt := opN Z4a 2
theorem Z0mu : XG 58 17 ZE3 Z4a [0] := Z1 (by rfl) (by rfl) _
theorem Z01v : Z4a.toList = [ZvK, ZuZ, Zxt] := nf
theorem Z07x : stepA E C B 17 Z4a ZvK (φ, H) = some (fput φ 6 (fget φ 0), H) := nf
theorem Z04L : stepA E C B 17 Z4a ZuZ (φ, H) = stp (some 7) φ H (Z4 E.T (B + 7) .len #[22] [(fget φ 6)]) := nf
theorem Z06M : stepA E C B 17 Z4a Zxt (φ, H) = some (fput φ 8 (.int .i64 0), H) := nf
def ZEQ := kR Zju
def ZEv := kB ZEQ
def Z6A := kB ZEv
def Zko := kL Z6A
def Zjl := kO Zko
def ZAB := opN Zjl 0
theorem Z0gw : XG 58 17 Zko Zjl [] := Z1 (by rfl) (by rfl) _
theorem ZZe : Zjl.toList = [ZAB] := nf
theorem Z09q : stepA E C B 17 Zjl ZAB (φ, H) = stp (some 9) φ H (just (aBin E.T .lss 3 (fget φ 8) (fget φ 7))) := nf
def Z9Z := kR Z6A
def Zcn := kL Z9Z
def ZGi := kT Zcn
theorem Z0eS : execA E C (fg 58) B 17 E0 N ZGi s = some (.normal, s) := Zh (by rfl) s
def ZKD := kE Zcn
theorem Z0g5 : execA E C (fg 58) B 17 E0 N ZKD s = some (.exit 0, s) := ZI (by rfl) s
theorem Z0cR : XC 58 17 Zcn 9 ZGi ZKD := Zf (by rfl) _
def Z9b := kR Z9Z
def Zon := kL Z9b
def ZaE := kB Zon
def Zn8 := kL ZaE
def Z4k := kO Zn8
def Zw7 := opN Z4k 0
def ZBG := opN Z4k 1
def Zxp := opN Z4k 2
theorem Z0fy : XG 58 17 Zn8 Z4k [9, 10, 11] := Z1 (by rfl) (by rfl) _
theorem Z04h : Z4k.toList = [Zw7, ZBG, Zxp] := nf
theorem Z09E : stepA E C B 17 Z4k Zw7 (φ, H) = stp (some 10) φ H (just (Z2 E.T 22 (fget φ 6) (fget φ 8))) := nf
theorem Z05x : stepA E C B 17 Z4k ZBG (φ, H) = stp (some 11) φ H (just (aLoad E.T 3 (fget φ 10))) := nf
theorem Z06E : stepA E C B 17 Z4k Zxp (φ, H) = some (fput φ 5 (fget φ 11), H) := nf
def ZlT := kR ZaE
def Z2H := kO ZlT
def ZBE := opN Z2H 0
def ZBV := opN Z2H 1
def Zv4 := opN Z2H 2
def ZB9 := opN Z2H 3
theorem Z0cl : XG 58 17 ZlT Z2H [5, 12, 13, 14] := Z1 (by rfl) (by rfl) _
theorem Z02V : Z2H.toList = [ZBE, ZBV, Zv4, ZB9] := nf
theorem Z05j : stepA E C B 17 Z2H ZBE (φ, H) = some (fput φ 12 (fget φ 3), H) := nf
theorem Z06V : stepA E C B 17 Z2H ZBV (φ, H) = some (fput φ 13 (fget φ 5), H) := nf
theorem ZYW : stepA E C B 17 Z2H Zv4 (φ, H) = stp (some 14) φ H (just (aBin E.T .add 3 (fget φ 12) (fget φ 13))) := nf
theorem Z06H : stepA E C B 17 Z2H ZB9 (φ, H) = some (fput φ 3 (fget φ 14), H) := nf
theorem Z0gG : XQ 58 17 ZaE Zn8 ZlT := Z0 (by rfl) _
theorem Z0fY : execA E C (fg 58) B 17 E0 N Zon s = blockX 1 (fun s => (forget s.1 [], s.2)) (execA E C (fg 58) B 17 E0 N ZaE s) := Ze (by rfl) (by rfl) s
def Zpn := kR Z9b
def Z68 := kO Zpn
def Zv0 := opN Z68 0
def ZxC := opN Z68 1
theorem Z0co : XG 58 17 Zpn Z68 [15] := Z1 (by rfl) (by rfl) _
theorem Z05H : Z68.toList = [Zv0, ZxC] := nf
theorem Z07G : stepA E C B 17 Z68 Zv0 (φ, H) = stp (some 15) φ H (just (aBin E.T .add 3 (fget φ 8) (.int .i64 1))) := nf
theorem Z01G : stepA E C B 17 Z68 ZxC (φ, H) = some (fput φ 8 (fget φ 15), H) := nf
theorem Z0d8 : XQ 58 17 Z9b Zon Zpn := Z0 (by rfl) _
theorem Z0cc : XQ 58 17 Z9Z Zcn Z9b := Z0 (by rfl) _
theorem Z0jq : XQ 58 17 Z6A Zko Z9Z := Z0 (by rfl) _
theorem Z0jC : execA E C (fg 58) B 17 E0 N ZEv s = iterA (execA E C (fg 58) B 17 E0 N Z6A) (headA E0) N s := ZV (by rfl) s
theorem Z0kc : execA E C (fg 58) B 17 E0 N ZEQ s = blockX 0 (fun s => (forget s.1 [6, 7, 8, 9], s.2)) (execA E C (fg 58) B 17 E0 N ZEv s) := Ze (by rfl) (by rfl) s
theorem Z0mU : XQ 58 17 Zju ZE3 ZEQ := Z0 (by rfl) _
def Zbx := kR Zjp
def ZlO := kL Zbx
def Z79 := kO ZlO
def ZC1 := opN Z79 0
def Zvx := opN Z79 1
theorem Z0ga : XG 58 17 ZlO Z79 [3, 16] := Z1 (by rfl) (by rfl) _
theorem Z061 : Z79.toList = [ZC1, Zvx] := nf
theorem Z02w : stepA E C B 17 Z79 ZC1 (φ, H) = some (fput φ 16 (fget φ 3), H) := nf
theorem ZY4 : stepA E C B 17 Z79 Zvx (φ, H) = some (fput φ 2 (fget φ 16), H) := nf
def ZFN := kR Zbx
theorem Z0ee : execA E C (fg 58) B 17 E0 N ZFN s = some (.ret, s) := Zq (by rfl) s
theorem Z0gB : XQ 58 17 Zbx ZlO ZFN := Z0 (by rfl) _
theorem Z0lX : XQ 58 17 Zjp Zju Zbx := Z0 (by rfl) _
theorem Z0mF : XQ 58 17 ZjQ ZEb Zjp := Z0 (by rfl) _
theorem Z0n5 : XQ 58 17 Zan ZFy ZjQ := Z0 (by rfl) _
theorem Z0m3 : fInfo E 58 = some ⟨17, #[.tmp 2], Zan⟩ := nf
theorem b_58 (args : List AV) : bodyA E C fg N 58 args H B = bodyX E [.tmp 2] (execA E C (fg 58) B 17 H N Zan (Z8 args 0 [], H)) := Zt Z0m3 args H
abbrev F_58 := And.intro (And.intro (And.intro (And.intro (And.intro @Z0iV (And.intro @Z05m @Z0aa)) (And.intro @Z0jy (And.intro @Z00H @ZXJ))) (And.intro (And.intro @Z0mu (And.intro @Z01v @Z07x)) (And.intro @Z04L (And.intro @Z06M @Z0gw)))) (And.intro (And.intro (And.intro @ZZe (And.intro @Z09q @Z0eS)) (And.intro @Z0g5 (And.intro @Z0cR @Z0fy))) (And.intro (And.intro @Z04h (And.intro @Z09E @Z05x)) (And.intro (And.intro @Z06E @Z0cl) (And.intro @Z02V @Z05j))))) (And.intro (And.intro (And.intro (And.intro @Z06V (And.intro @ZYW @Z06H)) (And.intro @Z0gG (And.intro @Z0fY @Z0co))) (And.intro (And.intro @Z05H (And.intro @Z07G @Z01G)) (And.intro @Z0d8 (And.intro @Z0cc @Z0jq)))) (And.intro (And.intro (And.intro @Z0jC (And.intro @Z0kc @Z0mU)) (And.intro @Z0ga (And.intro @Z061 @Z02w))) (And.intro (And.intro @ZY4 (And.intro @Z0ee @Z0gB)) (And.intro (And.intro @Z0lX @Z0mF) (And.intro @Z0n5 @b_58)))))
def Zcz := kBody Proofs.Try.f62
def ZDy := kL Zcz
def ZjK := kO ZDy
def Zwt := opN ZjK 0
theorem Z0le : XG 62 23 ZDy ZjK [4] := Z1 (by rfl) (by rfl) _
theorem ZXw : ZjK.toList = [Zwt] := nf
theorem ZXM : stepA E C B 23 ZjK Zwt (φ, H) = some (fput φ 4 (.bool false), H) := nf
def Zjj := kR Zcz
def Zk6 := kL Zjj
def ZF0 := kL Zk6
def Z4t := kO ZF0
def ZyB := opN Z4t 0
def ZAr := opN Z4t 1
def ZyC := opN Z4t 2
theorem Z0ls : XG 62 23 ZF0 Z4t [6] := Z1 (by rfl) (by rfl) _
theorem Z09c : Z4t.toList = [ZyB, ZAr, ZyC] := nf
theorem Z01H : stepA E C B 23 Z4t ZyB (φ, H) = some (fput φ 6 (fget φ 0), H) := nf
theorem Z04x : stepA E C B 23 Z4t ZAr (φ, H) = stp (some 7) φ H (Z4 E.T (B + 7) .len #[22] [(fget φ 6)]) := nf
theorem Z06A : stepA E C B 23 Z4t ZyC (φ, H) = some (fput φ 8 (.int .i64 0), H) := nf
def ZEn := kR Zk6
def ZEz := kB ZEn
def ZcH := kB ZEz
def ZFf := kL ZcH
def Zja := kO ZFf
def ZvG := opN Zja 0
theorem Z0mZ : XG 62 23 ZFf Zja [] := Z1 (by rfl) (by rfl) _
theorem Z09X : Zja.toList = [ZvG] := nf
theorem Z02R : stepA E C B 23 Zja ZvG (φ, H) = stp (some 9) φ H (just (aBin E.T .lss 3 (fget φ 8) (fget φ 7))) := nf
def ZiB := kR ZcH
def Zc4 := kL ZiB
def ZL1 := kT Zc4
theorem Z0dK : execA E C (fg 62) B 23 E0 N ZL1 s = some (.normal, s) := Zh (by rfl) s
def ZH7 := kE Zc4
theorem Z0ba : execA E C (fg 62) B 23 E0 N ZH7 s = some (.exit 0, s) := ZI (by rfl) s
theorem Z0cn : XC 62 23 Zc4 9 ZL1 ZH7 := Zf (by rfl) _
def ZcU := kR ZiB
def Zmo := kL ZcU
def Z93 := kB Zmo
def Zqh := kL Z93
def Z6Q := kO Zqh
def ZvF := opN Z6Q 0
def ZvV := opN Z6Q 1
theorem Z0dd : XG 62 23 Zqh Z6Q [9, 10] := Z1 (by rfl) (by rfl) _
theorem Z05p : Z6Q.toList = [ZvF, ZvV] := nf
theorem Z05N : stepA E C B 23 Z6Q ZvF (φ, H) = some (fput φ 10 (fget φ 8), H) := nf
theorem Z02O : stepA E C B 23 Z6Q ZvV (φ, H) = some (fput φ 5 (fget φ 10), H) := nf
def Z9k := kR Z93
def Zqj := kL Z9k
def ZR := kO Zqj
def ZB6 := opN ZR 0
def Zxe := opN ZR 1
def ZyT := opN ZR 2
def ZD9 := opN ZR 3
def ZvL := opN ZR 4
def ZxU := opN ZR 5
def ZzV := opN ZR 6
def ZwB := opN ZR 7
def ZAL := opN ZR 8
def ZBc := opN ZR 9
def Zmg := opN ZR 10
theorem Z0hB : XD 62 23 Zqj ZR [5, 11, 12, 13, 14, 15, 16, 17, 18, 19, 20] := Z0h (by rfl) (by rfl) _
theorem Z064 : ZR.toList = [ZB6, Zxe, ZyT, ZD9, ZvL, ZxU, ZzV, ZwB, ZAL, ZBc, Zmg] := nf
theorem ZOy : statOk ZR = true := by kernel_rfl
theorem ZSp : drawA E C B 23 ZR s = if neat 23 s = true then drX ZR (runT E C B 23 ZR ZR.toList 0 s) else none := Z00 ZOy s
theorem ZSv (l : List (Nat × Tr)) : dynOk ZR l = (!writing l || Za [[], [], [1], [0, 1, 2], [0, 1, 2, 3], [], [], [6], [5, 6, 7], [0, 1, 2, 3, 4, 5, 6, 7, 8], [0, 1, 2, 3, 4, 5, 6, 7, 8, 9]] (Z9 l)) := ZQ (by kernel_rfl) l
theorem Z04j : stepT E C B 23 ZR ZB6 (φ, H) = some ((fput φ 11 (fget φ 0), H), ⟨false, [], []⟩) := Z3 rfl (Z7 rfl rfl)
theorem Z09l : stepT E C B 23 ZR Zxe (φ, H) = some ((fput φ 12 (fget φ 5), H), ⟨false, [], []⟩) := Z3 rfl (Z7 rfl rfl)
theorem Z02x : stepT E C B 23 ZR ZyT (φ, H) = stpT (some 13) φ H (just (aBin E.T .add 3 (fget φ 12) (.int .i64 1))) := Z3 rfl (Z5 rfl rfl)
theorem Z06b : stepT E C B 23 ZR ZD9 (φ, H) = stpT (some 14) φ H (just (aSlice E.T 22 (fget φ 11) none (some (fget φ 13)) none)) := Z3 rfl (Z5 rfl rfl)
theorem Z06L : stepT E C B 23 ZR ZvL (φ, H) = stpT (some 15) φ H (aCall C (fun j => B + j * 23 + 15) true 58 [(fget φ 14)]) := Z3 rfl (Z5 rfl rfl)
theorem ZZs : stepT E C B 23 ZR ZxU (φ, H) = some ((fput φ 16 (fget φ 1), H), ⟨false, [], []⟩) := Z3 rfl (Z7 rfl rfl)
theorem ZXy : stepT E C B 23 ZR ZzV (φ, H) = some ((fput φ 17 (fget φ 5), H), ⟨false, [], []⟩) := Z3 rfl (Z7 rfl rfl)
theorem Z073 : stepT E C B 23 ZR ZwB (φ, H) = stpT (some 18) φ H (just (aBin E.T .add 3 (fget φ 17) (.int .i64 1))) := Z3 rfl (Z5 rfl rfl)
theorem Z07l : stepT E C B 23 ZR ZAL (φ, H) = stpT (some 19) φ H (just (aSlice E.T 22 (fget φ 16) none (some (fget φ 18)) none)) := Z3 rfl (Z5 rfl rfl)
theorem Z081 : stepT E C B 23 ZR ZBc (φ, H) = stpT (some 20) φ H (aCall C (fun j => B + j * 23 + 20) true 58 [(fget φ 19)]) := Z3 rfl (Z5 rfl rfl)
theorem ZPu : stepT E C B 23 ZR Zmg (φ, H) = stpT (some 21) φ H (just (aBin E.T .lss 3 (fget φ 15) (fget φ 20))) := Z3 rfl (Z5 rfl rfl)
def Zal := kR Z9k
def ZcK := kT Zal
def Zrz := kL ZcK
def ZiV := kO Zrz
def Zw2 := opN ZiV 0
theorem Z0eQ : XG 62 23 Zrz ZiV [0, 1, 7, 8, 21] := Z1 (by rfl) (by rfl) _
theorem Z082 : ZiV.toList = [Zw2] := nf
theorem Z01W : stepA E C B 23 ZiV Zw2 (φ, H) = some (fput φ 4 (.bool false), H) := nf
def ZME := kR ZcK
theorem Z0iw : execA E C (fg 62) B 23 E0 N ZME s = some (.ret, s) := Zq (by rfl) s
theorem Z0dM : XQ 62 23 ZcK Zrz ZME := Z0 (by rfl) _
def ZKG := kE Zal
theorem Z0d7 : execA E C (fg 62) B 23 E0 N ZKG s = some (.normal, s) := Zh (by rfl) s
theorem Z0bN : XC 62 23 Zal 21 ZcK ZKG := Zf (by rfl) _
theorem Z0eP : XQ 62 23 Z9k Zqj Zal := Z0 (by rfl) _
theorem Z0hx : XQ 62 23 Z93 Zqh Z9k := Z0 (by rfl) _
theorem Z0f1 : execA E C (fg 62) B 23 E0 N Zmo s = blockX 1 (fun s => (forget s.1 [21], s.2)) (execA E C (fg 62) B 23 E0 N Z93 s) := Ze (by rfl) (by rfl) s
def ZtQ := kR ZcU
def Z6L := kO ZtQ
def ZBz := opN Z6L 0
def Zxi := opN Z6L 1
theorem Z0fk : XG 62 23 ZtQ Z6L [22] := Z1 (by rfl) (by rfl) _
theorem Z00D : Z6L.toList = [ZBz, Zxi] := nf
theorem Z01b : stepA E C B 23 Z6L ZBz (φ, H) = stp (some 22) φ H (just (aBin E.T .add 3 (fget φ 8) (.int .i64 1))) := nf
theorem ZZ0 : stepA E C B 23 Z6L Zxi (φ, H) = some (fput φ 8 (fget φ 22), H) := nf
theorem Z0iq : XQ 62 23 ZcU Zmo ZtQ := Z0 (by rfl) _
theorem Z0nh : XQ 62 23 ZiB Zc4 ZcU := Z0 (by rfl) _
theorem Z0kt : XQ 62 23 ZcH ZFf ZiB := Z0 (by rfl) _
theorem Z0j2 : execA E C (fg 62) B 23 E0 N ZEz s = iterA (execA E C (fg 62) B 23 E0 N ZcH) (headA E0) N s := ZV (by rfl) s
theorem Z0mg : execA E C (fg 62) B 23 E0 N ZEn s = blockX 0 (fun s => (forget s.1 [0, 1, 7, 8, 9], s.2)) (execA E C (fg 62) B 23 E0 N ZEz s) := Ze (by rfl) (by rfl) s
theorem Z0k7 : XQ 62 23 Zk6 ZF0 ZEn := Z0 (by rfl) _
def ZbD := kR Zjj
def Zp3 := kL ZbD
def Zjh := kO Zp3
def ZBR := opN Zjh 0
theorem Z0bd : XG 62 23 Zp3 Zjh [] := Z1 (by rfl) (by rfl) _
theorem Z06g : Zjh.toList = [ZBR] := nf
theorem Z04D : stepA E C B 23 Zjh ZBR (φ, H) = some (fput φ 4 (.bool true), H) := nf
def ZGM := kR ZbD
theorem Z0g3 : execA E C (fg 62) B 23 E0 N ZGM s = some (.ret, s) := Zq (by rfl) s
theorem Z0bt : XQ 62 23 ZbD Zp3 ZGM := Z0 (by rfl) _
theorem Z0kF : XQ 62 23 Zjj Zk6 ZbD := Z0 (by rfl) _
theorem Z0lI : XQ 62 23 Zcz ZDy Zjj := Z0 (by rfl) _
theorem Z0mb : fInfo E 62 = some ⟨23, #[.tmp 4], Zcz⟩ := nf
theorem b_62 (args : List AV) : bodyA E C fg N 62 args H B = bodyX E [.tmp 4] (execA E C (fg 62) B 23 H N Zcz (Z8 args 0 [], H)) := Zt Z0mb args H
abbrev F_62 := And.intro (And.intro (And.intro (And.intro (And.intro @Z0le (And.intro @ZXw @ZXM)) (And.intro (And.intro @Z0ls @Z09c) (And.intro @Z01H @Z04x))) (And.intro (And.intro (And.intro @Z06A @Z0mZ) (And.intro @Z09X @Z02R)) (And.intro (And.intro @Z0dK @Z0ba) (And.intro @Z0cn @Z0dd)))) (And.intro (And.intro (And.intro @Z05p (And.intro @Z05N @Z02O)) (And.intro (And.intro @Z0hB @Z064) (And.intro @ZSp @ZSv))) (And.intro (And.intro (And.intro @Z04j @Z09l) (And.intro @Z02x @Z06b)) (And.intro (And.intro @Z06L @ZZs) (And.intro @ZXy @Z073))))) (And.intro (And.intro (And.intro (And.intro @Z07l (And.intro @Z081 @ZPu)) (And.intro (And.intro @Z0eQ @Z082) (And.intro @Z01W @Z0iw))) (And.intro (And.intro (And.intro @Z0dM @Z0d7) (And.intro @Z0bN @Z0eP)) (And.intro (And.intro @Z0hx @Z0f1) (And.intro @Z0fk @Z00D)))) (And.intro (And.intro (And.intro (And.intro @Z01b @ZZ0) (And.intro @Z0iq @Z0nh)) (And.intro (And.intro @Z0kt @Z0j2) (And.intro @Z0mg @Z0k7))) (And.intro (And.intro (And.intro @Z0bd @Z06g) (And.intro @Z04D @Z0g3)) (And.intro (And.intro @Z0bt @Z0kF) (And.intro @Z0lI @b_62)))))
def Z64 := kBody Proofs.Try.f106
def Zsw := kL Z64
def ZcQ := kO Zsw
def ZoX := opN ZcQ 0
theorem Z0fA : XG 106 54 Zsw ZcQ [2] := Z1 (by rfl) (by rfl) _
theorem ZPa : ZcQ.toList = [ZoX] := nf
theorem ZUs : stepA E C B 54 ZcQ ZoX (φ, H) = some (fput φ 2 (.nilsl), H) := nf
def ZbF := kR Z64
def Zo4 := kL ZbF
def Zar := kO Zo4
def Zuq := opN Zar 0
theorem Z0by : XG 106 54 Zo4 Zar [] := Z1 (by rfl) (by rfl) _
theorem ZUZ : Zar.toList = [Zuq] := nf
theorem ZTN : stepA E C B 54 Zar Zuq (φ, H) = some (fput φ 3 (.nilsl), H) := nf
def Zcf := kR ZbF
def ZcO := kL Zcf
def Zlr := kL ZcO
def Z2Z := kO Zlr
def ZpD := opN Z2Z 0
def Zuj := opN Z2Z 1
def Zoe := opN Z2Z 2
theorem Z0h9 : XG 106 54 Zlr Z2Z [7] := Z1 (by rfl) (by rfl) _
theorem ZOl : Z2Z.toList = [ZpD, Zuj, Zoe] := nf
theorem ZRW : stepA E C B 54 Z2Z ZpD (φ, H) = some (fput φ 7 (fget φ 0), H) := nf
theorem ZUL : stepA E C B 54 Z2Z Zuj (φ, H) = stp (some 8) φ H (Z4 E.T (B + 8) .len #[22] [(fget φ 7)]) := nf
theorem ZOs : stepA E C B 54 Z2Z Zoe (φ, H) = some (fput φ 9 (.int .i64 0), H) := nf
def Zn4 := kR ZcO
def Zrx := kB Zn4
def Z51 := kB Zrx
def ZdO := kL Z51
def Zc0 := kO ZdO
def ZkK := opN Zc0 0
theorem ZZP : XG 106 54 ZdO Zc0 [] := Z1 (by rfl) (by rfl) _
theorem ZS0 : Zc0.toList = [ZkK] := nf
theorem ZR8 : stepA E C B 54 Zc0 ZkK (φ, H) = stp (some 10) φ H (just (aBin E.T .lss 3 (fget φ 9) (fget φ 8))) := nf
def Z88 := kR Z51
def Z7i := kL Z88
def Zzn := kT Z7i
theorem ZWX : execA E C (fg 106) B 54 E0 N Zzn s = some (.normal, s) := Zh (by rfl) s
def Zzk := kE Z7i
theorem Z02r : execA E C (fg 106) B 54 E0 N Zzk s = some (.exit 0, s) := ZI (by rfl) s
theorem Z06B : XC 106 54 Z7i 10 Zzn Zzk := Zf (by rfl) _
def Z7f := kR Z88
def Zee := kL Z7f
def Z6e := kB Zee
def Zd8 := kL Z6e
def Z52 := kO Zd8
def Ztu := opN Z52 0
def ZrI := opN Z52 1
theorem Z08l : XG 106 54 Zd8 Z52 [10, 11] := Z1 (by rfl) (by rfl) _
theorem ZOZ : Z52.toList = [Ztu, ZrI] := nf
theorem ZPc : stepA E C B 54 Z52 Ztu (φ, H) = some (fput φ 11 (fget φ 9), H) := nf
theorem ZVO : stepA E C B 54 Z52 ZrI (φ, H) = some (fput φ 4 (fget φ 11), H) := nf
def Z6B := kR Z6e
def Zdd := kL Z6B
def Z31 := kO Zdd
def Ztm := opN Z31 0
def ZrH := opN Z31 1
def ZnC := opN Z31 2
theorem Z04W : XG 106 54 Zdd Z31 [12] := Z1 (by rfl) (by rfl) _
theorem ZSR : Z31.toList = [Ztm, ZrH, ZnC] := nf
theorem ZNv : stepA E C B 54 Z31 Ztm (φ, H) = some (fput φ 12 (fget φ 0), H) := nf
theorem ZQa : stepA E C B 54 Z31 ZrH (φ, H) = stp (some 13) φ H (Z4 E.T (B + 13) .len #[22] [(fget φ 12)]) := nf
theorem ZPD : stepA E C B 54 Z31 ZnC (φ, H) = some (fput φ 14 (.int .i64 0), H) := nf
def Zdz := kR Z6B
def Zdw := kB Zdz
def Z3C := kB Zdw
def Zdx := kL Z3C
def ZbG := kO Zdx
def Zui := opN ZbG 0
theorem Z08T : XG 106 54 Zdx ZbG [] := Z1 (by rfl) (by rfl) _
theorem ZQB : ZbG.toList = [Zui] := nf
theorem ZTu : stepA E C B 54 ZbG Zui (φ, H) = stp (some 15) φ H (just (aBin E.T .lss 3 (fget φ 14) (fget φ 13))) := nf
def Z7I := kR Z3C
def Z86 := kL Z7I
def ZBp := kT Z86
theorem Z08L : execA E C (fg 106) B 54 E0 N ZBp s = some (.normal, s) := Zh (by rfl) s
def ZAV := kE Z86
theorem Z07r : execA E C (fg 106) B 54 E0 N ZAV s = some (.exit 2, s) := ZI (by rfl) s
theorem ZXC : XC 106 54 Z86 15 ZBp ZAV := Zf (by rfl) _
def Z7o := kR Z7I
def Ze6 := kL Z7o
def Z6m := kB Ze6
def Zdv := kL Z6m
def Z50 := kO Zdv
def ZrE := opN Z50 0
def Zq9 := opN Z50 1
theorem Z04o : XG 106 54 Zdv Z50 [15, 16] := Z1 (by rfl) (by rfl) _
theorem ZRw : Z50.toList = [ZrE, Zq9] := nf
theorem ZRj : stepA E C B 54 Z50 ZrE (φ, H) = some (fput φ 16 (fget φ 14), H) := nf
theorem ZUc : stepA E C B 54 Z50 Zq9 (φ, H) = some (fput φ 5 (fget φ 16), H) := nf
def Z7N := kR Z6m
def Z7p := kL Z7N
def ZdN := kL Z7p
def ZG := kO ZdN
def Ztq := opN ZG 0
def Zn5 := opN ZG 1
def Zld := opN ZG 2
def Zty := opN ZG 3
def ZkQ := opN ZG 4
def ZmU := opN ZG 5
def ZkM := opN ZG 6
def ZnK := opN ZG 7
def Zsp := opN ZG 8
def ZsO := opN ZG 9
theorem ZXt : XD 106 54 ZdN ZG [17, 18, 19, 20, 21, 22, 23, 24, 25] := Z0h (by rfl) (by rfl) _
theorem ZP4 : ZG.toList = [Ztq, Zn5, Zld, Zty, ZkQ, ZmU, ZkM, ZnK, Zsp, ZsO] := nf
theorem ZIf : statOk ZG = true := by kernel_rfl
theorem ZL3 : drawA E C B 54 ZG s = if neat 54 s = true then drX ZG (runT E C B 54 ZG ZG.toList 0 s) else none := Z00 ZIf s
theorem ZGI (l : List (Nat × Tr)) : dynOk ZG l = (!writing l || Za [[], [], [0, 1], [0, 1, 2], [], [], [4, 5], [4, 5, 6], [0, 1, 2, 3, 4, 5, 6, 7], [0, 1, 2, 3, 4, 5, 6, 7, 8]] (Z9 l)) := ZQ (by kernel_rfl) l
theorem ZV5 : stepT E C B 54 ZG Ztq (φ, H) = some ((fput φ 17 (fget φ 0), H), ⟨false, [], []⟩) := Z3 rfl (Z7 rfl rfl)
theorem ZOb : stepT E C B 54 ZG Zn5 (φ, H) = some ((fput φ 18 (fget φ 4), H), ⟨false, [], []⟩) := Z3 rfl (Z7 rfl rfl)
theorem ZUM : stepT E C B 54 ZG Zld (φ, H) = stpT (some 19) φ H (just (Z2 E.T 22 (fget φ 17) (fget φ 18))) := Z3 rfl (Z5 rfl rfl)
theorem ZVX : stepT E C B 54 ZG Zty (φ, H) = stpT (some 20) φ H (just (aLoad E.T 3 (fget φ 19))) := Z3 rfl (Z5 rfl rfl)
theorem ZP9 : stepT E C B 54 ZG ZkQ (φ, H) = some ((fput φ 21 (fget φ 0), H), ⟨false, [], []⟩) := Z3 rfl (Z7 rfl rfl)
theorem ZVD : stepT E C B 54 ZG ZmU (φ, H) = some ((fput φ 22 (fget φ 5), H), ⟨false, [], []⟩) := Z3 rfl (Z7 rfl rfl)
theorem ZU5 : stepT E C B 54 ZG ZkM (φ, H) = stpT (some 23) φ H (just (Z2 E.T 22 (fget φ 21) (fget φ 22))) := Z3 rfl (Z5 rfl rfl)
theorem ZVf : stepT E C B 54 ZG ZnK (φ, H) = stpT (some 24) φ H (just (aLoad E.T 3 (fget φ 23))) := Z3 rfl (Z5 rfl rfl)
theorem ZTm : stepT E C B 54 ZG Zsp (φ, H) = stpT (some 25) φ H (just (aBin E.T .sub 3 (fget φ 20) (fget φ 24))) := Z3 rfl (Z5 rfl rfl)
theorem ZRJ : stepT E C B 54 ZG ZsO (φ, H) = stpT (some 26) φ H (just (aBin E.T .lss 3 (fget φ 25) (.int .i64 2))) := Z3 rfl (Z5 rfl rfl)
def Z7V := kR Z7p
def ZBP := kT Z7V
theorem Z05s : execA E C (fg 106) B 54 E0 N ZBP s = some (.exit 3, s) := ZI (by rfl) s
def ZxZ := kE Z7V
theorem Z06a : execA E C (fg 106) B 54 E0 N ZxZ s = some (.normal, s) := Zh (by rfl) s
theorem Z03A : XC 106 54 Z7V 26 ZBP ZxZ := Zf (by rfl) _
theorem Z05q : XQ 106 54 Z7p ZdN Z7V := Z0 (by rfl) _
def Z7e := kR Z7N
def Zdf := kL Z7e
def Z1R := kO Zdf
def ZsC := opN Z1R 0
def ZoN := opN Z1R 1
def ZlC := opN Z1R 2
def ZrD := opN Z1R 3
theorem Z01w : XG 106 54 Zdf Z1R [26, 27, 28] := Z1 (by rfl) (by rfl) _
theorem ZON : Z1R.toList = [ZsC, ZoN, ZlC, ZrD] := nf
theorem ZNc : stepA E C B 54 Z1R ZsC (φ, H) = some (fput φ 27 (fget φ 0), H) := nf
theorem ZO0 : stepA E C B 54 Z1R ZoN (φ, H) = stp (some 28) φ H (aCall C (fun j => B + j * 54 + 28) true 66 [(fget φ 27)]) := nf
theorem ZNn : stepA E C B 54 Z1R ZlC (φ, H) = stp (some 6) φ H (opBox (B + 6) (zeroCells E.T 22)) := nf
theorem ZPS : stepA E C B 54 Z1R ZrD (φ, H) = stp none φ H (opStore E.T 22 (fget φ 6) (fget φ 28)) := nf
def Z7r := kR Z7e
def Zde := kL Z7r
def Z0o := kO Zde
def Zgu := opN Z0o 0
def Zgq := opN Z0o 1
def Zif := opN Z0o 2
def ZhH := opN Z0o 3
def ZhI := opN Z0o 4
def Zfc := opN Z0o 5
def Zij := opN Z0o 6
theorem ZXR : XG 106 54 Zde Z0o [29, 30, 31, 32, 33, 34] := Z1 (by rfl) (by rfl) _
theorem ZJ2 : Z0o.toList = [Zgu, Zgq, Zif, ZhH, ZhI, Zfc, Zij] := nf
theorem ZLz : stepA E C B 54 Z0o Zgu (φ, H) = stp (some 29) φ H (just (aLoad E.T 22 (fget φ 6))) := nf
theorem ZFH : stepA E C B 54 Z0o Zgq (φ, H) = some (fput φ 30 (fget φ 4), H) := nf
theorem ZK8 : stepA E C B 54 Z0o Zif (φ, H) = stp (some 31) φ H (just (Z2 E.T 22 (fget φ 29) (fget φ 30))) := nf
theorem ZG1 : stepA E C B 54 Z0o ZhH (φ, H) = stp (some 32) φ H (just (aLoad E.T 3 (fget φ 31))) := nf
theorem ZGe : stepA E C B 54 Z0o ZhI (φ, H) = stp (some 33) φ H (just (aBin E.T .sub 3 (fget φ 32) (.int .i64 1))) := nf
theorem ZJa : stepA E C B 54 Z0o Zfc (φ, H) = stp (some 34) φ H (just (Z2 E.T 22 (fget φ 29) (fget φ 30))) := nf
theorem ZFL : stepA E C B 54 Z0o Zij (φ, H) = stp none φ H (opStore E.T 3 (fget φ 34) (fget φ 33)) := nf
def Z7T := kR Z7r
def Zei := kL Z7T
def Z0q := kO Zei
def ZeM := opN Z0q 0
def ZfZ := opN Z0q 1
def ZeZ := opN Z0q 2
def Zi3 := opN Z0q 3
def Zew := opN Z0q 4
def Zhc := opN Z0q 5
def ZgV := opN Z0q 6
theorem Z04M : XG 106 54 Zei Z0q [5, 35, 36, 37, 38, 39, 40] := Z1 (by rfl) (by rfl) _
theorem ZG9 : Z0q.toList = [ZeM, ZfZ, ZeZ, Zi3, Zew, Zhc, ZgV] := nf
theorem ZLN : stepA E C B 54 Z0q ZeM (φ, H) = stp (some 35) φ H (just (aLoad E.T 22 (fget φ 6))) := nf
theorem ZIb : stepA E C B 54 Z0q ZfZ (φ, H) = some (fput φ 36 (fget φ 5), H) := nf
theorem ZKc : stepA E C B 54 Z0q ZeZ (φ, H) = stp (some 37) φ H (just (Z2 E.T 22 (fget φ 35) (fget φ 36))) := nf
theorem ZN6 : stepA E C B 54 Z0q Zi3 (φ, H) = stp (some 38) φ H (just (aLoad E.T 3 (fget φ 37))) := nf
theorem ZGK : stepA E C B 54 Z0q Zew (φ, H) = stp (some 39) φ H (just (aBin E.T .add 3 (fget φ 38) (.int .i64 1))) := nf
theorem ZJL : stepA E C B 54 Z0q Zhc (φ, H) = stp (some 40) φ H (just (Z2 E.T 22 (fget φ 35) (fget φ 36))) := nf
theorem ZHn : stepA E C B 54 Z0q ZgV (φ, H) = stp none φ H (opStore E.T 3 (fget φ 40) (fget φ 39)) := nf
def Z6N := kR Z7T
def ZdQ := kL Z6N
def Z3z := kO ZdQ
def Zf3 := opN Z3z 0
def ZfE := opN Z3z 1
theorem ZZG : XG 106 54 ZdQ Z3z [41, 42] := Z1 (by rfl) (by rfl) _
theorem ZKZ : Z3z.toList = [Zf3, ZfE] := nf
theorem ZH6 : stepA E C B 54 Z3z Zf3 (φ, H) = stp (some 41) φ H (just (aLoad E.T 22 (fget φ 6))) := nf
theorem ZGm : stepA E C B 54 Z3z ZfE (φ, H) = mutX (some 42) φ (C 67 [(fget φ 41)] H (B + 54 * 8)) := nf
def Z6o := kR Z6N
def Zd9 := kL Z6o
def Z1m := kO Zd9
def ZfY := opN Z1m 0
def ZeJ := opN Z1m 1
def ZeV := opN Z1m 2
def ZeL := opN Z1m 3
theorem Z06v : XG 106 54 Zd9 Z1m [43, 44, 45] := Z1 (by rfl) (by rfl) _
theorem ZGv : Z1m.toList = [ZfY, ZeJ, ZeV, ZeL] := nf
theorem ZM6 : stepA E C B 54 Z1m ZfY (φ, H) = some (fput φ 43 (fget φ 3), H) := nf
theorem ZFW : stepA E C B 54 Z1m ZeJ (φ, H) = stp (some 44) φ H (.pure (.clo 120 [(fget φ 6)], [])) := nf
theorem ZMR : stepA E C B 54 Z1m ZeV (φ, H) = stp (some 45) φ H (aCall C (fun j => B + j * 54 + 45) true 73 [(fget φ 43), (fget φ 44)]) := nf
theorem ZN4 : stepA E C B 54 Z1m ZeL (φ, H) = stp (some 46) φ H (justO (aUn .not (fget φ 45))) := nf
def Z8a := kR Z6o
def ZdX := kT Z8a
def Z0R := kO ZdX
def Zik := opN Z0R 0
def ZeB := opN Z0R 1
def Zfb := opN Z0R 2
def Zhl := opN Z0R 3
def ZgL := opN Z0R 4
theorem Z02l : XG 106 54 ZdX Z0R [6, 46, 47, 48, 49, 50] := Z1 (by rfl) (by rfl) _
theorem ZIA : Z0R.toList = [Zik, ZeB, Zfb, Zhl, ZgL] := nf
theorem ZMf : stepA E C B 54 Z0R Zik (φ, H) = some (fput φ 47 (fget φ 3), H) := nf
theorem ZI4 : stepA E C B 54 Z0R ZeB (φ, H) = stp (some 48) φ H (just (aLoad E.T 22 (fget φ 6))) := nf
theorem ZIY : stepA E C B 54 Z0R Zfb (φ, H) = stp (some 49) φ H (Zi E.T (B + 49) 39 1 (evO E φ) [(0, Operand.tmp 48)]) := nf
theorem ZMK : stepA E C B 54 Z0R Zhl (φ, H) = stp (some 50) φ H (Z4 E.T (B + 50) .append #[39, 39] [(fget φ 47), (fget φ 49)]) := nf
theorem ZKb : stepA E C B 54 Z0R ZgL (φ, H) = some (fput φ 3 (fget φ 50), H) := nf
def Zvk := kE Z8a
theorem Z07k : execA E C (fg 106) B 54 E0 N Zvk s = some (.normal, s) := Zh (by rfl) s
theorem ZWV : XC 106 54 Z8a 46 ZdX Zvk := Zf (by rfl) _
theorem Z06q : XQ 106 54 Z6o Zd9 Z8a := Z0 (by rfl) _
theorem Z01l : XQ 106 54 Z6N ZdQ Z6o := Z0 (by rfl) _
theorem Z0ak : XQ 106 54 Z7T Zei Z6N := Z0 (by rfl) _
theorem Z078 : XQ 106 54 Z7r Zde Z7T := Z0 (by rfl) _
theorem ZZU : XQ 106 54 Z7e Zdf Z7r := Z0 (by rfl) _
theorem Z09w : XQ 106 54 Z7N Z7p Z7e := Z0 (by rfl) _
theorem Z007 : XQ 106 54 Z6m Zdv Z7N := Z0 (by rfl) _
theorem Z00I : execA E C (fg 106) B 54 E0 N Ze6 s = blockX 3 (fun s => (forget s.1 [5, 6, 26, 46], s.2)) (execA E C (fg 106) B 54 E0 N Z6m s) := Ze (by rfl) (by rfl) s
def Zem := kR Z7o
def Z3w := kO Zem
def ZhR := opN Z3w 0
def ZeH := opN Z3w 1
theorem Z089 : XG 106 54 Zem Z3w [51] := Z1 (by rfl) (by rfl) _
theorem ZH3 : Z3w.toList = [ZhR, ZeH] := nf
theorem ZHi : stepA E C B 54 Z3w ZhR (φ, H) = stp (some 51) φ H (just (aBin E.T .add 3 (fget φ 14) (.int .i64 1))) := nf
theorem ZFO : stepA E C B 54 Z3w ZeH (φ, H) = some (fput φ 14 (fget φ 51), H) := nf
theorem Z06c : XQ 106 54 Z7o Ze6 Zem := Z0 (by rfl) _
theorem Z043 : XQ 106 54 Z7I Z86 Z7o := Z0 (by rfl) _
theorem Z07w : XQ 106 54 Z3C Zdx Z7I := Z0 (by rfl) _
theorem ZZm : execA E C (fg 106) B 54 E0 N Zdw s = iterA (execA E C (fg 106) B 54 E0 N Z3C) (headA E0) N s := ZV (by rfl) s
theorem Z08r : execA E C (fg 106) B 54 E0 N Zdz s = blockX 2 (fun s => (forget s.1 [4, 13, 14, 15], s.2)) (execA E C (fg 106) B 54 E0 N Zdw s) := Ze (by rfl) (by rfl) s
theorem Z03f : XQ 106 54 Z6B Zdd Zdz := Z0 (by rfl) _
theorem Z06d : XQ 106 54 Z6e Zd8 Z6B := Z0 (by rfl) _
theorem ZZF : execA E C (fg 106) B 54 E0 N Zee s = blockX 1 (fun s => (forget s.1 [], s.2)) (execA E C (fg 106) B 54 E0 N Z6e s) := Ze (by rfl) (by rfl) s
def Zdt := kR Z7f
def Z3y := kO Zdt
def ZgA := opN Z3y 0
def Zig := opN Z3y 1
theorem Z01X : XG 106 54 Zdt Z3y [52] := Z1 (by rfl) (by rfl) _
theorem ZKu : Z3y.toList = [ZgA, Zig] := nf
theorem ZLj : stepA E C B 54 Z3y ZgA (φ, H) = stp (some 52) φ H (just (aBin E.T .add 3 (fget φ 9) (.int .i64 1))) := nf
theorem ZIe : stepA E C B 54 Z3y Zig (φ, H) = some (fput φ 9 (fget φ 52), H) := nf
theorem Z09L : XQ 106 54 Z7f Zee Zdt := Z0 (by rfl) _
theorem ZZf : XQ 106 54 Z88 Z7i Z7f := Z0 (by rfl) _
theorem Z0fv : XQ 106 54 Z51 ZdO Z88 := Z0 (by rfl) _
theorem Z0h3 : execA E C (fg 106) B 54 E0 N Zrx s = iterA (execA E C (fg 106) B 54 E0 N Z51) (headA E0) N s := ZV (by rfl) s
theorem Z0cz : execA E C (fg 106) B 54 E0 N Zn4 s = blockX 0 (fun s => (forget s.1 [0, 8, 9, 10], s.2)) (execA E C (fg 106) B 54 E0 N Zrx s) := Ze (by rfl) (by rfl) s
theorem Z0gN : XQ 106 54 ZcO Zlr Zn4 := Z0 (by rfl) _
def Z74 := kR Zcf
def Zd1 := kL Z74
def Z3p := kO Zd1
def Zg9 := opN Z3p 0
def Zgh := opN Z3p 1
theorem Z001 : XG 106 54 Zd1 Z3p [3, 53] := Z1 (by rfl) (by rfl) _
theorem ZKq : Z3p.toList = [Zg9, Zgh] := nf
theorem ZFX : stepA E C B 54 Z3p Zg9 (φ, H) = some (fput φ 53 (fget φ 3), H) := nf
theorem ZIM : stepA E C B 54 Z3p Zgh (φ, H) = some (fput φ 2 (fget φ 53), H) := nf
def ZBZ := kR Z74
theorem Z00a : execA E C (fg 106) B 54 E0 N ZBZ s = some (.ret, s) := Zq (by rfl) s
theorem Z09V : XQ 106 54 Z74 Zd1 ZBZ := Z0 (by rfl) _
theorem Z0hn : XQ 106 54 Zcf ZcO Z74 := Z0 (by rfl) _
theorem Z0dw : XQ 106 54 ZbF Zo4 Zcf := Z0 (by rfl) _
theorem Z0ei : XQ 106 54 Z64 Zsw ZbF := Z0 (by rfl) _
theorem Z0hz : fInfo E 106 = some ⟨54, #[.tmp 2], Z64⟩ := nf
theorem Z0mN (args : List AV) : bodyA E C fg N 106 args H B = bodyX E [.tmp 2] (execA E C (fg 106) B 54 H N Z64 (Z8 args 0 [], H)) := Zt Z0hz args H
abbrev Z2J := And.intro (And.intro (And.intro (And.intro (And.intro (And.intro (And.intro @Z0fA @ZPa) (And.intro @ZUs @Z0by)) (And.intro (And.intro @ZUZ @ZTN) (And.intro @Z0h9 @ZOl))) (And.intro (And.intro (And.intro @ZRW @ZUL) (And.intro @ZOs @ZZP)) (And.intro (And.intro @ZS0 @ZR8) (And.intro @ZWX (And.intro @Z02r @Z06B))))) (And.intro (And.intro (And.intro (And.intro @Z08l @ZOZ) (And.intro @ZPc @ZVO)) (And.intro (And.intro @Z04W @ZSR) (And.intro @ZNv @ZQa))) (And.intro (And.intro (And.intro @ZPD @Z08T) (And.intro @ZQB @ZTu)) (And.intro (And.intro @Z08L @Z07r) (And.intro @ZXC (And.intro @Z04o @ZRw)))))) (And.intro (And.intro (And.intro (And.intro (And.intro @ZRj @ZUc) (And.intro @ZXt @ZP4)) (And.intro (And.intro @ZL3 @ZGI) (And.intro @ZV5 @ZOb))) (And.intro (And.intro (And.intro @ZUM @ZVX) (And.intro @ZP9 @ZVD)) (And.intro (And.intro @ZU5 @ZVf) (And.intro @ZTm (And.intro @ZRJ @Z05s))))) (And.intro (And.intro (And.intro (And.intro @Z06a @Z03A) (And.intro @Z05q @Z01w)) (And.intro (And.intro @ZON @ZNc) (And.intro @ZO0 @ZNn))) (And.intro (And.intro (And.intro @ZPS @ZXR) (And.intro @ZJ2 @ZLz)) (And.intro (And.intro @ZFH @ZK8) (And.intro @ZG1 (And.intro @ZGe @ZJa))))))) (And.intro (And.intro (And.intro (And.intro (And.intro (And.intro @ZFL @Z04M) (And.intro @ZG9 @ZLN)) (And.intro (And.intro @ZIb @ZKc) (And.intro @ZN6 @ZGK))) (And.intro (And.intro (And.intro @ZJL @ZHn) (And.intro @ZZG @ZKZ)) (And.intro (And.intro @ZH6 @ZGm) (And.intro @Z06v (And.intro @ZGv @ZM6))))) (And.intro (And.intro (And.intro (And.intro @ZFW @ZMR) (And.intro @ZN4 @Z02l)) (And.intro (And.intro @ZIA @ZMf) (And.intro @ZI4 @ZIY))) (And.intro (And.intro (And.intro @ZMK @ZKb) (And.intro @Z07k @ZWV)) (And.intro (And.intro @Z06q @Z01l) (And.intro @Z0ak (And.intro @Z078 @ZZU)))))) (And.intro (And.intro (And.intro (And.intro (And.intro @Z09w @Z007) (And.intro @Z00I @Z089)) (And.intro (And.intro @ZH3 @ZHi) (And.intro @ZFO @Z06c))) (And.intro (And.intro (And.intro @Z043 @Z07w) (And.intro @ZZm @Z08r)) (And.intro (And.intro @Z03f @Z06d) (And.intro @ZZF (And.intro @Z01X @ZKu))))) (And.intro (And.intro (And.intro (And.intro @ZLj @ZIe) (And.intro @Z09L @ZZf)) (And.intro (And.intro @Z0fv @Z0h3) (And.intro @Z0cz (And.intro @Z0gN @Z001)))) (And.intro (And.intro (And.intro @ZKq @ZFX) (And.intro @ZIM @Z00a)) (And.intro (And.intro @Z09V @Z0hn) (And.intro @Z0dw (And.intro @Z0ei @Z0mN)))))))
def Z5L := kBody Proofs.Try.f120
def Zua := kL Z5L
def ZaI := kO Zua
def ZoD := opN ZaI 0
theorem Z0hg : XG 120 7 Zua ZaI [3] := Z1 (by rfl) (by rfl) _
theorem ZTM : ZaI.toList = [ZoD] := nf
theorem ZQH : stepA E C B 7 ZaI ZoD (φ, H) = some (fput φ 3 (.bool false), H) := nf
def Zau := kR Z5L
def Zmb := kL Zau
def Z1N := kO Zmb
def ZkS := opN Z1N 0
def Zq2 := opN Z1N 1
def Zpk := opN Z1N 2
def Zra := opN Z1N 3
theorem Z0fu : XG 120 7 Zmb Z1N [0, 1, 4, 5, 6] := Z1 (by rfl) (by rfl) _
theorem ZSo : Z1N.toList = [ZkS, Zq2, Zpk, Zra] := nf
theorem ZPV : stepA E C B 7 Z1N ZkS (φ, H) = some (fput φ 4 (fget φ 0), H) := nf
theorem ZSB : stepA E C B 7 Z1N Zq2 (φ, H) = stp (some 5) φ H (just (aLoad E.T 22 (fget φ 1))) := nf
theorem ZTt : stepA E C B 7 Z1N Zpk (φ, H) = stp (some 6) φ H (aCall C (fun j => B + j * 7 + 6) true 24 [(fget φ 4), (fget φ 5)]) := nf
theorem ZOw : stepA E C B 7 Z1N Zra (φ, H) = some (fput φ 3 (fget φ 6), H) := nf
def ZJy := kR Zau
theorem Z0bK : execA E C (fg 120) B 7 E0 N ZJy s = some (.ret, s) := Zq (by rfl) s
theorem Z0aM : XQ 120 7 Zau Zmb ZJy := Z0 (by rfl) _
theorem Z0hJ : XQ 120 7 Z5L Zua Zau := Z0 (by rfl) _
theorem ZKV : fInfo E 120 = some ⟨7, #[.tmp 3], Z5L⟩ := nf
theorem Z0nv (args : List AV) : bodyA E C fg N 120 args H B = bodyX E [.tmp 3] (execA E C (fg 120) B 7 H N Z5L (Z8 args 0 [], H)) := Zt ZKV args H
abbrev Z0ne := And.intro (And.intro (And.intro @Z0hg (And.intro @ZTM @ZQH)) (And.intro @Z0fu (And.intro @ZSo @ZPV))) (And.intro (And.intro @ZSB (And.intro @ZTt @ZOw)) (And.intro (And.intro @Z0bK @Z0aM) (And.intro @Z0hJ @Z0nv)))
def Z9h := kBody Proofs.Try.f63
def ZDF := kL Z9h
def Z6l := kO ZDF
def Zw1 := opN Z6l 0
def ZDb := opN Z6l 1
theorem Z0k6 : XG 63 47 ZDF Z6l [2, 3] := Z1 (by rfl) (by rfl) _
theorem Z03X : Z6l.toList = [Zw1, ZDb] := nf
theorem Z07E : stepA E C B 47 Z6l Zw1 (φ, H) = some (fput φ 2 (.nilsl), H) := nf
theorem ZYs : stepA E C B 47 Z6l ZDb (φ, H) = some (fput φ 3 (.nilsl), H) := nf
def ZjX := kR Z9h
def ZDX := kL ZjX
def Z1U := kO ZDX
def ZDc := opN Z1U 0
def ZAz := opN Z1U 1
def ZwV := opN Z1U 2
def Zza := opN Z1U 3
def ZxO := opN Z1U 4
theorem Z0lH : XG 63 47 ZDX Z1U [0, 9, 10, 11] := Z1 (by rfl) (by rfl) _
theorem Z07F : Z1U.toList = [ZDc, ZAz, ZwV, Zza, ZxO] := nf
theorem ZYm : stepA E C B 47 Z1U ZDc (φ, H) = some (fput φ 9 (fget φ 0), H) := nf
theorem ZZM : stepA E C B 47 Z1U ZAz (φ, H) = stp (some 10) φ H (Zi E.T (B + 10) 39 1 (evO E φ) [(0, Operand.tmp 9)]) := nf
theorem ZYS : stepA E C B 47 Z1U ZwV (φ, H) = stp (some 11) φ H (Zi E.T (B + 11) 22 1 (evO E φ) [(0, Operand.const (Value.int .i64 0))]) := nf
theorem Z06p : stepA E C B 47 Z1U Zza (φ, H) = some (fput φ 4 (fget φ 10), H) := nf
theorem ZYz : stepA E C B 47 Z1U ZxO (φ, H) = some (fput φ 5 (fget φ 11), H) := nf
def ZjS := kR ZjX
def ZiN := kL ZjS
def ZDE := kL ZiN
def Zk7 := kO ZDE
def ZvM := opN Zk7 0
theorem Z0mr : XG 63 47 ZDE Zk7 [] := Z1 (by rfl) (by rfl) _
theorem Z02t : Zk7.toList = [ZvM] := nf
theorem ZYt : stepA E C B 47 Zk7 ZvM (φ, H) = some (fput φ 6 (.int .i64 0), H) := nf
def ZFv := kR ZiN
def ZF6 := kB ZFv
def Z6V := kB ZF6
def Zbo := kL Z6V
def ZmY := kL Zbo
def Z2A := kO ZmY
def Zxd := opN Z2A 0
def ZCv := opN Z2A 1
def ZAU := opN Z2A 2
def Zy8 := opN Z2A 3
theorem Z0h1 : XG 63 47 ZmY Z2A [12, 13, 14] := Z1 (by rfl) (by rfl) _
theorem Z04Z : Z2A.toList = [Zxd, ZCv, ZAU, Zy8] := nf
theorem ZWM : stepA E C B 47 Z2A Zxd (φ, H) = some (fput φ 12 (fget φ 6), H) := nf
theorem Z02Y : stepA E C B 47 Z2A ZCv (φ, H) = some (fput φ 13 (fget φ 4), H) := nf
theorem ZXh : stepA E C B 47 Z2A ZAU (φ, H) = stp (some 14) φ H (Z4 E.T (B + 14) .len #[39] [(fget φ 13)]) := nf
theorem ZZN : stepA E C B 47 Z2A Zy8 (φ, H) = stp (some 15) φ H (just (aBin E.T .lss 3 (fget φ 12) (fget φ 14))) := nf
def Zao := kR Zbo
def ZLU := kT Zao
theorem Z0gj : execA E C (fg 63) B 47 E0 N ZLU s = some (.normal, s) := Zh (by rfl) s
def ZJZ := kE Zao
theorem Z0ff : execA E C (fg 63) B 47 E0 N ZJZ s = some (.exit 0, s) := ZI (by rfl) s
theorem Z0bl : XC 63 47 Zao 15 ZLU ZJZ := Zf (by rfl) _
theorem Z0eO : XQ 63 47 Zbo ZmY Zao := Z0 (by rfl) _
def ZaB := kR Z6V
def Zps := kL ZaB
def ZcJ := kB Zps
def Zrt := kL ZcJ
def Z12 := kO Zrt
def Zwf := opN Z12 0
def Zzg := opN Z12 1
def Zxf := opN Z12 2
def ZDk := opN Z12 3
def Zxv := opN Z12 4
def ZCf := opN Z12 5
def ZxP := opN Z12 6
theorem Z0hP : XG 63 47 Zrt Z12 [15, 18, 19, 20, 21] := Z1 (by rfl) (by rfl) _
theorem Z003 : Z12.toList = [Zwf, Zzg, Zxf, ZDk, Zxv, ZCf, ZxP] := nf
theorem ZZj : stepA E C B 47 Z12 Zwf (φ, H) = some (fput φ 18 (fget φ 4), H) := nf
theorem Z01g : stepA E C B 47 Z12 Zzg (φ, H) = some (fput φ 19 (fget φ 6), H) := nf
theorem Z08B : stepA E C B 47 Z12 Zxf (φ, H) = stp (some 20) φ H (just (Z2 E.T 39 (fget φ 18) (fget φ 19))) := nf
theorem Z085 : stepA E C B 47 Z12 ZDk (φ, H) = stp (some 21) φ H (just (aLoad E.T 22 (fget φ 20))) := nf
theorem Z03w : stepA E C B 47 Z12 Zxv (φ, H) = stp (some 22) φ H (aCall C (fun j => B + j * 47 + 22) true 106 [(fget φ 21)]) := nf
theorem Z06y : stepA E C B 47 Z12 ZCf (φ, H) = stp (some 23) φ H (Z4 E.T (B + 23) .len #[39] [(fget φ 22)]) := nf
theorem Z06C : stepA E C B 47 Z12 ZxP (φ, H) = some (fput φ 24 (.int .i64 0), H) := nf
def Zo0 := kR ZcJ
def ZnD := kB Zo0
def Z3E := kB ZnD
def ZqJ := kL Z3E
def Zkl := kO ZqJ
def ZwN := opN Zkl 0
theorem Z0d2 : XG 63 47 ZqJ Zkl [] := Z1 (by rfl) (by rfl) _
theorem Z011 : Zkl.toList = [ZwN] := nf
theorem Z02N : stepA E C B 47 Zkl ZwN (φ, H) = stp (some 25) φ H (just (aBin E.T .lss 3 (fget φ 24) (fget φ 23))) := nf
def Zd0 := kR Z3E
def Z8T := kL Zd0
def ZJ0 := kT Z8T
theorem Z0h2 : execA E C (fg 63) B 47 E0 N ZJ0 s = some (.normal, s) := Zh (by rfl) s
def ZLV := kE Z8T
theorem Z0hf : execA E C (fg 63) B 47 E0 N ZLV s = some (.exit 2, s) := ZI (by rfl) s
theorem Z0hE : XC 63 47 Z8T 25 ZJ0 ZLV := Zf (by rfl) _
def ZbS := kR Zd0
def Zr5 := kL ZbS
def ZcA := kB Zr5
def Zud := kL ZcA
def Z2G := kO Zud
def ZvN := opN Z2G 0
def ZDq := opN Z2G 1
def ZCW := opN Z2G 2
def ZBt := opN Z2G 3
theorem Z0fb : XG 63 47 Zud Z2G [25, 26, 27] := Z1 (by rfl) (by rfl) _
theorem Z03d : Z2G.toList = [ZvN, ZDq, ZCW, ZBt] := nf
theorem Z0ag : stepA E C B 47 Z2G ZvN (φ, H) = stp (some 26) φ H (just (Z2 E.T 39 (fget φ 22) (fget φ 24))) := nf
theorem Z09j : stepA E C B 47 Z2G ZDq (φ, H) = stp (some 27) φ H (just (aLoad E.T 22 (fget φ 26))) := nf
theorem Z06X : stepA E C B 47 Z2G ZCW (φ, H) = stp (some 8) φ H (opBox (B + 8) (zeroCells E.T 22)) := nf
theorem ZWH : stepA E C B 47 Z2G ZBt (φ, H) = stp none φ H (opStore E.T 22 (fget φ 8) (fget φ 27)) := nf
def Zbq := kR ZcA
def Zr0 := kL Zbq
def Z2R := kO Zr0
def ZzW := opN Z2R 0
def Zvv := opN Z2R 1
def ZAY := opN Z2R 2
def Zx9 := opN Z2R 3
theorem Z0ic : XG 63 47 Zr0 Z2R [28, 29, 30] := Z1 (by rfl) (by rfl) _
theorem ZY0 : Z2R.toList = [ZzW, Zvv, ZAY, Zx9] := nf
theorem Z00Q : stepA E C B 47 Z2R ZzW (φ, H) = some (fput φ 28 (fget φ 4), H) := nf
theorem Z00x : stepA E C B 47 Z2R Zvv (φ, H) = stp (some 29) φ H (.pure (.clo 107 [(fget φ 8)], [])) := nf
theorem Z03V : stepA E C B 47 Z2R ZAY (φ, H) = stp (some 30) φ H (aCall C (fun j => B + j * 47 + 30) true 73 [(fget φ 28), (fget φ 29)]) := nf
theorem Z060 : stepA E C B 47 Z2R Zx9 (φ, H) = stp (some 31) φ H (justO (aUn .not (fget φ 30))) := nf
def ZaA := kR Zbq
def Zrl := kT ZaA
def ZA := kO Zrl
def ZDl := opN ZA 0
def Zzu := opN ZA 1
def Zxl := opN ZA 2
def Zvb := opN ZA 3
def ZBe := opN ZA 4
def ZxS := opN ZA 5
def Zwe := opN ZA 6
def ZzS := opN ZA 7
def ZAi := opN ZA 8
def ZvI := opN ZA 9
def ZtL := opN ZA 10
def ZnI := opN ZA 11
def Zpw := opN ZA 12
def ZnA := opN ZA 13
theorem Z0eM : XD 63 47 Zrl ZA [8, 31, 32, 33, 34, 35, 36, 37, 38, 39, 40, 41, 42, 43] := Z0h (by rfl) (by rfl) _
theorem Z09v : ZA.toList = [ZDl, Zzu, Zxl, Zvb, ZBe, ZxS, Zwe, ZzS, ZAi, ZvI, ZtL, ZnI, Zpw, ZnA] := nf
theorem ZUX : statOk ZA = true := by kernel_rfl
theorem ZVE : drawA E C B 47 ZA s = if neat 47 s = true then drX ZA (runT E C B 47 ZA ZA.toList 0 s) else none := Z00 ZUX s
theorem ZPM (l : List (Nat × Tr)) : dynOk ZA l = (!writing l || Za [[], [], [1], [0, 1, 2], [], [], [], [5, 6], [5, 6, 7], [5, 6, 7, 8], [5, 6, 7, 8, 9], [0, 1, 2, 3, 4, 5, 6, 7, 8, 9, 10], [0, 1, 2, 3, 4, 5, 6, 7, 8, 9, 10, 11], [0, 1, 2, 3, 4, 5, 6, 7, 8, 9, 10, 11, 12]] (Z9 l)) := ZQ (by kernel_rfl) l
theorem Z096 : stepT E C B 47 ZA ZDl (φ, H) = some ((fput φ 32 (fget φ 4), H), ⟨false, [], []⟩) := Z3 rfl (Z7 rfl rfl)
theorem Z03E : stepT E C B 47 ZA Zzu (φ, H) = stpT (some 33) φ H (just (aLoad E.T 22 (fget φ 8))) := Z3 rfl (Z5 rfl rfl)
theorem Z02y : stepT E C B 47 ZA Zxl (φ, H) = stpT (some 34) φ H (Zi E.T (B + 34) 39 1 (evO E φ) [(0, Operand.tmp 33)]) := Z3 rfl (Z5 rfl rfl)
theorem Z07g : stepT E C B 47 ZA Zvb (φ, H) = stpT (some 35) φ H (Z4 E.T (B + 35) .append #[39, 39] [(fget φ 32), (fget φ 34)]) := Z3 rfl (Z5 rfl rfl)
theorem ZYk : stepT E C B 47 ZA ZBe (φ, H) = some ((fput φ 36 (fget φ 5), H), ⟨false, [], []⟩) := Z3 rfl (Z7 rfl rfl)
theorem ZXv : stepT E C B 47 ZA ZxS (φ, H) = some ((fput φ 37 (fget φ 5), H), ⟨false, [], []⟩) := Z3 rfl (Z7 rfl rfl)
theorem ZYr : stepT E C B 47 ZA Zwe (φ, H) = some ((fput φ 38 (fget φ 6), H), ⟨false, [], []⟩) := Z3 rfl (Z7 rfl rfl)
theorem ZXY : stepT E C B 47 ZA ZzS (φ, H) = stpT (some 39) φ H (just (Z2 E.T 22 (fget φ 37) (fget φ 38))) := Z3 rfl (Z5 rfl rfl)
theorem Z01x : stepT E C B 47 ZA ZAi (φ, H) = stpT (some 40) φ H (just (aLoad E.T 3 (fget φ 39))) := Z3 rfl (Z5 rfl rfl)
theorem Z08d : stepT E C B 47 ZA ZvI (φ, H) = stpT (some 41) φ H (just (aBin E.T .add 3 (fget φ 40) (.int .i64 1))) := Z3 rfl (Z5 rfl rfl)
theorem ZRo : stepT E C B 47 ZA ZtL (φ, H) = stpT (some 42) φ H (Zi E.T (B + 42) 22 1 (evO E φ) [(0, Operand.tmp 41)]) := Z3 rfl (Z5 rfl rfl)
theorem ZNp : stepT E C B 47 ZA ZnI (φ, H) = stpT (some 43) φ H (Z4 E.T (B + 43) .append #[22, 22] [(fget φ 36), (fget φ 42)]) := Z3 rfl (Z5 rfl rfl)
theorem ZS7 : stepT E C B 47 ZA Zpw (φ, H) = some ((fput φ 4 (fget φ 35), H), ⟨false, [], []⟩) := Z3 rfl (Z7 rfl rfl)
theorem ZRK : stepT E C B 47 ZA ZnA (φ, H) = some ((fput φ 5 (fget φ 43), H), ⟨false, [], []⟩) := Z3 rfl (Z7 rfl rfl)
def ZMb := kE ZaA
theorem Z0ej : execA E C (fg 63) B 47 E0 N ZMb s = some (.normal, s) := Zh (by rfl) s
theorem Z0du : XC 63 47 ZaA 31 Zrl ZMb := Zf (by rfl) _
theorem Z0cp : XQ 63 47 Zbq Zr0 ZaA := Z0 (by rfl) _
theorem Z0dX : XQ 63 47 ZcA Zud Zbq := Z0 (by rfl) _
theorem Z0aw : execA E C (fg 63) B 47 E0 N Zr5 s = blockX 3 (fun s => (forget s.1 [8, 31], s.2)) (execA E C (fg 63) B 47 E0 N ZcA s) := Ze (by rfl) (by rfl) s
def ZqA := kR ZbS
def Z58 := kO ZqA
def Zl8 := opN Z58 0
def Zl1 := opN Z58 1
theorem Z0b7 : XG 63 47 ZqA Z58 [44] := Z1 (by rfl) (by rfl) _
theorem ZPv : Z58.toList = [Zl8, Zl1] := nf
theorem ZUb : stepA E C B 47 Z58 Zl8 (φ, H) = stp (some 44) φ H (just (aBin E.T .add 3 (fget φ 24) (.int .i64 1))) := nf
theorem ZSq : stepA E C B 47 Z58 Zl1 (φ, H) = some (fput φ 24 (fget φ 44), H) := nf
theorem Z0gl : XQ 63 47 ZbS Zr5 ZqA := Z0 (by rfl) _
theorem Z0gZ : XQ 63 47 Zd0 Z8T ZbS := Z0 (by rfl) _
theorem Z0gE : XQ 63 47 Z3E ZqJ Zd0 := Z0 (by rfl) _
theorem Z0ci : execA E C (fg 63) B 47 E0 N ZnD s = iterA (execA E C (fg 63) B 47 E0 N Z3E) (headA E0) N s := ZV (by rfl) s
theorem Z0cm : execA E C (fg 63) B 47 E0 N Zo0 s = blockX 2 (fun s => (forget s.1 [22, 23, 24, 25], s.2)) (execA E C (fg 63) B 47 E0 N ZnD s) := Ze (by rfl) (by rfl) s
theorem Z0b4 : XQ 63 47 ZcJ Zrt Zo0 := Z0 (by rfl) _
theorem Z0ce : execA E C (fg 63) B 47 E0 N Zps s = blockX 1 (fun s => (forget s.1 [], s.2)) (execA E C (fg 63) B 47 E0 N ZcJ s) := Ze (by rfl) (by rfl) s
def ZoT := kR ZaB
def Z4r := kO ZoT
def Zzi := opN Z4r 0
def ZxK := opN Z4r 1
def ZBW := opN Z4r 2
theorem Z0eV : XG 63 47 ZoT Z4r [16, 17] := Z1 (by rfl) (by rfl) _
theorem ZYM : Z4r.toList = [Zzi, ZxK, ZBW] := nf
theorem Z04O : stepA E C B 47 Z4r Zzi (φ, H) = some (fput φ 16 (fget φ 6), H) := nf
theorem Z04c : stepA E C B 47 Z4r ZxK (φ, H) = stp (some 17) φ H (just (aBin E.T .add 3 (fget φ 16) (.int .i64 1))) := nf
theorem Z02f : stepA E C B 47 Z4r ZBW (φ, H) = some (fput φ 6 (fget φ 17), H) := nf
theorem Z0av : XQ 63 47 ZaB Zps ZoT := Z0 (by rfl) _
theorem Z0l1 : XQ 63 47 Z6V Zbo ZaB := Z0 (by rfl) _
theorem Z0mw : execA E C (fg 63) B 47 E0 N ZF6 s = iterA (execA E C (fg 63) B 47 E0 N Z6V) (headA E0) N s := ZV (by rfl) s
theorem Z0mT : execA E C (fg 63) B 47 E0 N ZFv s = blockX 0 (fun s => (forget s.1 [6, 15], s.2)) (execA E C (fg 63) B 47 E0 N ZF6 s) := Ze (by rfl) (by rfl) s
theorem Z0nn : XQ 63 47 ZiN ZDE ZFv := Z0 (by rfl) _
def Zc2 := kR ZjS
def Zom := kL Zc2
def Z1Q := kO Zom
def Zqi := opN Z1Q 0
def ZpU := opN Z1Q 1
def ZkF := opN Z1Q 2
def Zlx := opN Z1Q 3
theorem Z0hX : XG 63 47 Zom Z1Q [4, 5, 45, 46] := Z1 (by rfl) (by rfl) _
theorem ZSH : Z1Q.toList = [Zqi, ZpU, ZkF, Zlx] := nf
theorem ZRv : stepA E C B 47 Z1Q Zqi (φ, H) = some (fput φ 45 (fget φ 4), H) := nf
theorem ZNl : stepA E C B 47 Z1Q ZpU (φ, H) = some (fput φ 46 (fget φ 5), H) := nf
theorem ZUg : stepA E C B 47 Z1Q ZkF (φ, H) = some (fput φ 2 (fget φ 45), H) := nf
theorem ZOQ : stepA E C B 47 Z1Q Zlx (φ, H) = some (fput φ 3 (fget φ 46), H) := nf
def ZHG := kR Zc2
theorem Z0hN : execA E C (fg 63) B 47 E0 N ZHG s = some (.ret, s) := Zq (by rfl) s
theorem Z0c9 : XQ 63 47 Zc2 Zom ZHG := Z0 (by rfl) _
theorem Z0m9 : XQ 63 47 ZjS ZiN Zc2 := Z0 (by rfl) _
theorem Z0lS : XQ 63 47 ZjX ZDX ZjS := Z0 (by rfl) _
theorem Z0lZ : XQ 63 47 Z9h ZDF ZjX := Z0 (by rfl) _
theorem Z0lj : fInfo E 63 = some ⟨47, #[.tmp 2, .tmp 3], Z9h⟩ := nf
theorem b_63 (args : List AV) : bodyA E C fg N 63 args H B = bodyX E [.tmp 2, .tmp 3] (execA E C (fg 63) B 47 H N Z9h (Z8 args 0 [], H)) := Zt Z0lj args H
abbrev F_63 := And.intro (And.intro (And.intro (And.intro (And.intro (And.intro @Z0k6 (And.intro @Z03X @Z07E)) (And.intro @ZYs (And.intro @Z0lH @Z07F))) (And.intro (And.intro @ZYm (And.intro @ZZM @ZYS)) (And.intro (And.intro @Z06p @ZYz) (And.intro @Z0mr @Z02t)))) (And.intro (And.intro (And.intro @ZYt (And.intro @Z0h1 @Z04Z)) (And.intro @ZWM (And.intro @Z02Y @ZXh))) (And.intro (And.intro @ZZN (And.intro @Z0gj @Z0ff)) (And.intro (And.intro @Z0bl @Z0eO) (And.intro @Z0hP @Z003))))) (And.intro (And.intro (And.intro (And.intro @ZZj (And.intro @Z01g @Z08B)) (And.intro @Z085 (And.intro @Z03w @Z06y))) (And.intro (And.intro @Z06C (And.intro @Z0d2 @Z011)) (And.intro (And.intro @Z02N @Z0h2) (And.intro @Z0hf @Z0hE)))) (And.intro (And.intro (And.intro @Z0fb (And.intro @Z03d @Z0ag)) (And.intro (And.intro @Z09j @Z06X) (And.intro @ZWH @Z0ic))) (And.intro (And.intro @ZY0 (And.intro @Z00Q @Z00x)) (And.intro (And.intro @Z03V @Z060) (And.intro @Z0eM @Z09v)))))) (And.intro (And.intro (And.intro (And.intro (And.intro @ZVE (And.intro @ZPM @Z096)) (And.intro @Z03E (And.intro @Z02y @Z07g))) (And.intro (And.intro @ZYk (And.intro @ZXv @ZYr)) (And.intro (And.intro @ZXY @Z01x) (And.intro @Z08d @ZRo)))) (And.intro (And.intro (And.intro @ZNp (And.intro @ZS7 @ZRK)) (And.intro (And.intro @Z0ej @Z0du) (And.intro @Z0cp @Z0dX))) (And.intro (And.intro @Z0aw (And.intro @Z0b7 @ZPv)) (And.intro (And.intro @ZUb @ZSq) (And.intro @Z0gl @Z0gZ))))) (And.intro (And.intro (And.intro (And.intro @Z0gE (And.intro @Z0ci @Z0cm)) (And.intro @Z0b4 (And.intro @Z0ce @Z0eV))) (And.intro (And.intro @ZYM (And.intro @Z04O @Z04c)) (And.intro (And.intro @Z02f @Z0av) (And.intro @Z0l1 @Z0mw)))) (And.intro (And.intro (And.intro @Z0mT (And.intro @Z0nn @Z0hX)) (And.intro (And.intro @ZSH @ZRv) (And.intro @ZNl @ZUg))) (And.intro (And.intro @ZOQ (And.intro @Z0hN @Z0c9)) (And.intro (And.intro @Z0m9 @Z0lS) (And.intro @Z0lZ @b_63))))))
def Z5w := kBody Proofs.Try.f107
def Zpf := kL Z5w
def Z9y := kO Zpf
def Zrk := opN Z9y 0
theorem Z0ie : XG 107 7 Zpf Z9y [3] := Z1 (by rfl) (by rfl) _
theorem ZPL : Z9y.toList = [Zrk] := nf
theorem ZW9 : stepA E C B 7 Z9y Zrk (φ, H) = some (fput φ 3 (.bool false), H) := nf
def ZaO := kR Z5w
def ZmL := kL ZaO
def Z1M := kO ZmL
def ZkN := opN Z1M 0
def Zmu := opN Z1M 1
def ZlD := opN Z1M 2
def Zp7 := opN Z1M 3
theorem Z0dG : XG 107 7 ZmL Z1M [0, 1, 4, 5, 6] := Z1 (by rfl) (by rfl) _
theorem ZNF : Z1M.toList = [ZkN, Zmu, ZlD, Zp7] := nf
theorem ZOz : stepA E C B 7 Z1M ZkN (φ, H) = stp (some 4) φ H (just (aLoad E.T 22 (fget φ 1))) := nf
theorem ZUP : stepA E C B 7 Z1M Zmu (φ, H) = some (fput φ 5 (fget φ 0), H) := nf
theorem ZW2 : stepA E C B 7 Z1M ZlD (φ, H) = stp (some 6) φ H (aCall C (fun j => B + j * 7 + 6) true 24 [(fget φ 4), (fget φ 5)]) := nf
theorem ZTB : stepA E C B 7 Z1M Zp7 (φ, H) = some (fput φ 3 (fget φ 6), H) := nf
def ZJ8 := kR ZaO
theorem Z0gi : execA E C (fg 107) B 7 E0 N ZJ8 s = some (.ret, s) := Zq (by rfl) s
theorem Z0f4 : XQ 107 7 ZaO ZmL ZJ8 := Z0 (by rfl) _
theorem Z0dp : XQ 107 7 Z5w Zpf ZaO := Z0 (by rfl) _
theorem ZK4 : fInfo E 107 = some ⟨7, #[.tmp 3], Z5w⟩ := nf
theorem Z0k8 (args : List AV) : bodyA E C fg N 107 args H B = bodyX E [.tmp 3] (execA E C (fg 107) B 7 H N Z5w (Z8 args 0 [], H)) := Zt ZK4 args H
abbrev Z0m2 := And.intro (And.intro (And.intro @Z0ie (And.intro @ZPL @ZW9)) (And.intro @Z0dG (And.intro @ZNF @ZOz))) (And.intro (And.intro @ZUP (And.intro @ZW2 @ZTB)) (And.intro (And.intro @Z0gi @Z0f4) (And.intro @Z0dp @Z0k8)))
def ZaN := kBody Proofs.Try.f68
def ZEm := kL ZaN
def ZjH := kO ZEm
def Zw6 := opN ZjH 0
theorem Z0ke : XG 68 35 ZEm ZjH [4] := Z1 (by rfl) (by rfl) _
theorem ZYn : ZjH.toList = [Zw6] := nf
theorem Z02k : stepA E C B 35 ZjH Zw6 (φ, H) = some (fput φ 4 (.int .i64 0), H) := nf
def ZjJ := kR ZaN
def ZF7 := kL ZjJ
def ZiA := kO ZF7
def ZBy := opN ZiA 0
theorem Z0jx : XG 68 35 ZF7 ZiA [] := Z1 (by rfl) (by rfl) _
theorem ZWS : ZiA.toList = [ZBy] := nf
theorem Z08z : stepA E C B 35 ZiA ZBy (φ, H) = some (fput φ 5 (.int .i64 0), H) := nf
def ZjR := kR ZjJ
def ZjN := kL ZjR
def ZEu := kL ZjN
def Z43 := kO ZEu
def ZAt := opN Z43 0
def Zwa := opN Z43 1
def ZBL := opN Z43 2
theorem Z0kA : XG 68 35 ZEu Z43 [7] := Z1 (by rfl) (by rfl) _
theorem Z027 : Z43.toList = [ZAt, Zwa, ZBL] := nf
theorem Z09p : stepA E C B 35 Z43 ZAt (φ, H) = some (fput φ 7 (fget φ 0), H) := nf
theorem Z02G : stepA E C B 35 Z43 Zwa (φ, H) = stp (some 8) φ H (Z4 E.T (B + 8) .len #[22] [(fget φ 7)]) := nf
theorem Z06Z : stepA E C B 35 Z43 ZBL (φ, H) = some (fput φ 9 (.int .i64 0), H) := nf
def ZDR := kR ZjN
def ZEw := kB ZDR
def Z94 := kB ZEw
def ZkI := kL Z94
def ZjD := kO ZkI
def Zx6 := opN ZjD 0
theorem Z0fT : XG 68 35 ZkI ZjD [] := Z1 (by rfl) (by rfl) _
theorem Z04B : ZjD.toList = [Zx6] := nf
theorem Z045 : stepA E C B 35 ZjD Zx6 (φ, H) = stp (some 10) φ H (just (aBin E.T .lss 3 (fget φ 9) (fget φ 8))) := nf
def Z9C := kR Z94
def Zb4 := kL Z9C
def ZL7 := kT Zb4
theorem Z0fC : execA E C (fg 68) B 35 E0 N ZL7 s = some (.normal, s) := Zh (by rfl) s
def ZKE := kE Zb4
theorem Z0iy : execA E C (fg 68) B 35 E0 N ZKE s = some (.exit 0, s) := ZI (by rfl) s
theorem Z0dZ : XC 68 35 Zb4 10 ZL7 ZKE := Zf (by rfl) _
def ZbX := kR Z9C
def Zmm := kL ZbX
def Zca := kB Zmm
def Zrq := kL Zca
def Z7v := kO Zrq
def Zzm := opN Z7v 0
def Zwl := opN Z7v 1
theorem Z0hh : XG 68 35 Zrq Z7v [10, 11] := Z1 (by rfl) (by rfl) _
theorem Z07f : Z7v.toList = [Zzm, Zwl] := nf
theorem Z080 : stepA E C B 35 Z7v Zzm (φ, H) = some (fput φ 11 (fget φ 9), H) := nf
theorem Z02A : stepA E C B 35 Z7v Zwl (φ, H) = some (fput φ 6 (fget φ 11), H) := nf
def ZkL := kR Zca
def Zn := kO ZkL
def ZAu := opN Zn 0
def ZyY := opN Zn 1
def ZwD := opN Zn 2
def Zy6 := opN Zn 3
def ZxL := opN Zn 4
def ZwH := opN Zn 5
def ZzQ := opN Zn 6
def Zyq := opN Zn 7
def ZBU := opN Zn 8
def ZzU := opN Zn 9
def Zmz := opN Zn 10
def Zm7 := opN Zn 11
def ZpS := opN Zn 12
def Zmh := opN Zn 13
def Zqs := opN Zn 14
def Zpt := opN Zn 15
def ZoG := opN Zn 16
def Zuw := opN Zn 17
def Zrs := opN Zn 18
def ZoL := opN Zn 19
def Zqg := opN Zn 20
def ZoA := opN Zn 21
theorem Z0eD : XD 68 35 ZkL Zn [6, 12, 13, 14, 15, 16, 17, 18, 19, 20, 21, 22, 23, 24, 25, 26, 27, 28, 29, 30, 31, 32] := Z0h (by rfl) (by rfl) _
theorem ZXj : Zn.toList = [ZAu, ZyY, ZwD, Zy6, ZxL, ZwH, ZzQ, Zyq, ZBU, ZzU, Zmz, Zm7, ZpS, Zmh, Zqs, Zpt, ZoG, Zuw, Zrs, ZoL, Zqg, ZoA] := nf
theorem ZQf : statOk Zn = true := by kernel_rfl
theorem ZTV : drawA E C B 35 Zn s = if neat 35 s = true then drX Zn (runT E C B 35 Zn Zn.toList 0 s) else none := Z00 ZQf s
theorem ZUd (l : List (Nat × Tr)) : dynOk Zn l = (!writing l || Za [[], [], [], [1, 2], [1, 2, 3], [], [], [5, 6], [5, 6, 7], [1, 2, 3, 4, 5, 6, 7, 8], [], [], [10, 11], [10, 11, 12], [], [], [14, 15], [14, 15, 16], [10, 11, 12, 13, 14, 15, 16, 17], [1, 2, 3, 4, 5, 6, 7, 8, 9, 10, 11, 12, 13, 14, 15, 16, 17, 18], [0, 1, 2, 3, 4, 5, 6, 7, 8, 9, 10, 11, 12, 13, 14, 15, 16, 17, 18, 19], [0, 1, 2, 3, 4, 5, 6, 7, 8, 9, 10, 11, 12, 13, 14, 15, 16, 17, 18, 19, 20]] (Z9 l)) := ZQ (by kernel_rfl) l
theorem Z035 : stepT E C B 35 Zn ZAu (φ, H) = some ((fput φ 12 (fget φ 5), H), ⟨false, [], []⟩) := Z3 rfl (Z7 rfl rfl)
theorem Z07I : stepT E C B 35 Zn ZyY (φ, H) = some ((fput φ 13 (fget φ 0), H), ⟨false, [], []⟩) := Z3 rfl (Z7 rfl rfl)
theorem Z05P : stepT E C B 35 Zn ZwD (φ, H) = some ((fput φ 14 (fget φ 6), H), ⟨false, [], []⟩) := Z3 rfl (Z7 rfl rfl)
theorem ZWL : stepT E C B 35 Zn Zy6 (φ, H) = stpT (some 15) φ H (just (Z2 E.T 22 (fget φ 13) (fget φ 14))) := Z3 rfl (Z5 rfl rfl)
theorem ZZh : stepT E C B 35 Zn ZxL (φ, H) = stpT (some 16) φ H (just (aLoad E.T 3 (fget φ 15))) := Z3 rfl (Z5 rfl rfl)
theorem Z08E : stepT E C B 35 Zn ZwH (φ, H) = some ((fput φ 17 (fget φ 1), H), ⟨false, [], []⟩) := Z3 rfl (Z7 rfl rfl)
theorem Z02Z : stepT E C B 35 Zn ZzQ (φ, H) = some ((fput φ 18 (fget φ 6), H), ⟨false, [], []⟩) := Z3 rfl (Z7 rfl rfl)
theorem Z0a4 : stepT E C B 35 Zn Zyq (φ, H) = stpT (some 19) φ H (just (Z2 E.T 22 (fget φ 17) (fget φ 18))) := Z3 rfl (Z5 rfl rfl)
theorem Z07A : stepT E C B 35 Zn ZBU (φ, H) = stpT (some 20) φ H (just (aLoad E.T 3 (fget φ 19))) := Z3 rfl (Z5 rfl rfl)
theorem Z03e : stepT E C B 35 Zn ZzU (φ, H) = stpT (some 21) φ H (just (aBin E.T .sub 3 (fget φ 16) (fget φ 20))) := Z3 rfl (Z5 rfl rfl)
theorem ZT9 : stepT E C B 35 Zn Zmz (φ, H) = some ((fput φ 22 (fget φ 1), H), ⟨false, [], []⟩) := Z3 rfl (Z7 rfl rfl)
theorem ZWb : stepT E C B 35 Zn Zm7 (φ, H) = some ((fput φ 23 (fget φ 6), H), ⟨false, [], []⟩) := Z3 rfl (Z7 rfl rfl)
theorem ZS1 : stepT E C B 35 Zn ZpS (φ, H) = stpT (some 24) φ H (just (Z2 E.T 22 (fget φ 22) (fget φ 23))) := Z3 rfl (Z5 rfl rfl)
theorem ZRF : stepT E C B 35 Zn Zmh (φ, H) = stpT (some 25) φ H (just (aLoad E.T 3 (fget φ 24))) := Z3 rfl (Z5 rfl rfl)
theorem ZQU : stepT E C B 35 Zn Zqs (φ, H) = some ((fput φ 26 (fget φ 0), H), ⟨false, [], []⟩) := Z3 rfl (Z7 rfl rfl)
theorem ZNM : stepT E C B 35 Zn Zpt (φ, H) = some ((fput φ 27 (fget φ 6), H), ⟨false, [], []⟩) := Z3 rfl (Z7 rfl rfl)
theorem ZTL : stepT E C B 35 Zn ZoG (φ, H) = stpT (some 28) φ H (just (Z2 E.T 22 (fget φ 26) (fget φ 27))) := Z3 rfl (Z5 rfl rfl)
theorem ZNr : stepT E C B 35 Zn Zuw (φ, H) = stpT (some 29) φ H (just (aLoad E.T 3 (fget φ 28))) := Z3 rfl (Z5 rfl rfl)
theorem ZNN : stepT E C B 35 Zn Zrs (φ, H) = stpT (some 30) φ H (just (aBin E.T .sub 3 (fget φ 25) (fget φ 29))) := Z3 rfl (Z5 rfl rfl)
theorem ZR7 : stepT E C B 35 Zn ZoL (φ, H) = stpT (some 31) φ H (Z4 E.T (B + 31) .max #[3, 3] [(fget φ 21), (fget φ 30)]) := Z3 rfl (Z5 rfl rfl)
theorem ZU4 : stepT E C B 35 Zn Zqg (φ, H) = stpT (some 32) φ H (just (aBin E.T .add 3 (fget φ 12) (fget φ 31))) := Z3 rfl (Z5 rfl rfl)
theorem ZRd : stepT E C B 35 Zn ZoA (φ, H) = some ((fput φ 5 (fget φ 32), H), ⟨false, [], []⟩) := Z3 rfl (Z7 rfl rfl)
theorem Z0fw : XQ 68 35 Zca Zrq ZkL := Z0 (by rfl) _
theorem Z0hG : execA E C (fg 68) B 35 E0 N Zmm s = blockX 1 (fun s => (forget s.1 [], s.2)) (execA E C (fg 68) B 35 E0 N Zca s) := Ze (by rfl) (by rfl) s
def Ztk := kR ZbX
def Z6J := kO Ztk
def Zxy := opN Z6J 0
def ZC7 := opN Z6J 1
theorem Z0dz : XG 68 35 Ztk Z6J [33] := Z1 (by rfl) (by rfl) _
theorem ZWI : Z6J.toList = [Zxy, ZC7] := nf
theorem Z09u : stepA E C B 35 Z6J Zxy (φ, H) = stp (some 33) φ H (just (aBin E.T .add 3 (fget φ 9) (.int .i64 1))) := nf
theorem Z01P : stepA E C B 35 Z6J ZC7 (φ, H) = some (fput φ 9 (fget φ 33), H) := nf
theorem Z0gP : XQ 68 35 ZbX Zmm Ztk := Z0 (by rfl) _
theorem Z0eq : XQ 68 35 Z9C Zb4 ZbX := Z0 (by rfl) _
theorem Z0m5 : XQ 68 35 Z94 ZkI Z9C := Z0 (by rfl) _
theorem Z0jK : execA E C (fg 68) B 35 E0 N ZEw s = iterA (execA E C (fg 68) B 35 E0 N Z94) (headA E0) N s := ZV (by rfl) s
theorem Z0no : execA E C (fg 68) B 35 E0 N ZDR s = blockX 0 (fun s => (forget s.1 [0, 1, 8, 9, 10], s.2)) (execA E C (fg 68) B 35 E0 N ZEw s) := Ze (by rfl) (by rfl) s
theorem Z0kV : XQ 68 35 ZjN ZEu ZDR := Z0 (by rfl) _
def ZaQ := kR ZjR
def ZkR := kL ZaQ
def Z6t := kO ZkR
def ZDe := opN Z6t 0
def ZAn := opN Z6t 1
theorem Z0gV : XG 68 35 ZkR Z6t [5, 34] := Z1 (by rfl) (by rfl) _
theorem Z00W : Z6t.toList = [ZDe, ZAn] := nf
theorem ZYI : stepA E C B 35 Z6t ZDe (φ, H) = some (fput φ 34 (fget φ 5), H) := nf
theorem ZXH : stepA E C B 35 Z6t ZAn (φ, H) = some (fput φ 4 (fget φ 34), H) := nf
def ZGW := kR ZaQ
theorem Z0cU : execA E C (fg 68) B 35 E0 N ZGW s = some (.ret, s) := Zq (by rfl) s
theorem Z0fp : XQ 68 35 ZaQ ZkR ZGW := Z0 (by rfl) _
theorem Z0na : XQ 68 35 ZjR ZjN ZaQ := Z0 (by rfl) _
theorem Z0kW : XQ 68 35 ZjJ ZF7 ZjR := Z0 (by rfl) _
theorem Z0jN : XQ 68 35 ZaN ZEm ZjJ := Z0 (by rfl) _
theorem Z0ko : fInfo E 68 = some ⟨35, #[.tmp 4], ZaN⟩ := nf
theorem b_68 (args : List AV) : bodyA E C fg N 68 args H B = bodyX E [.tmp 4] (execA E C (fg 68) B 35 H N ZaN (Z8 args 0 [], H)) := Zt Z0ko args H
abbrev F_68 := And.intro (And.intro (And.intro (And.intro (And.intro (And.intro @Z0ke @ZYn) (And.intro @Z02k @Z0jx)) (And.intro (And.intro @ZWS @Z08z) (And.intro @Z0kA @Z027))) (And.intro (And.intro (And.intro @Z09p @Z02G) (And.intro @Z06Z @Z0fT)) (And.intro (And.intro @Z04B @Z045) (And.intro @Z0fC (And.intro @Z0iy @Z0dZ))))) (And.intro (And.intro (And.intro (And.intro @Z0hh @Z07f) (And.intro @Z080 @Z02A)) (And.intro (And.intro @Z0eD @ZXj) (And.intro @ZTV @ZUd))) (And.intro (And.intro (And.intro @Z035 @Z07I) (And.intro @Z05P @ZWL)) (And.intro (And.intro @ZZh @Z08E) (And.intro @Z02Z (And.intro @Z0a4 @Z07A)))))) (And.intro (And.intro (And.intro (And.intro (And.intro @Z03e @ZT9) (And.intro @ZWb @ZS1)) (And.intro (And.intro @ZRF @ZQU) (And.intro @ZNM @ZTL))) (And.intro (And.intro (And.intro @ZNr @ZNN) (And.intro @ZR7 @ZU4)) (And.intro (And.intro @ZRd @Z0fw) (And.intro @Z0hG (And.intro @Z0dz @ZWI))))) (And.intro (And.intro (And.intro (And.intro @Z09u @Z01P) (And.intro @Z0gP @Z0eq)) (And.intro (And.intro @Z0m5 @Z0jK) (And.intro @Z0no (And.intro @Z0kV @Z0gV)))) (And.intro (And.intro (And.intro @Z00W @ZYI) (And.intro @ZXH @Z0cU)) (And.intro (And.intro @Z0fp @Z0na) (And.intro @Z0kW (And.intro @Z0jN @b_68))))))
end Go.AM.Ytfmnoohhhokicaa
end
noncomputable section
namespace Go.AM.Ytfmnoohhhokicaa
open Go Go.AM Go.AM.Rub
def chE (l : List Int) (i : Nat) : Int := if rowF l i < 0 ∨ rowF l i > 8 then 1 else if 0 < i ∧ rowF l i > rowF l (i - 1) then 7 else 0
def chkR (l : List Int) : Int := if l.length = 0 then 4 else if l.length > 6 then 3 else fe (chE l) 0 l.length
theorem Z0K {l : List Int} : chkR l = 0 ↔ 0 < l.length ∧ l.length ≤ 6 ∧ Rw l.length l := by
 unfold chkR
 split
 · rename_i h; exact ⟨fun e => absurd e (by decide), fun e => by omega⟩
 · split
   · rename_i h; exact ⟨fun e => absurd e (by decide), fun e => by omega⟩
   · rename_i h1 h2
     rw [Z3u]
     constructor
     · intro h
       have h0 : ∀ i, i < l.length → 0 ≤ rowF l i ∧ rowF l i ≤ 8 ∧ (0 < i → rowF l i ≤ rowF l (i - 1)) := by
         intro i hi
         have := h i (by omega) (by omega)
         unfold chE at this
         split at this
         · exact absurd this (by decide)
         · split at this
           · exact absurd this (by decide)
           · rename_i a b
             exact ⟨by omega, by omega, fun hp => Int.not_lt.1 fun hh => b ⟨hp, hh⟩⟩
       refine ⟨by omega, by omega, rfl, Z8t (fun i hi => (h0 i hi).1) (fun hp => (h0 0 hp).2.1) fun i hi => ?_⟩
       have := (h0 (i + 1) hi).2.2 (by omega)
       simpa using this
     · rintro ⟨_, _, hr⟩ i _ hi
       have hb := rw_b hr (k := i) (by omega)
       unfold chE
       rw [if_neg (by omega), if_neg]
       rintro ⟨hp, hlt⟩
       have := Z1b hr.row (i - 1) (by omega)
       rw [show i - 1 + 1 = i by omega] at this
       omega
abbrev chS (l : List Int) (ex : Bool) (i : Nat) : St := ([(15, .int .i64 i), (14, .int .i64 l.length), (13, .imm (ics l) l.length ex), (0, .imm (ics l) l.length ex)], [])
theorem Z0iX {C : Callee} {l : List Int} {ex : Bool} (h6 : l.length ≤ 6) (i : Nat) (hi : i < l.length) (he : chE l i = 0) :
   ∃ s', (execA E C (fg 25) 0 40 [] 1000000 Z3V) (chS l ex i) = some (.normal, s') ∧ headA [] s' = chS l ex (i + 1) := by
 have hlen := Z6 l
 have hat := Zu hi
 have hat1 := Zu (l := l) (k := i - 1) (by omega)
 have g1 : (i : Int) < l.length := by omega
 unfold chE at he
 split at he
 · exact absurd he (by decide)
 · split at he
   · exact absurd he (by decide)
   · rename_i a b
     have a1 : ¬ rowF l i < 0 := by omega
     have a2 : ¬ rowF l i > 8 := by omega
     rcases Nat.eq_zero_or_pos i with hz | hp
     · subst hz
       simp (disch := omega) only [ZF, ↓gd, stp, opPick, just, Rd.bind, Rd.run, Rd.opt, upds, tsz, rdCells, aLoad, Z2, aNum, aBin, aInt, Nat.reduceLT, Nat.reduceBEq, Nat.reduceEqDiff, Nat.reduceLeDiff, ↓reduceIte, reduceCtorEq, Int.reduceLE, Int.reduceToNat, ZT, F_25, hat, hlen, a1, a2, cl0, if_pos]
       exact ⟨_, rfl, rfl⟩
     · have b1 : ¬ rowF l i > rowF l (i - 1) := fun hh => b ⟨hp, hh⟩
       have g2 : (i : Int) > 0 := by omega
       have w1 : wrp .i64 ((i : Int) - 1) = ((i - 1 : Nat) : Int) := by rw [Zv (by omega)]; omega
       have g3 : ((i - 1 : Nat) : Int) < l.length := by omega
       simp (disch := omega) only [ZF, ↓gd, stp, opPick, just, Rd.bind, Rd.run, Rd.opt, upds, tsz, rdCells, aLoad, Z2, aNum, aBin, aInt, Nat.reduceLT, Nat.reduceBEq, Nat.reduceEqDiff, Nat.reduceLeDiff, ↓reduceIte, reduceCtorEq, ZT, F_25, g1, g2, g3, hat, hat1, hlen, a1, a2, b1, w1, Zl (show i < 1000000 by omega)]
       exact ⟨_, rfl, rfl⟩
theorem Z0iC {C : Callee} {l : List Int} {ex : Bool} (h6 : l.length ≤ 6) (i : Nat) (hi : i < l.length) (he : chE l i ≠ 0) :
   ∃ H, (execA E C (fg 25) 0 40 [] 1000000 Z3V) (chS l ex i) = some (.ret, ([(2, .int .i64 (chE l i))], H)) := by
 have hlen := Z6 l
 have hat := Zu hi
 have hat1 := Zu (l := l) (k := i - 1) (by omega)
 have g1 : (i : Int) < l.length := by omega
 unfold chE at he ⊢
 by_cases a : rowF l i < 0 ∨ rowF l i > 8
 · rw [if_pos a]
   rcases a with a | a
   · simp (disch := omega) only [ZF, ↓gd, stp, opPick, just, Rd.bind, Rd.run, Rd.opt, upds, tsz, rdCells, aLoad, Z2, aNum, aBin, aInt, Nat.reduceLT, Nat.reduceBEq, Nat.reduceEqDiff, Nat.reduceLeDiff, ↓reduceIte, reduceCtorEq, ZT, F_25, g1, hat, hlen, a]
     exact ⟨_, rfl⟩
   · have a1 : ¬ rowF l i < 0 := by omega
     simp (disch := omega) only [ZF, ↓gd, stp, opPick, just, Rd.bind, Rd.run, Rd.opt, upds, tsz, rdCells, aLoad, Z2, aNum, aBin, aInt, Nat.reduceLT, Nat.reduceBEq, Nat.reduceEqDiff, Nat.reduceLeDiff, ↓reduceIte, reduceCtorEq, ZT, F_25, g1, hat, hlen, a, a1]
     exact ⟨_, rfl⟩
 · rw [if_neg a] at he ⊢
   have a1 : ¬ rowF l i < 0 := by omega
   have a2 : ¬ rowF l i > 8 := by omega
   by_cases b : 0 < i ∧ rowF l i > rowF l (i - 1)
   · rw [if_pos b]
     obtain ⟨hp, b⟩ := b
     have g2 : (i : Int) > 0 := by omega
     have w1 : wrp .i64 ((i : Int) - 1) = ((i - 1 : Nat) : Int) := by rw [Zv (by omega)]; omega
     have g3 : ((i - 1 : Nat) : Int) < l.length := by omega
     simp (disch := omega) only [ZF, ↓gd, stp, opPick, just, Rd.bind, Rd.run, Rd.opt, upds, tsz, rdCells, aLoad, Z2, aNum, aBin, aInt, Nat.reduceLT, Nat.reduceBEq, Nat.reduceEqDiff, Nat.reduceLeDiff, ↓reduceIte, reduceCtorEq, ZT, F_25, g1, g2, g3, hat, hat1, hlen, a1, a2, b, w1]
     exact ⟨_, rfl⟩
   · rw [if_neg b] at he; exact absurd rfl he
theorem ZJX {C : Callee} {l : List Int} {a : AV} (ha : IV l a) (hl : l.length ≤ 1000) : rsOf (bodyA E C fg 1000000 25 [a] [] 0) = some (.int .i64 (chkR l)) := by
 rcases ha with ⟨rfl, rfl⟩ | ⟨ex, rfl⟩
 · simp (disch := omega) only [ZF, Z8, stp, just, Rd.bind, Rd.run, Rd.opt, upds, resA, resL, aLen, Z4, aBin, aInt, Nat.reduceBEq, Nat.reduceEqDiff, Nat.reduceLeDiff, ↓reduceIte, reduceCtorEq, ZT, F_25, chkR]
 · unfold chkR
   by_cases h0 : l.length = 0
   · rw [if_pos h0]
     have g0 : (l.length : Int) = 0 := by omega
     simp (disch := omega) only [ZF, Z8, stp, just, Rd.bind, Rd.run, Rd.opt, upds, resA, resL, aLen, Z4, aBin, aInt, Nat.reduceBEq, Nat.reduceEqDiff, Nat.reduceLeDiff, ↓reduceIte, reduceCtorEq, ZT, F_25, g0]
   · rw [if_neg h0]
     have g0 : ¬ (l.length : Int) = 0 := by omega
     have g0' : ((l.length : Int) == 0) = false := by rw [beq_eq_false_iff_ne]; exact g0
     by_cases h6 : l.length > 6
     · rw [if_pos h6]
       have g1 : (l.length : Int) > 6 := by omega
       simp (disch := omega) only [ZF, Z8, stp, just, Rd.bind, Rd.run, Rd.opt, upds, resA, resL, aLen, Z4, aBin, aInt, Nat.reduceBEq, Nat.reduceEqDiff, Nat.reduceLeDiff, ↓reduceIte, reduceCtorEq, ZT, F_25, g0', g1]
     · rw [if_neg h6]
       have g1 : ¬ (l.length : Int) > 6 := by omega
       have hlen := Z6 l
       have hloop := loopE (f := (execA E C (fg 25) 0 40 [] 1000000 Z3V)) (e := chE l) (R := fun e H => ([(2, .int .i64 e)], H)) (chS l ex) l.length (E0 := []) rfl (by omega) (x := .exit 1) (se := ([(16, .bool false), (15, .int .i64 l.length), (14, .int .i64 l.length), (13, .imm (ics l) l.length ex), (0, .imm (ics l) l.length ex)], [])) (by simp)
         (fun i hi _ he => Z0iX (by omega) i hi he) (fun i hi _ he => Z0iC (by omega) i hi he) (fun _ => by simp (disch := omega) only [ZF, stp, just, Rd.bind, Rd.run, Rd.opt, upds, aBin, aInt, Nat.reduceEqDiff, Nat.reduceLeDiff, ↓reduceIte, F_25, chS])
       simp only [chS, cl0] at hloop
       rcases hloop with ⟨hz, hloop⟩ | ⟨hz, H, hloop⟩
       · rw [hz]
         simp (disch := omega) only [ZF, Z8, stp, just, Rd.bind, Rd.run, Rd.opt, upds, resA, resL, aLen, Z4, aBin, aInt, Nat.reduceBEq, Nat.reduceEqDiff, Nat.reduceLeDiff, ↓reduceIte, reduceCtorEq, ZT, F_25, g0', g1, hloop]
       · simp (disch := omega) only [ZF, Z8, stp, just, Rd.bind, Rd.run, Rd.opt, upds, resA, resL, aLen, Z4, aBin, aInt, Nat.reduceBEq, Nat.reduceEqDiff, Nat.reduceLeDiff, ↓reduceIte, reduceCtorEq, ZT, F_25, g0', g1, hloop]
theorem Z5e {d : Nat} {site : Nat → Nat} {seen : List Nat} {l : List Int} {a : AV} (ha : IV l a) (hl : l.length ≤ 1000) : aBack site true seen (thaw (kF (d + 1)) 25 [a] [] 0) = .pure (.int .i64 (chkR l), []) :=
 Z0W (Z1u rfl (ZJX ha hl))
end Go.AM.Ytfmnoohhhokicaa
end
noncomputable section
namespace Go.AM.Ytfmnoohhhokicaa
open Go Go.AM Go.AM.Rub
def riP (l : List Int) (i : Nat) : List Int := (List.range (i + 1)).map (ps (rowF l))
def riL (l : List Int) : List Int := riP l l.length
theorem Z4N (l : List Int) (i : Nat) : (riP l i).length = i + 1 := by simp [riP]
theorem ZPZ (l : List Int) (i : Nat) : riP l (i + 1) = riP l i ++ [ps (rowF l) i + rowF l i] := by simp [riP, List.range_succ, ps]
theorem ZbL {l : List Int} {i k : Nat} (h : k ≤ i) : (riP l i)[k]? = some (ps (rowF l) k) := by
 simp only [riP, List.getElem?_map]
 rw [List.getElem?_range (by omega)]; rfl
theorem Z70 {l : List Int} {k : Nat} (h : k ≤ l.length) : rowF (riL l) k = ps (rowF l) k := by
 have := ZbL (l := l) h
 show (riP l l.length).getD k 0 = _
 rw [List.getD_eq_getElem?_getD, this]; rfl
theorem ps_b {n : Nat} {l : List Int} (h : Rw n l) : ∀ k, k ≤ n → 0 ≤ ps (rowF l) k ∧ ps (rowF l) k ≤ 8 * k
 | 0, _ => by simp [ps]
 | k + 1, hk => by
   have := ps_b h k (by omega)
   have := rw_b h (k := k) (by omega)
   simp only [ps]; omega
abbrev riS (l : List Int) (ex : Bool) (i : Nat) : St := ([(9, .int .i64 i), (8, .int .i64 l.length), (7, .imm (ics l) l.length ex), (3, .ref 6 0 (i + 1) (i + 1) (i + 1) 1 false)], [(6, ⟨.row, ics (riP l i)⟩)])
theorem Z0kp {C : Callee} {n : Nat} {l : List Int} {ex : Bool} (h : Rw n l) (hn : n ≤ 8) (i : Nat) (hi : i < l.length) :
   ∃ s', (execA E C (fg 79) 0 25 [] 1000000 Z5l) (riS l ex i) = some (.normal, s') ∧ headA [] s' = riS l ex (i + 1) := by
 have hln := h.len
 have hlen := Z6 l
 have hat := Zu hi
 have hrl : (ics (riP l i)).length = i + 1 := by rw [Z6, Z4N]
 have hra := Z1T (ZbL (l := l) (i := i) (Nat.le_refl i))
 have hsn := Z8K (riP l i) (ps (rowF l) i + rowF l i)
 have htk : List.take (i + 1) (ics (riP l i)) = ics (riP l i) := List.take_of_length_le (by omega)
 have b1 := ps_b h i (by omega)
 have b2 := rw_b h (k := i) (by omega)
 have g1 : (i : Int) < l.length := by omega
 have g2 : (i : Int) < ((i + 1 : Nat) : Int) := by omega
 have w1 : wrp .i64 (ps (rowF l) i + rowF l i) = ps (rowF l) i + rowF l i := Zv (by omega)
 have hno : ¬ i + 1 + 1 ≤ i + 1 := by omega
 simp only [riS, ZPZ]
 rw [← hsn]
 generalize ics (riP l i) = L at *
 generalize ps (rowF l) i = p at *
 simp (disch := omega) only [ZF, stp, just, Rd.bind, Rd.run, Rd.opt, upds, acells, zeroCells, tsz, elemT, rdCells, aLoad, fresh, Z2, aNum, Z4, aBin, aInt, putC, evO, Nat.reduceAdd, Nat.reduceLT, Nat.reduceBEq, Nat.reduceEqDiff, Nat.reduceLeDiff, ↓reduceIte, reduceCtorEq, Zi, Z0b, partsOf, fillA, repC, Z0i, aAppend, srcOf, window, snaps, ZT, F_79, g1, g2, hat, hlen, hrl, hra, htk, w1, hno, Z62 (show i + 1 + 1 ≤ 1000000 by omega), Zl (show i < 1000000 by omega)]
 exact ⟨_, rfl, rfl⟩
theorem ZMB {C : Callee} {n : Nat} {l : List Int} {a : AV} (ha : IV l a) (h : Rw n l) (hn : n ≤ 8) :
   ∃ H, bodyA E C fg 1000000 79 [a] [] 0 = some (.ref 6 0 (l.length + 1) (l.length + 1) (l.length + 1) 1 false, H) ∧ hget H 6 = some ⟨.row, ics (riL l)⟩ := by
 rcases ha with ⟨rfl, rfl⟩ | ⟨ex, rfl⟩
 · have hloop := Z5E (f := (execA E C (fg 79) 0 25 [] 1000000 Z5l)) (E0 := []) (s0 := ([(9, .int .i64 0), (8, .int .i64 0), (7, .nilsl), (3, .ref 6 0 1 1 1 1 false)], [(6, ⟨.row, [.int .i64 0]⟩)])) rfl (e := .exit 0) (se := ([(10, .bool false), (9, .int .i64 0), (8, .int .i64 0), (7, .nilsl), (3, .ref 6 0 1 1 1 1 false)], [(6, ⟨.row, [.int .i64 0]⟩)]))
     (by simp (disch := omega) only [ZF, stp, just, Rd.bind, Rd.run, Rd.opt, upds, aBin, aInt, Nat.reduceEqDiff, Nat.reduceLeDiff, ↓reduceIte, F_79]) (by simp)
   simp (disch := omega) only [ZF, Z8, stp, just, Rd.bind, Rd.run, upds, acells, zeroCells, tsz, elemT, resA, resL, fresh, aLen, Z4, putC, evO, ofV, ofV1, Nat.reduceAdd, Nat.reduceLT, Nat.reduceBEq, Nat.reduceEqDiff, Nat.reduceLeDiff, ↓reduceIte, reduceCtorEq, Zi, Z0b, partsOf, fillA, repC, snaps, ZT, F_79, hloop]
   exact ⟨_, rfl, rfl⟩
 · have hln := h.len
   have hlen := Z6 l
   have hloop := loopM (f := (execA E C (fg 79) 0 25 [] 1000000 Z5l)) (E0 := []) (riS l ex) l.length (fun i hi => Z0kp h hn i hi) rfl (by omega)
     (e := .exit 0) (se := ([(10, .bool false), (9, .int .i64 l.length), (8, .int .i64 l.length), (7, .imm (ics l) l.length ex), (3, .ref 6 0 (l.length + 1) (l.length + 1) (l.length + 1) 1 false)], [(6, ⟨.row, ics (riL l)⟩)]))
     (by simp (disch := omega) only [ZF, stp, just, Rd.bind, Rd.run, Rd.opt, upds, aBin, aInt, Nat.reduceEqDiff, Nat.reduceLeDiff, ↓reduceIte, F_79, riS, riL]) (by simp)
   have e0 : ics (riP l 0) = [.int .i64 0] := rfl
   simp only [riS, e0, cl0, Nat.zero_add] at hloop
   simp (disch := omega) only [ZF, Z8, stp, just, Rd.bind, Rd.run, upds, acells, zeroCells, tsz, elemT, resA, resL, fresh, aLen, Z4, putC, evO, ofV, ofV1, Nat.reduceAdd, Nat.reduceLT, Nat.reduceBEq, Nat.reduceEqDiff, Nat.reduceLeDiff, ↓reduceIte, reduceCtorEq, Zi, Z0b, partsOf, fillA, repC, snaps, ZT, F_79, hloop]
   exact ⟨_, rfl, rfl⟩
theorem Z3K (l : List Int) : (ics (riL l)).length = l.length + 1 := by rw [Z6]; exact Z4N _ _
theorem Zc5 {d : Nat} {site : Nat → Nat} {seen : List Nat} {n : Nat} {l : List Int} {a : AV} (ha : IV l a) (h : Rw n l) (hn : n ≤ 8) : aBack site true seen (thaw (kF (d + 1)) 79 [a] [] 0) =
   Z0m (site 0) seen (fun k => .ref k 0 (l.length + 1) (l.length + 1) (l.length + 1) 1 false) ⟨.row, ics (riL l)⟩ := by
 obtain ⟨H, h1, h2⟩ := ZMB (C := kF d) ha h hn
 exact Z2m (by rw [Z11 rfl]; exact h1) h2 (Z3K l)
end Go.AM.Ytfmnoohhhokicaa
end
noncomputable section
namespace Go.AM.Ytfmnoohhhokicaa
open Go Go.AM Go.AM.Rub
theorem ZWi {C : Callee} {l : List Int} {a : AV} (ha : IV l a) (h6 : l.length ≤ 6) : ∃ H, bodyA E C fg 1000000 82 [a] [] 0 = some (.agg (ics (pad6 l)), H) := by
 have z6 : [AV.int .i64 0, .int .i64 0, .int .i64 0, .int .i64 0, .int .i64 0, .int .i64 0] = ics (List.replicate 6 0) := rfl
 rcases ha with ⟨rfl, rfl⟩ | ⟨ex, rfl⟩
 · have e : ics (pad6 []) = ics (List.replicate 6 0) := rfl
   rw [e, ← z6]
   simp (disch := omega) only [ZF, Z8, stp, opBox, just, Rd.bind, Rd.run, Rd.opt, upds, acells, zeroCells, tsz, elemT, rdCells, aLoad, aStore, opStore, resA, resL, fresh, Z4, putC, Nat.reduceAdd, Nat.reduceLT, Nat.reduceBEq, Nat.reduceEqDiff, Nat.reduceLeDiff, ↓reduceIte, reduceCtorEq, srcOf, snaps, aSlice, aBounds, bMax, bHigh, bLow, ZT, F_82, aCopy, srcOf]
   exact ⟨_, rfl⟩
 · have hlen := Z6 l
   have hp : putC (ics (List.replicate 6 0)) 0 (ics l) = ics (pad6 l) := by
     rw [Z5a l _ 0 (by simp; omega)]
     simp only [List.take_zero, List.nil_append, Nat.zero_add, List.drop_replicate, pad6]
   have hp2 : putC (ics (List.replicate 6 0)) 0 (ics (pad6 l)) = ics (pad6 l) := by
     rw [Z5a _ _ 0 (by rw [Z1x h6]; simp), Z1x h6]
     simp only [List.take_zero, List.nil_append, Nat.zero_add, List.drop_replicate, Nat.sub_self, List.replicate_zero, List.append_nil]
   have htk : List.take (min l.length 6) (ics l) = ics l := List.take_of_length_le (by omega)
   rw [← z6] at hp hp2
   have hpl : (ics (pad6 l)).length = 6 := by rw [Z6, Z1x h6]
   have ht6 : List.take 6 (ics (pad6 l)) = ics (pad6 l) := List.take_of_length_le (by omega)
   generalize ics (pad6 l) = P at *
   simp (disch := omega) only [ZF, Z8, stp, opBox, just, Rd.bind, Rd.run, Rd.opt, upds, acells, zeroCells, tsz, elemT, rdCells, aLoad, aStore, opStore, resA, resL, fresh, Z4, Nat.reduceAdd, Nat.reduceLT, Nat.reduceBEq, Nat.reduceEqDiff, Nat.reduceLeDiff, ↓reduceIte, reduceCtorEq, srcOf, aSlice, aBounds, bMax, bHigh, bLow, ZT, F_82, aCopy, srcOf, hlen, hp, hp2, htk, hpl, ht6]
   exact ⟨_, rfl⟩
theorem ZeY {d : Nat} {site : Nat → Nat} {seen : List Nat} {l : List Int} {a : AV} (ha : IV l a) (h6 : l.length ≤ 6) : aBack site true seen (thaw (kF (d + 1)) 82 [a] [] 0) = .pure (.agg (ics (pad6 l)), []) := by
 obtain ⟨H, h⟩ := ZWi (C := kF d) ha h6
 exact ZmE ⟨H, by rw [Z11 rfl]; exact h⟩ (by rw [Z1x h6]; omega)
abbrev ruH (s : List Int) : AHeap := [(4, ⟨.box, ics s⟩)]
abbrev ruS (s : List Int) (i j : Nat) : St := ([(2, .int .i64 j), (1, .int .i64 i), (0, .ptr 4 0 6)], ruH s)
theorem Z7S {s : List Int} {φ : AFr} : headA (ruH s) (φ, ruH s) = (φ, ruH s) := Zck (by simp [ruH, Z2o])
theorem ZWm {C : Callee} {s : List Int} (hs : s.length = 6) (j : Nat) : ∀ (m i F : Nat), i + m = 5 → m < F →
   iterA (execA E C (fg 114) 176 59 (ruH s) 1000000 Z5K) (headA (ruH s)) F (ruS s i j) = some (.exit 0, ([(22, .bool false), (2, .int .i64 j), (1, .int .i64 (lastEq s i m)), (0, .ptr 4 0 6)], ruH s))
 | m, i, 0, _, hF => by omega
 | 0, i, F + 1, hi, _ => by
   have hi : i = 5 := by omega
   subst hi
   have hlen : (ics s).length = 6 := by rw [Z6, hs]
   rw [ZP, Z7S]
   simp (disch := omega) only [ZF, opPick, just, Rd.bind, Rd.run, Rd.opt, upds, tsz, opNil, Z2, aNum, aBin, aInt, Nat.reduceAdd, Nat.reduceBEq, Nat.reduceEqDiff, Nat.reduceLeDiff, ↓reduceIte, reduceCtorEq, stpT, ↓gdT, Rd.foot, writing, Z9, Tr.empty, Za, ZT, Z5f, hlen, lastEq, cl5]
   try rfl
 | m + 1, i, F + 1, hi, hF => by
   have hlen : (ics s).length = 6 := by rw [Z6, hs]
   have a1 := Zu (l := s) (k := i) (by omega)
   have a2 := Zu (l := s) (k := i + 1) (by omega)
   have g1 : ((i + 1 : Nat) : Int) < 6 := by omega
   have g2 : (i : Int) < 6 := by omega
   rw [ZP, Z7S]
   simp only [lastEq]
   by_cases he : rowF s (i + 1) = rowF s i
   · rw [if_pos ⟨by omega, he⟩, ← ZWm (C := C) hs j m (i + 1) F (by omega) (by omega)]
     simp (disch := omega) only [ZF, stp, opPick, just, Rd.bind, Rd.run, Rd.opt, upds, tsz, rdCells, aLoad, opNil, Z2, aNum, aBin, aInt, Nat.reduceAdd, Nat.reduceBEq, Nat.reduceEqDiff, Nat.reduceLeDiff, ↓reduceIte, reduceCtorEq, stpT, ↓gdT, Rd.foot, writing, Z9, Tr.empty, Za, apartT, disj, ZT, Z5f, hlen, a1, a2, g1, he, if_pos, Zl (show i < 1000000 by omega)]
     try rfl
   · rw [if_neg fun h => he h.2]
     have he' : (rowF s (i + 1) == rowF s i) = false := by rw [beq_eq_false_iff_ne]; exact he
     simp (disch := omega) only [ZF, opPick, just, Rd.bind, Rd.run, Rd.opt, upds, tsz, rdCells, aLoad, opNil, Z2, aNum, aBin, aInt, Nat.reduceAdd, Nat.reduceBEq, Nat.reduceEqDiff, Nat.reduceLeDiff, ↓reduceIte, reduceCtorEq, stpT, ↓gdT, Rd.foot, writing, Z9, Tr.empty, Za, apartT, disj, ZT, Z5f, hlen, a1, a2, g1, he', if_pos, Zl (show i < 1000000 by omega)]
theorem ZWw {C : Callee} {s : List Int} (hs : s.length = 6) (i : Nat) : ∀ (j F : Nat), j < 6 → j < F →
   iterA (execA E C (fg 114) 176 59 (ruH s) 1000000 Z4K) (headA (ruH s)) F (ruS s i j) = some (.exit 2, ([(40, .bool false), (2, .int .i64 (firstEq s j)), (1, .int .i64 i), (0, .ptr 4 0 6)], ruH s))
 | j, 0, _, hF => by omega
 | 0, F + 1, hi, _ => by
   have hlen : (ics s).length = 6 := by rw [Z6, hs]
   rw [ZP, Z7S]
   simp (disch := omega) only [ZF, opPick, just, Rd.bind, Rd.run, Rd.opt, upds, aBin, aInt, Nat.reduceAdd, Nat.reduceBEq, Nat.reduceEqDiff, Nat.reduceLeDiff, ↓reduceIte, stpT, ↓gdT, Rd.foot, writing, Z9, Tr.empty, Za, Z5f, firstEq, cl0]
   try rfl
 | j + 1, F + 1, hi, hF => by
   have hlen : (ics s).length = 6 := by rw [Z6, hs]
   have a1 := Zu (l := s) (k := j) (by omega)
   have a2 := Zu (l := s) (k := j + 1) (by omega)
   have g1 : ((j + 1 : Nat) : Int) > 0 := by omega
   have g2 : ((j + 1 : Nat) : Int) < 6 := by omega
   have g3 : (j : Int) < 6 := by omega
   have w : wrp .i64 (((j + 1 : Nat) : Int) - 1) = (j : Int) := by rw [Zv (by omega)]; omega
   rw [ZP, Z7S]
   simp only [firstEq]
   by_cases he : rowF s j = rowF s (j + 1)
   · rw [if_pos he, ← ZWw (C := C) hs i j F (by omega) (by omega)]
     simp (disch := omega) only [ZF, stp, opPick, just, Rd.bind, Rd.run, Rd.opt, upds, tsz, rdCells, aLoad, opNil, Z2, aNum, aBin, aInt, Nat.reduceAdd, Nat.reduceBEq, Nat.reduceEqDiff, Nat.reduceLeDiff, ↓reduceIte, reduceCtorEq, stpT, ↓gdT, Rd.foot, writing, Z9, Tr.empty, Za, apartT, disj, ZT, Z5f, hlen, a1, a2, g1, he, w, if_pos]
     try rfl
   · rw [if_neg he]
     have he' : (rowF s j == rowF s (j + 1)) = false := by rw [beq_eq_false_iff_ne]; exact he
     simp (disch := omega) only [ZF, opPick, just, Rd.bind, Rd.run, Rd.opt, upds, tsz, rdCells, aLoad, opNil, Z2, aNum, aBin, aInt, Nat.reduceAdd, Nat.reduceBEq, Nat.reduceEqDiff, Nat.reduceLeDiff, ↓reduceIte, reduceCtorEq, stpT, ↓gdT, Rd.foot, writing, Z9, Tr.empty, Za, apartT, disj, ZT, Z5f, hlen, a1, a2, g1, he', w, if_pos]
end Go.AM.Ytfmnoohhhokicaa
end
noncomputable section
namespace Go.AM.Ytfmnoohhhokicaa
open Go Go.AM Go.AM.Rub
theorem ZQY {l : List Int} (h6 : l.length ≤ 6) : ∀ (m i : Nat), i + m = 5 → i < l.length → 0 < rowF l i → lastEq (pad6 l) i m = lastEq l i l.length := by
 have key : ∀ (m i k : Nat), i + m = 5 → l.length ≤ i + k + 1 → i < l.length → 0 < rowF l i → lastEq (pad6 l) i m = lastEq l i k := by
   intro m
   induction m with
   | zero => intro i k h1 h2 h3 h4; cases k with
     | zero => rfl
     | succ k => simp only [lastEq]; rw [if_neg (by omega)]
   | succ m ih =>
     intro i k h1 h2 h3 h4
     have hp := Z1x h6
     cases k with
     | zero =>
       simp only [lastEq]
       rw [if_neg]
       rintro ⟨_, e⟩
       rw [Z5Y (by omega), Z18 h3] at e
       omega
     | succ k =>
       simp only [lastEq]
       by_cases hi : i + 1 < l.length
       · rw [Z18 hi, Z18 h3]
         by_cases he : rowF l (i + 1) = rowF l i
         · rw [if_pos ⟨by omega, he⟩, if_pos ⟨hi, he⟩, ih (i + 1) k (by omega) (by omega) hi (by omega)]
         · rw [if_neg fun h => he h.2, if_neg fun h => he h.2]
       · rw [if_neg (by rintro ⟨_, e⟩; rw [Z5Y (by omega), Z18 h3] at e; omega), if_neg fun h => hi h.1]
 intro m i h1 h2 h3
 exact key m i l.length h1 (by omega) h2 h3
theorem Zft {l : List Int} : ∀ j, j < l.length → firstEq (pad6 l) j = firstEq l j
 | 0, _ => rfl
 | j + 1, h => by
   simp only [firstEq]
   rw [Z18 h, Z18 (show j < l.length by omega), Zft j (by omega)]
theorem Z0eL {l : List Int} {i j : Nat} (hi : i < l.length) (hj : j < l.length) : (mvL (pad6 l) i j).take l.length = mvL l i j := by
 unfold mvL
 rw [Z18 hi, Z18 hj]
 unfold pad6
 rw [List.set_append_left _ _ hi, List.set_append_left _ _ (by rw [List.length_set]; exact hj), List.take_left' (by simp)]
theorem ZW0 {C : Callee} {s : List Int} (hs : s.length = 6) (hb : ∀ k, k < 6 → 0 ≤ rowF s k ∧ rowF s k ≤ 8) {i j : Nat} (hi : i < 6) (hj : j < 6) (hne : lastEq s i (5 - i) ≠ firstEq s j) (hl : lastEq s i (5 - i) < 6) (hf : firstEq s j < 6) :
   bodyA E C fg 1000000 114 [.ptr 4 0 6, .int .i64 i, .int .i64 j] (ruH s) 176 = some (.tup [], [(4, ⟨.box, ics (mvL s (lastEq s i (5 - i)) (firstEq s j))⟩)]) := by
 have h1 := ZWm (C := C) hs j (5 - i) i 1000000 (by omega) (by omega)
 have h2 := ZWw (C := C) hs (lastEq s i (5 - i)) j 1000000 hj (by omega)
 simp only [ruS, ruH] at h1 h2
 simp only [ruH]
 generalize lastEq s i (5 - i) = p at *
 generalize firstEq s j = q at *
 have hlen : (ics s).length = 6 := by rw [Z6, hs]
 have a1 := Zu (l := s) (k := p) (by omega)
 have b1 := hb p hl
 have b2 := hb q hf
 have w1 : wrp .i64 (rowF s p - 1) = rowF s p - 1 := Zv (by omega)
 have w2 : wrp .i64 (rowF s q + 1) = rowF s q + 1 := Zv (by omega)
 have e1 := Z15 s p (rowF s p - 1)
 have l1 : (ics (s.set p (rowF s p - 1))).length = 6 := by rw [Z6, List.length_set, hs]
 have a2 : (ics (s.set p (rowF s p - 1)))[q]? = some (.int .i64 (rowF s q)) := by
   refine Z1T ?_
   rw [List.getElem?_set_ne hne]
   exact Z2y (by omega)
 have e2 := Z15 (s.set p (rowF s p - 1)) q (rowF s q + 1)
 have e3 : ics ((s.set p (rowF s p - 1)).set q (rowF s q + 1)) = ics (mvL s p q) := rfl
 rw [e3] at e2
 generalize ics (mvL s p q) = R at *
 generalize ics (s.set p (rowF s p - 1)) = M at *
 have g1 : (p : Int) < 6 := by omega
 have g2 : (q : Int) < 6 := by omega
 simp (disch := omega) only [ZF, Z8, just, Rd.bind, Rd.run, Rd.opt, upds, acells, tsz, rdCells, aLoad, aStore, opStore, opNil, resA, resL, Z2, aNum, aBin, aInt, putC, Nat.reduceAdd, Nat.reduceBEq, Nat.reduceEqDiff, Nat.reduceLeDiff, ↓reduceIte, reduceCtorEq, stpT, Rd.foot, writing, Z9, Tr.empty, Za, apartT, disj, snaps, ZT, Z5f, h1, h2, hlen, a1, a2, l1, w1, w2, e1, e2, if_pos]
theorem Z08p {d : Nat} {s : List Int} (hs : s.length = 6) (hb : ∀ k, k < 6 → 0 ≤ rowF s k ∧ rowF s k ≤ 8) {n i j : Nat} (hn : n ≤ 6) (hi : i < 6) (hj : j < 6) (hne : lastEq s i (5 - i) ≠ firstEq s j) (hl : lastEq s i (5 - i) < 6) (hf : firstEq s j < 6) :
   ∃ H, bodyA E (kF (d + 1)) fg 1000000 83 [.agg (ics s), .int .i64 n, .int .i64 i, .int .i64 j] [] 0 = some (.ref 17 0 n n n 1 false, H) ∧ hget H 17 = some ⟨.row, ics ((mvL s (lastEq s i (5 - i)) (firstEq s j)).take n)⟩ := by
 have hr : kF (d + 1) 114 [.ptr 4 0 6, .int .i64 i, .int .i64 j] [(4, ⟨.box, ics s⟩)] 176 = some (.tup [], [(4, ⟨.box, ics (mvL s (lastEq s i (5 - i)) (firstEq s j))⟩)]) := by
   rw [Z11 rfl]; exact ZW0 hs hb hi hj hne hl hf
 have hm : ∀ vs args, mutV E (.bnd 114 vs) args = some (114, vs ++ args) := fun _ _ => rfl
 have hlen : (ics s).length = 6 := by rw [Z6, hs]
 have hml : (mvL s (lastEq s i (5 - i)) (firstEq s j)).length = 6 := by rw [Zw, hs]
 generalize mvL s (lastEq s i (5 - i)) (firstEq s j) = S at *
 have hsl : (ics S).length = 6 := by rw [Z6, hml]
 have rep := Zl7 n
 have hflat : [AV.int .i64 0].all AV.flat = true := rfl
 have hfl2 : (ics S).all AV.flat = true := ZNo S
 have hk : (n : Int) ≤ kHi .i64 := by simp only [kHi]; omega
 have hby : ((8 : Nat) : Int) * (n : Int) ≤ 281474976710656 := by omega
 have hil : (ics (List.replicate n 0)).length = n := by rw [Z6, List.length_replicate]
 have ht6 : List.take 6 (ics S) = ics S := List.take_of_length_le (by omega)
 have hmin : min 6 n = n := by omega
 have htn := Z3I S n
 have hput : putC (ics (List.replicate n 0)) 0 (ics (S.take n)) = ics (S.take n) := by
   have : (S.take n).length = n := by rw [List.length_take]; omega
   rw [Z5a _ _ 0 (by rw [this]; simp), this]
   simp
 generalize kF (d + 1) = C at *
 generalize ics (S.take n) = R at *
 simp (disch := omega) only [ZF, Z8, stp, opBox, just, Rd.bind, Rd.run, upds, acells, zeroCells, tsz, elemT, resA, resL, fresh, aNum, Z4, Nat.reduceAdd, Nat.reduceMul, Nat.reduceLT, Nat.reduceBEq, Nat.reduceEqDiff, Nat.reduceLeDiff, ↓reduceIte, reduceCtorEq, srcOf, window, mutX, aSlice, aBounds, bMax, bHigh, bLow, ZT, F_83, aMake, aCopy, srcOf, opFunc, callV, hm, hr, hlen, hsl, rep, hflat, hfl2, hk, hby, hil, ht6, hmin, htn, hput, if_pos]
 exact ⟨_, rfl, rfl⟩
theorem ZsW {d : Nat} {site : Nat → Nat} {seen : List Nat} {n : Nat} {l : List Int} (h : Rw n l) (h6 : n ≤ 6) {i j : Nat} (r : Rb n l i j) : aBack site true seen (thaw (kF (d + 2)) 83 [.agg (ics (pad6 l)), .int .i64 n, .int .i64 i, .int .i64 j] [] 0) =
   Z0m (site 0) seen (fun k => .ref k 0 n n n 1 false) ⟨.row, ics (rubL l i j)⟩ := by
 obtain ⟨re, _⟩ := Z3L h r
 have hl := h.len
 have hij := r.lt
 have hj := r.lj
 have hd := r.df
 have bj := rw_b h (k := j) (by omega)
 have e1 := ZQY (l := l) (by omega) (5 - i) i (by omega) (by omega) (by omega)
 have e2 := Zft (l := l) j (by omega)
 have := re.lt
 have := re.lj
 obtain ⟨H, h1, h2⟩ := Z08p (d := d) (s := pad6 l) (Z1x (by omega)) (fun k hk => by
   rcases Nat.lt_or_ge k l.length with hk | hk
   · rw [Z18 hk]; exact rw_b h (by omega)
   · rw [Z5Y hk]; omega) h6 (i := i) (j := j) (by omega) (by omega) (by rw [e1, e2]; omega) (by rw [e1]; omega) (by rw [e2]; omega)
 rw [e1, e2, ← hl, Z0eL (by omega) (by omega)] at h2
 rw [hl] at h2
 have : rubL l i j = mvL l (lastEq l i l.length) (firstEq l j) := rfl
 rw [this, hl]
 refine Z2m (by rw [Z11 rfl]; exact h1) h2 ?_
 rw [Z6, Zw, hl]
def rubE (l : List Int) (i j : Int) : Int := if chkR l ≠ 0 then chkR l else if min i j < 0 ∨ max i j ≥ l.length then 2 else if i ≥ j then 7 else if rowF l i.toNat - rowF l j.toNat < 2 then 13 else 0
theorem ZHp {l : List Int} {i j : Int} (h : rubE l i j = 0) : 0 < l.length ∧ l.length ≤ 6 ∧ Rw l.length l ∧ ∃ x y : Nat, i = x ∧ j = y ∧ Rb l.length l x y := by
 unfold rubE at h
 by_cases h0 : chkR l = 0
 · rw [if_neg (fun e => e h0)] at h
   split at h
   · exact absurd h (by decide)
   · split at h
     · exact absurd h (by decide)
     · split at h
       · exact absurd h (by decide)
       · obtain ⟨h1, h2, h3⟩ := Z0K.1 h0
         refine ⟨h1, h2, h3, i.toNat, j.toNat, by omega, by omega, by omega, by omega, by omega⟩
 · rw [if_pos h0] at h; exact absurd h h0
theorem Z08W {d : Nat} {l : List Int} {a : AV} {i j : Int} (ha : IV l a) (hl : l.length ≤ 1000) :
   (rubE l i j ≠ 0 ∧ ∃ H, bodyA E (kF (d + 2)) fg 1000000 22 [a, .int .i64 i, .int .i64 j] [] 0 = some (.tup [.nilsl, .int .i64 (rubE l i j)], H)) ∨
   (rubE l i j = 0 ∧ ∃ g H, bodyA E (kF (d + 2)) fg 1000000 22 [a, .int .i64 i, .int .i64 j] [] 0 = some (.tup [.ref g 0 l.length l.length l.length 1 false, .int .i64 0], H) ∧ hget H g = some ⟨.row, ics (rubL l i.toNat j.toNat)⟩) := by
 have hc := fun (site : Nat → Nat) seen => Z5e (d := d + 1) (site := site) (seen := seen) ha hl
 have sn := Z2p ha
 by_cases hE : rubE l i j = 0
 · obtain ⟨h0, h6, hr, x, y, rfl, rfl, rb⟩ := ZHp hE
   refine .inr ⟨hE, 49, ?_⟩
   have hch : chkR l = 0 := by rw [Z0K]; exact ⟨h0, h6, hr⟩
   rw [hch] at hc
   have hrd := fun (site : Nat → Nat) seen => ZeY (d := d + 1) (site := site) (seen := seen) ha h6
   have hap := fun (site : Nat → Nat) seen => ZsW (d := d) (site := site) (seen := seen) hr h6 rb
   obtain ⟨ex, rfl⟩ := Z4h ha h0
   have hlt := rb.lt
   have hlj := rb.lj
   have hdf := rb.df
   have hlen := Z6 l
   have g1 : min (x : Int) y = x := by omega
   have g2 : max (x : Int) y = y := by omega
   have g3 : ¬ (x : Int) < 0 := by omega
   have g4 : ¬ (y : Int) ≥ l.length := by omega
   have g5 : ¬ (x : Int) ≥ y := by omega
   have g6 : (x : Int) < l.length := by omega
   have g7 : (y : Int) < l.length := by omega
   have a1 := Zu (l := l) (k := x) (by omega)
   have a2 := Zu (l := l) (k := y) (by omega)
   have b1 := rw_b hr (k := x) (by omega)
   have b2 := rw_b hr (k := y) (by omega)
   have w : wrp .i64 (rowF l x - rowF l y) = rowF l x - rowF l y := Zv (by omega)
   have g8 : ¬ rowF l x - rowF l y < 2 := by omega
   have sp := fun d => ZfX (pad6 l) (d := d + 8) (by rw [Z1x h6]; omega)
   simp only [Int.toNat_natCast]
   generalize kF (d + 2) = C at *
   generalize ics (pad6 l) = P at *
   simp (disch := omega) only [ZF, ↓gd, Z8, stp, opPick, justO, just, Rd.bind, Rd.run, Rd.opt, upds, tsz, rdCells, aLoad, resA, resL, Z2, aNum, aLen, Z4, aMin, aMax, aBin, aInt, Nat.reduceAdd, Nat.reduceLT, Nat.reduceBEq, Nat.reduceEqDiff, Nat.reduceLeDiff, ↓reduceIte, reduceCtorEq, stpT, Rd.foot, writing, Z9, Tr.empty, Za, aCall, snaps, ZT, F_22, aMin, aMax, hc, hrd, hap, hlen, g4, g5, g6, g7, g8, a1, a2, w, sp, if_pos]
   exact ⟨_, rfl, rfl⟩
 · refine .inl ⟨hE, ?_⟩
   generalize hk : kF (d + 2) = C at *
   unfold rubE at hE ⊢
   by_cases h0 : chkR l = 0
   · rw [if_neg (fun e => e h0)] at hE ⊢
     rw [h0] at hc
     obtain ⟨h1, h6, hr⟩ := Z0K.1 h0
     obtain ⟨ex, rfl⟩ := Z4h ha h1
     have hlen := Z6 l
     by_cases c1 : min i j < 0 ∨ max i j ≥ l.length
     · rw [if_pos c1]
       by_cases c2 : min i j < 0
       · simp (disch := omega) only [ZF, ↓gd, Z8, stp, opPick, justO, just, Rd.bind, Rd.run, Rd.opt, upds, tsz, resA, resL, Z2, aNum, Z4, aMin, aBin, aInt, Nat.reduceAdd, Nat.reduceLT, Nat.reduceBEq, Nat.reduceEqDiff, Nat.reduceLeDiff, ↓reduceIte, reduceCtorEq, stpT, aCall, snaps, ZT, F_22, aMin, hc, hlen, if_pos]
         exact ⟨_, rfl⟩
       · have c3 : max i j ≥ l.length := by omega
         simp (disch := omega) only [ZF, ↓gd, Z8, stp, opPick, justO, just, Rd.bind, Rd.run, Rd.opt, upds, tsz, rdCells, aLoad, resA, resL, Z2, aNum, aLen, Z4, aMin, aMax, aBin, aInt, Nat.reduceAdd, Nat.reduceLT, Nat.reduceBEq, Nat.reduceEqDiff, Nat.reduceLeDiff, ↓reduceIte, reduceCtorEq, stpT, Rd.foot, aCall, snaps, ZT, F_22, aMin, aMax, hc, hlen, if_pos]
         exact ⟨_, rfl⟩
     · rw [if_neg c1] at hE ⊢
       have c2 : ¬ min i j < 0 := by omega
       have c3 : ¬ max i j ≥ l.length := by omega
       by_cases c4 : i ≥ j
       · rw [if_pos c4]
         have c5 : ¬ j > i := by omega
         have c6 : ¬ i ≥ l.length := by omega
         simp (disch := omega) only [ZF, ↓gd, Z8, stp, opPick, justO, just, Rd.bind, Rd.run, Rd.opt, upds, tsz, rdCells, aLoad, resA, resL, Z2, aNum, aLen, Z4, aMin, aMax, aBin, aInt, Nat.reduceAdd, Nat.reduceLT, Nat.reduceBEq, Nat.reduceEqDiff, Nat.reduceLeDiff, ↓reduceIte, reduceCtorEq, stpT, Rd.foot, aCall, snaps, ZT, F_22, aMin, aMax, hc, hlen, c4, c5, c6, if_pos]
         exact ⟨_, rfl⟩
       · rw [if_neg c4] at hE ⊢
         obtain ⟨x, rfl⟩ : ∃ x : Nat, i = x := ⟨i.toNat, by omega⟩
         obtain ⟨y, rfl⟩ : ∃ y : Nat, j = y := ⟨j.toNat, by omega⟩
         simp only [Int.toNat_natCast] at hE ⊢
         by_cases c5 : rowF l x - rowF l y < 2
         · rw [if_pos c5]
           have g6 : (x : Int) < l.length := by omega
           have g7 : (y : Int) < l.length := by omega
           have a1 := Zu (l := l) (k := x) (by omega)
           have a2 := Zu (l := l) (k := y) (by omega)
           have b1 := rw_b hr (k := x) (by omega)
           have b2 := rw_b hr (k := y) (by omega)
           have w : wrp .i64 (rowF l x - rowF l y) = rowF l x - rowF l y := Zv (by omega)
           have c7 : ¬ (y : Int) ≥ l.length := by omega
           simp (disch := omega) only [ZF, ↓gd, Z8, stp, opPick, justO, just, Rd.bind, Rd.run, Rd.opt, upds, tsz, rdCells, aLoad, resA, resL, Z2, aNum, aLen, Z4, aMin, aMax, aBin, aInt, Nat.reduceAdd, Nat.reduceLT, Nat.reduceBEq, Nat.reduceEqDiff, Nat.reduceLeDiff, ↓reduceIte, reduceCtorEq, stpT, Rd.foot, writing, Z9, Tr.empty, Za, aCall, snaps, ZT, F_22, aMin, aMax, hc, hlen, c4, c5, c7, g6, g7, a1, a2, w, if_pos]
           exact ⟨_, rfl⟩
         · rw [if_neg c5] at hE; exact absurd rfl hE
   · rw [if_pos h0]
     generalize chkR l = z at *
     have h0' : (z == 0) = false := by rw [beq_eq_false_iff_ne]; exact h0
     simp (disch := omega) only [ZF, ↓gd, Z8, stp, opPick, justO, just, Rd.bind, Rd.run, Rd.opt, upds, tsz, resA, resL, Z2, aNum, aLen, Z4, aMin, aMax, aBin, aInt, Nat.reduceAdd, Nat.reduceBEq, Nat.reduceEqDiff, Nat.reduceLeDiff, ↓reduceIte, reduceCtorEq, stpT, aCall, snaps, ZT, F_22, hc, h0, sn 198, if_pos]
     exact ⟨_, rfl⟩
end Go.AM.Ytfmnoohhhokicaa
end
noncomputable section
namespace Go.AM.Ytfmnoohhhokicaa
open Go Go.AM Go.AM.Rub
theorem ZWu {l : List Int} {a : AV} (h : IV l a) : aLen E.T 22 a = .pure (.int .i64 (l.length : Int)) := by
 rcases h with ⟨rfl, rfl⟩ | ⟨ex, rfl⟩ <;> (simp only [aLen, T_22] <;> rfl)
def dfE (l m : List Int) (i : Nat) : Int := if rowF l i = rowF m i then 0 else 1
theorem ZmC {l m : List Int} (hl : l.length = m.length) : fe (dfE l m) 0 l.length = 0 ↔ l = m := by
 rw [Z3u]
 constructor
 · intro h
   refine Z4P hl fun i hi => ?_
   have := h i (by omega) (by omega)
   unfold dfE at this
   split at this
   · assumption
   · exact absurd this (by decide)
 · rintro rfl i _ _
   exact if_pos rfl
abbrev saS (a b : AV) (i : Nat) : St := ([(5, .int .i64 i), (1, b), (0, a)], [])
theorem ZST {C : Callee} {l m : List Int} {a b : AV} (ha : IV l a) (hb : IV m b) (hl : l.length ≤ 1000) : rsOf (bodyA E C fg 1000000 24 [a, b] [] 0) = some (.bool (decide (l = m))) := by
 have la := ZWu ha
 have lb := ZWu hb
 by_cases hlm : l.length = m.length
 · have g1 : ¬ (l.length : Int) ≠ m.length := by omega
   have g2 : ((l.length : Int) != m.length) = false := by rw [bne_eq_false_iff_eq]; omega
   have g3 : (l.length : Int) = m.length := by omega
   by_cases h0 : l.length = 0
   · have e1 : l = [] := List.length_eq_zero_iff.1 h0
     have e2 : m = [] := List.length_eq_zero_iff.1 (by omega)
     subst e1 e2
     rw [decide_eq_true rfl]
     have hloop := Z5E (f := (execA E C (fg 24) 0 26 [] 1000000 Z4H)) (E0 := []) (s0 := saS a b 0) (by rcases ha with ⟨_, rfl⟩ | ⟨_, rfl⟩ <;> rcases hb with ⟨_, rfl⟩ | ⟨_, rfl⟩ <;> rfl) (e := .exit 0) (se := ([(14, .bool false), (5, .int .i64 0), (1, b), (0, a)], []))
       (by simp (disch := omega) only [ZF, stp, just, Rd.bind, Rd.run, Rd.opt, upds, Z4, aBin, aInt, Nat.reduceBEq, Nat.reduceEqDiff, Nat.reduceLeDiff, ↓reduceIte, reduceCtorEq, F_24, la, saS, cl0]) (by simp)
     simp only [saS, cl0] at hloop
     simp (disch := omega) only [ZF, Z8, stp, just, Rd.bind, Rd.run, Rd.opt, upds, resA, resL, Z4, aBin, aInt, Nat.reduceBEq, Nat.reduceEqDiff, Nat.reduceLeDiff, ↓reduceIte, reduceCtorEq, F_24, la, lb, hloop]
   · obtain ⟨ea, rfl⟩ := Z4h ha (by omega)
     obtain ⟨eb, rfl⟩ := Z4h hb (by omega)
     have hlen := Z6 l
     have hlen2 := Z6 m
     have hloop := loopE (f := (execA E C (fg 24) 0 26 [] 1000000 Z4H)) (e := dfE l m) (R := fun _ H => ([(4, .bool false)], H)) (saS (.imm (ics l) l.length ea) (.imm (ics m) m.length eb)) l.length (E0 := []) rfl (by omega) (x := .exit 0) (se := ([(14, .bool false), (5, .int .i64 l.length), (1, .imm (ics m) m.length eb), (0, .imm (ics l) l.length ea)], [])) (by simp)
       (fun i hi _ he => by
         have a1 := Zu (l := l) (k := i) hi
         have a2 := Zu (l := m) (k := i) (by omega)
         have k1 : (i : Int) < l.length := by omega
         have k2 : (i : Int) < m.length := by omega
         have hq : rowF l i = rowF m i := by
           unfold dfE at he
           split at he
           · assumption
           · exact absurd he (by decide)
         rw [hq] at a1
         simp (disch := omega) only [ZF, stp, just, Rd.bind, Rd.run, Rd.opt, upds, tsz, rdCells, aLoad, Z2, aNum, aLen, Z4, aBin, aInt, Nat.reduceAdd, Nat.reduceLT, Nat.reduceBEq, Nat.reduceEqDiff, Nat.reduceLeDiff, ↓reduceIte, reduceCtorEq, stpT, Rd.foot, writing, Z9, Tr.empty, Za, ZT, F_24, saS, k1, k2, a1, a2, hlen, hlen2, Zl (show i < 1000000 by omega)]
         exact ⟨_, rfl, rfl⟩)
       (fun i hi _ he => by
         have a1 := Zu (l := l) (k := i) hi
         have a2 := Zu (l := m) (k := i) (by omega)
         have k1 : (i : Int) < l.length := by omega
         have k2 : (i : Int) < m.length := by omega
         have hq : ¬ rowF l i = rowF m i := fun h => he (if_pos h)
         have hq2 : (rowF l i != rowF m i) = true := by rw [bne_iff_ne]; exact hq
         simp (disch := omega) only [ZF, stp, just, Rd.bind, Rd.run, Rd.opt, upds, tsz, rdCells, aLoad, Z2, aNum, aLen, Z4, aBin, aInt, Nat.reduceAdd, Nat.reduceLT, Nat.reduceBEq, Nat.reduceEqDiff, Nat.reduceLeDiff, ↓reduceIte, reduceCtorEq, stpT, Rd.foot, writing, Z9, Tr.empty, Za, ZT, F_24, saS, k1, k2, a1, a2, hlen, hlen2, hq2]
         exact ⟨_, rfl⟩)
       (fun _ => by simp (disch := omega) only [ZF, stp, just, Rd.bind, Rd.run, Rd.opt, upds, aLen, Z4, aBin, aInt, Nat.reduceBEq, Nat.reduceEqDiff, Nat.reduceLeDiff, ↓reduceIte, reduceCtorEq, ZT, F_24, saS])
     simp only [saS, cl0] at hloop
     rcases hloop with ⟨hz, hloop⟩ | ⟨hz, H, hloop⟩
     · rw [decide_eq_true ((ZmC hlm).1 hz)]
       simp (disch := omega) only [ZF, Z8, stp, just, Rd.bind, Rd.run, Rd.opt, upds, resA, resL, aLen, Z4, aBin, aInt, Nat.reduceBEq, Nat.reduceEqDiff, Nat.reduceLeDiff, ↓reduceIte, reduceCtorEq, ZT, F_24, hloop, g3]
     · rw [decide_eq_false fun e => hz ((ZmC hlm).2 e)]
       simp (disch := omega) only [ZF, Z8, stp, just, Rd.bind, Rd.run, Rd.opt, upds, resA, resL, aLen, Z4, aBin, aInt, Nat.reduceBEq, Nat.reduceEqDiff, Nat.reduceLeDiff, ↓reduceIte, reduceCtorEq, ZT, F_24, hloop, g3]
 · rw [decide_eq_false fun e => hlm (by rw [e])]
   have g1 : (l.length : Int) ≠ m.length := by omega
   have g2 : ((l.length : Int) != m.length) = true := by rw [bne_iff_ne]; omega
   have g3 : ¬ (l.length : Int) = m.length := by omega
   simp (disch := omega) only [ZF, Z8, stp, just, Rd.bind, Rd.run, Rd.opt, upds, resA, resL, Z4, aBin, aInt, Nat.reduceBEq, Nat.reduceEqDiff, Nat.reduceLeDiff, ↓reduceIte, reduceCtorEq, F_24, la, lb, g2]
theorem Z41 {d : Nat} {site : Nat → Nat} {seen : List Nat} {l m : List Int} {a b : AV} (ha : IV l a) (hb : IV m b) (hl : l.length ≤ 1000) : aBack site true seen (thaw (kF (d + 1)) 24 [a, b] [] 0) = .pure (.bool (decide (l = m)), []) :=
 Z1I (Z1u rfl (ZST ha hb hl))
end Go.AM.Ytfmnoohhhokicaa
end
noncomputable section
namespace Go.AM.Rub
theorem ZOd {a b : List Int} (hl : a.length = b.length) : MajL a b → totL a = totL b := fun h => by
 have := h.eq
 rw [Zo3, hl, Zo3] at this
 exact this
end Go.AM.Rub
end
noncomputable section
namespace Go.AM.Ytfmnoohhhokicaa
open Go Go.AM Go.AM.Rub
theorem Ziv {C : Callee} {site : Nat → Nat} {seen : List Nat} {f : FuncId} {args : List AV} {id id' n n' g g' sz sz' : Nat} {cells cells' : List AV} {k : IntKind} {z : Int} {H' : AHeap} (h : C f args [] 0 = some (.tup [.ref id 0 n n g sz false, .ref id' 0 n' n' g' sz' false, .int k z], H')) (hg : hget H' id = some ⟨.row, cells⟩) (hg' : hget H' id' = some ⟨.row, cells'⟩) (hne : id' ≠ id) (hs : site 1 ≠ site 0) (e1 : cells.length = g) (e2 : cells'.length = g') :
   aBack site true seen (thaw C f args [] 0) = Z2L (site 0) (site 1) seen (fun k0 k1 => .tup [.ref k0 0 n n g sz false, .ref k1 0 n' n' g' sz' false, .int k z]) ⟨.row, cells⟩ ⟨.row, cells'⟩ := by
 subst e1; subst e2
 have hb : ∀ off, (site 1 + off == site 0 + off) = false := fun off => by rw [beq_eq_false_iff_ne]; omega
 simp only [thaw, h, frzRet, aBack, sitesB, aBackAt, imp, imps, hg, hg', hne, hb, List.length_nil, List.length_cons, List.not_mem_nil, List.mem_cons, or_false, not_false_eq_true, and_true, if_true, List.map_cons, List.map_nil, AM.apart, List.elem_cons, List.elem_nil, Bool.not_false, Bool.and_true, AV.leads, AV.leads.leadsL, Bool.or_false, Bool.true_or, Nat.zero_add, Z2L]
def pairE (a b : List Int) : Int := if chkR a ≠ 0 then chkR a else if chkR b ≠ 0 then chkR b else if a.length ≠ b.length then 5 else if ps (rowF a) a.length ≠ ps (rowF b) b.length then 17 else 0
theorem Z5q {a b : List Int} : pairE a b = 0 ↔ ∃ n, 0 < n ∧ n ≤ 6 ∧ Rw n a ∧ Rw n b ∧ ps (rowF a) n = ps (rowF b) n := by
 unfold pairE
 by_cases ha : chkR a = 0
 · rw [if_neg (fun e => e ha)]
   by_cases hb : chkR b = 0
   · rw [if_neg (fun e => e hb)]
     obtain ⟨a1, a2, a3⟩ := Z0K.1 ha
     obtain ⟨b1, b2, b3⟩ := Z0K.1 hb
     by_cases hl : a.length = b.length
     · rw [if_neg (fun e => e hl)]
       by_cases hs : ps (rowF a) a.length = ps (rowF b) b.length
       · rw [if_neg (fun e => e hs)]
         rw [← hl] at hs b3
         exact ⟨fun _ => ⟨a.length, a1, a2, a3, b3, hs⟩, fun _ => rfl⟩
       · rw [if_pos hs]
         refine ⟨fun e => absurd e (by decide), fun ⟨n, _, _, r1, r2, r3⟩ => ?_⟩
         rw [r1.len, r2.len] at hs; exact absurd r3 hs
     · rw [if_pos hl]
       refine ⟨fun e => absurd e (by decide), fun ⟨n, _, _, r1, r2, r3⟩ => ?_⟩
       rw [r1.len, r2.len] at hl; exact absurd rfl hl
   · rw [if_pos hb]
     refine ⟨fun e => absurd e hb, fun ⟨n, h0, h6, r1, r2, r3⟩ => absurd (Z0K.2 ⟨by rw [r2.len]; exact h0, by rw [r2.len]; exact h6, by rw [r2.len]; exact r2⟩) hb⟩
 · rw [if_pos ha]
   refine ⟨fun e => absurd e ha, fun ⟨n, h0, h6, r1, r2, r3⟩ => absurd (Z0K.2 ⟨by rw [r1.len]; exact h0, by rw [r1.len]; exact h6, by rw [r1.len]; exact r1⟩) ha⟩
theorem ZU7 {d : Nat} {l m : List Int} {a b : AV} (ha : IV l a) (hb : IV m b) (hl : l.length ≤ 1000) (hm : m.length ≤ 1000) :
   (pairE l m ≠ 0 ∧ ∃ H, bodyA E (kF (d + 1)) fg 1000000 85 [a, b] [] 0 = some (.tup [.nilsl, .nilsl, .int .i64 (pairE l m)], H)) ∨
   (pairE l m = 0 ∧ ∃ H, bodyA E (kF (d + 1)) fg 1000000 85 [a, b] [] 0 = some (.tup [.ref 20 0 (l.length + 1) (l.length + 1) (l.length + 1) 1 false, .ref 22 0 (m.length + 1) (m.length + 1) (m.length + 1) 1 false, .int .i64 0], H) ∧ hget H 20 = some ⟨.row, ics (riL l)⟩ ∧ hget H 22 = some ⟨.row, ics (riL m)⟩) := by
 have hc1 := fun (site : Nat → Nat) seen => Z5e (d := d) (site := site) (seen := seen) ha hl
 have hc2 := fun (site : Nat → Nat) seen => Z5e (d := d) (site := site) (seen := seen) hb hm
 have sa := Z2p ha
 have sb := Z2p hb
 unfold pairE
 by_cases h1 : chkR l = 0
 · rw [if_neg (fun e => e h1)]
   rw [h1] at hc1
   obtain ⟨a1, a2, a3⟩ := Z0K.1 h1
   by_cases h2 : chkR m = 0
   · rw [if_neg (fun e => e h2)]
     rw [h2] at hc2
     obtain ⟨b1, b2, b3⟩ := Z0K.1 h2
     have r1 := fun (site : Nat → Nat) seen => Zc5 (d := d) (site := site) (seen := seen) ha a3 (by omega)
     have r2 := fun (site : Nat → Nat) seen => Zc5 (d := d) (site := site) (seen := seen) hb b3 (by omega)
     obtain ⟨ea, rfl⟩ := Z4h ha a1
     obtain ⟨eb, rfl⟩ := Z4h hb b1
     have l1 := Z6 l
     have l2 := Z6 m
     have l3 := Z3K l
     have l4 := Z3K m
     generalize kF (d + 1) = C at *
     by_cases h3 : l.length = m.length
     · rw [if_neg (fun e => e h3)]
       have g1 : ¬ (l.length : Int) ≠ m.length := by omega
       have g2 : ((l.length : Int) != m.length) = false := by rw [bne_eq_false_iff_eq]; omega
       have g3 : (l.length : Int) = m.length := by omega
       have g4 : (l.length : Int) < ((l.length + 1 : Nat) : Int) := by omega
       have g5 : (m.length : Int) < ((m.length + 1 : Nat) : Int) := by omega
       have t1 : (ics (riL l))[l.length]? = some (.int .i64 (ps (rowF l) l.length)) := Z1T (ZbL (Nat.le_refl _))
       have t2 : (ics (riL m))[m.length]? = some (.int .i64 (ps (rowF m) m.length)) := Z1T (ZbL (Nat.le_refl _))
       by_cases h4 : ps (rowF l) l.length = ps (rowF m) m.length
       · rw [if_neg (fun e => e h4)]
         refine .inr ⟨rfl, ?_⟩
         generalize ps (rowF l) l.length = p at *
         generalize ps (rowF m) m.length = q at *
         subst h4
         simp (disch := omega) only [ZF, Z8, stp, just, Rd.bind, Rd.run, Rd.opt, upds, tsz, rdCells, aLoad, resA, resL, Z2, aNum, aLen, Z4, aBin, aInt, Nat.reduceAdd, Nat.reduceLT, Nat.reduceBEq, Nat.reduceEqDiff, Nat.reduceLeDiff, ↓reduceIte, reduceCtorEq, stpT, Rd.foot, writing, Z9, Tr.empty, Za, apartT, disj, aCall, snaps, ZT, F_85, hc1, hc2, r1, r2, l3, l4, g2, g4, g5, t1, t2]
         exact ⟨_, rfl, rfl, rfl⟩
       · rw [if_pos h4]
         refine .inl ⟨by decide, ?_⟩
         generalize ps (rowF l) l.length = p at *
         generalize ps (rowF m) m.length = q at *
         have h4' : (p != q) = true := by rw [bne_iff_ne]; exact h4
         simp (disch := omega) only [ZF, Z8, stp, just, Rd.bind, Rd.run, Rd.opt, upds, tsz, rdCells, aLoad, resA, resL, Z2, aNum, aLen, Z4, aBin, aInt, Nat.reduceAdd, Nat.reduceLT, Nat.reduceBEq, Nat.reduceEqDiff, Nat.reduceLeDiff, ↓reduceIte, reduceCtorEq, stpT, Rd.foot, writing, Z9, Tr.empty, Za, apartT, disj, aCall, snaps, ZT, F_85, hc1, hc2, r1, r2, l3, l4, g2, g4, g5, h4', t1, t2]
         exact ⟨_, rfl⟩
     · rw [if_pos h3]
       refine .inl ⟨by decide, ?_⟩
       have g1 : (l.length : Int) ≠ m.length := by omega
       have g2 : ((l.length : Int) != m.length) = true := by rw [bne_iff_ne]; omega
       have g3 : ¬ (l.length : Int) = m.length := by omega
       simp (disch := omega) only [ZF, Z8, stp, just, Rd.bind, Rd.run, Rd.opt, upds, tsz, rdCells, aLoad, resA, resL, Z2, aNum, aLen, Z4, aBin, aInt, Nat.reduceAdd, Nat.reduceLT, Nat.reduceBEq, Nat.reduceEqDiff, Nat.reduceLeDiff, ↓reduceIte, reduceCtorEq, stpT, Rd.foot, aCall, snaps, ZT, F_85, hc1, hc2, r1, r2, l3, g2, if_pos]
       exact ⟨_, rfl⟩
   · rw [if_pos h2]
     refine .inl ⟨h2, ?_⟩
     generalize kF (d + 1) = C at *
     generalize chkR m = z at *
     have h0' : (z == 0) = false := by rw [beq_eq_false_iff_ne]; exact h2
     simp (disch := omega) only [ZF, Z8, stp, just, Rd.bind, Rd.run, Rd.opt, upds, resA, resL, aBin, aInt, Nat.reduceBEq, Nat.reduceEqDiff, Nat.reduceLeDiff, ↓reduceIte, reduceCtorEq, aCall, snaps, F_85, hc1, hc2, h2, sa 198, sb 198]
     exact ⟨_, rfl⟩
 · rw [if_pos h1]
   refine .inl ⟨h1, ?_⟩
   generalize kF (d + 1) = C at *
   generalize chkR l = z at *
   have h0' : (z == 0) = false := by rw [beq_eq_false_iff_ne]; exact h1
   simp (disch := omega) only [ZF, Z8, stp, just, Rd.bind, Rd.run, Rd.opt, upds, resA, resL, aBin, aInt, Nat.reduceBEq, Nat.reduceEqDiff, Nat.reduceLeDiff, ↓reduceIte, reduceCtorEq, aCall, snaps, F_85, hc1, h1, sa 198]
   exact ⟨_, rfl⟩
def PaC (C : Callee) (a b : AV) (l m : List Int) : Prop :=
 (pairE l m ≠ 0 ∧ ∀ (site : Nat → Nat) seen, aBack site true seen (thaw C 85 [a, b] [] 0) = .pure (.tup [.nilsl, .nilsl, .int .i64 (pairE l m)], [])) ∨
 (pairE l m = 0 ∧ ∀ (site : Nat → Nat) seen, site 1 ≠ site 0 → aBack site true seen (thaw C 85 [a, b] [] 0) = Z2L (site 0) (site 1) seen (fun k k' => .tup [.ref k 0 (l.length + 1) (l.length + 1) (l.length + 1) 1 false, .ref k' 0 (m.length + 1) (m.length + 1) (m.length + 1) 1 false, .int .i64 0]) ⟨.row, ics (riL l)⟩ ⟨.row, ics (riL m)⟩)
theorem paC {d : Nat} {l m : List Int} {a b : AV} (ha : IV l a) (hb : IV m b) (hl : l.length ≤ 1000) (hm : m.length ≤ 1000) : PaC (kF (d + 2)) a b l m := by
 rcases ZU7 (d := d) ha hb hl hm with ⟨h, H, h1⟩ | ⟨h, H, h1, h2, h3⟩
 · exact .inl ⟨h, fun site seen => Z1o (by rw [Z11 rfl]; exact h1) rfl (fun _ => rfl) rfl⟩
 · exact .inr ⟨h, fun site seen hs => Ziv (by rw [Z11 rfl]; exact h1) h2 h3 (by decide) hs (Z3K l) (Z3K m)⟩
def ovE (a b : List Int) (i : Nat) : Int := if rowF a i < rowF b i then (i : Int) + 1 else 0
def ovV (a b : List Int) : Int := fe (ovE a b) 0 a.length - 1
abbrev ovS (a b : List Int) (x y : Bool) (i : Nat) : St := ([(8, .int .i64 i), (7, .int .i64 a.length), (1, .imm (ics b) b.length y), (0, .imm (ics a) a.length x)], [])
theorem ZQP {C : Callee} {a b : List Int} {x y : Bool} (hl : a.length = b.length) (h9 : a.length ≤ 1000) : rsOf (bodyA E C fg 1000000 86 [.imm (ics a) a.length x, .imm (ics b) b.length y] [] 0) = some (.int .i64 (ovV a b)) := by
 have l1 := Z6 a
 have l2 := Z6 b
 have hloop := loopE (f := (execA E C (fg 86) 0 22 [] 1000000 ZbQ)) (e := ovE a b) (R := fun e H => ([(4, .int .i64 (e - 1))], H)) (ovS a b x y) a.length (E0 := []) rfl (by omega) (x := .exit 0) (se := ([(9, .bool false), (8, .int .i64 a.length), (7, .int .i64 a.length), (1, .imm (ics b) b.length y), (0, .imm (ics a) a.length x)], [])) (by simp)
   (fun i hi _ he => by
     have a1 := Zu (l := a) (k := i) hi
     have a2 := Zu (l := b) (k := i) (by omega)
     have g1 : (i : Int) < a.length := by omega
     have g2 : (i : Int) < b.length := by omega
     have g3 : ¬ rowF a i < rowF b i := fun h => by unfold ovE at he; rw [if_pos h] at he; omega
     simp (disch := omega) only [ZF, stp, just, Rd.bind, Rd.run, Rd.opt, upds, tsz, rdCells, aLoad, Z2, aNum, aBin, aInt, Nat.reduceAdd, Nat.reduceLT, Nat.reduceBEq, Nat.reduceEqDiff, Nat.reduceLeDiff, ↓reduceIte, reduceCtorEq, stpT, Rd.foot, writing, Z9, Tr.empty, Za, ZT, F_86, ovS, g1, g2, g3, a1, a2, l1, l2, Zl (show i < 1000000 by omega)]
     exact ⟨_, rfl, rfl⟩)
   (fun i hi _ he => by
     have a1 := Zu (l := a) (k := i) hi
     have a2 := Zu (l := b) (k := i) (by omega)
     have g1 : (i : Int) < a.length := by omega
     have g2 : (i : Int) < b.length := by omega
     by_cases g3 : rowF a i < rowF b i
     · have e : ovE a b i - 1 = i := by unfold ovE; rw [if_pos g3]; omega
       rw [e]
       simp (disch := omega) only [ZF, stp, just, Rd.bind, Rd.run, Rd.opt, upds, tsz, rdCells, aLoad, Z2, aNum, aBin, aInt, Nat.reduceAdd, Nat.reduceLT, Nat.reduceBEq, Nat.reduceEqDiff, Nat.reduceLeDiff, ↓reduceIte, reduceCtorEq, stpT, Rd.foot, writing, Z9, Tr.empty, Za, ZT, F_86, ovS, g1, g2, g3, a1, a2, l1, l2]
       exact ⟨_, rfl⟩
     · unfold ovE at he; rw [if_neg g3] at he; exact absurd rfl he)
   (fun _ => by simp (disch := omega) only [ZF, stp, just, Rd.bind, Rd.run, Rd.opt, upds, aBin, aInt, Nat.reduceEqDiff, Nat.reduceLeDiff, ↓reduceIte, F_86, ovS])
 simp only [ovS, cl0] at hloop
 unfold ovV
 rcases hloop with ⟨hz, hloop⟩ | ⟨hz, H, hloop⟩
 · rw [hz]
   have e : (0 : Int) - 1 = -1 := rfl
   rw [e]
   simp (disch := omega) only [ZF, Z8, stp, just, Rd.bind, Rd.run, upds, resA, resL, aLen, Z4, Nat.reduceBEq, Nat.reduceEqDiff, Nat.reduceLeDiff, Int.reduceNeg, ↓reduceIte, reduceCtorEq, ZT, F_86, hloop]
 · simp (disch := omega) only [ZF, Z8, stp, just, Rd.bind, Rd.run, upds, resA, resL, aLen, Z4, Nat.reduceBEq, Nat.reduceEqDiff, Nat.reduceLeDiff, ↓reduceIte, reduceCtorEq, ZT, F_86, hloop]
theorem ZLb {d : Nat} {site : Nat → Nat} {seen : List Nat} {a b : List Int} {n : Nat} {x y : Bool} (h1 : a.length = n) (h2 : b.length = n) (h9 : n ≤ 1000) : aBack site true seen (thaw (kF (d + 1)) 86 [.imm (ics a) n x, .imm (ics b) n y] [] 0) = .pure (.int .i64 (ovV a b), []) := by
 have := Z0W (site := site) (seen := seen) (Z1u (d := d) (f := 86) rfl (ZQP (C := kF d) (a := a) (b := b) (x := x) (y := y) (by omega) (by omega)))
 rw [h1, h2] at this
 exact this
def whV (a b : List Int) : Int := ovV (riL a) (riL b)
theorem Z0dA {n : Nat} {a b : List Int} (ha : Rw n a) (hb : Rw n b) (he : ps (rowF a) n = ps (rowF b) n) : whV a b < 0 ↔ MajL a b := by
 have hla : (riL a).length = n + 1 := by show (riP a a.length).length = _; rw [Z4N, ha.len]
 have h0 : ∀ m k, 0 ≤ fe (ovE (riL a) (riL b)) k m := by
   intro m
   induction m with
   | zero => intro k; exact Int.le_refl _
   | succ m ih =>
     intro k
     simp only [fe]
     split
     · exact ih _
     · unfold ovE; split <;> omega
 have := h0 (riL a).length 0
 have hz : whV a b < 0 ↔ fe (ovE (riL a) (riL b)) 0 (riL a).length = 0 := by unfold whV ovV; omega
 rw [hz, Z3u, hla]
 constructor
 · intro h
   refine ⟨by rw [ha.len]; exact he, fun k hk => ?_⟩
   rw [ha.len] at hk
   have := h k (by omega) (by omega)
   unfold ovE at this
   split at this
   · omega
   · rename_i hno
     rw [Z70 (by rw [ha.len]; omega), Z70 (by rw [hb.len]; omega)] at hno
     omega
 · intro h i _ hi
   unfold ovE
   rw [if_neg]
   rw [Z70 (by rw [ha.len]; omega), Z70 (by rw [hb.len]; omega)]
   have := h.le i (by rw [ha.len]; omega)
   omega
end Go.AM.Ytfmnoohhhokicaa
end
end
