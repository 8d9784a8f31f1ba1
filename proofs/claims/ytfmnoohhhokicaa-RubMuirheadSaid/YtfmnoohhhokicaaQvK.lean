/- A part of the proof of rubMuirhead_holds: RnK. Own work of this project; texts printed by own programs among it. -/
import Derived.KernelRfl
import Derived.Test.YtfmnoohhhokicaaQvJ
set_option maxRecDepth 1000000
set_option maxHeartbeats 16000000
noncomputable section
noncomputable section
namespace Go.AM.Ytfmnoohhhokicaa
open Go Go.AM
variable {C : Callee} {B N : Nat} {E0 : AHeap} (φ : AFr) (H : AHeap) (s : St)
def Zbt := kBody Proofs.Try.f24
def ZFP := kL Zbt
def ZjL := kO ZFP
def ZvG := opN ZjL 0
theorem Z0mm : XG 24 26 ZFP ZjL [4] := Z1 (by rfl) (by rfl) _
theorem Z040 : ZjL.toList = [ZvG] := nf
theorem ZZy : stepA E C B 26 ZjL ZvG (φ, H) = some (fput φ 4 (.bool false), H) := nf
def ZjY := kR Zbt
def Zkb := kL ZjY
def ZG3 := kL Zkb
def Z2d := kO ZG3
def ZwT := opN Z2d 0
def ZAp := opN Z2d 1
def ZyW := opN Z2d 2
def ZuU := opN Z2d 3
def Zwf := opN Z2d 4
theorem Z0lh : XG 24 26 ZG3 Z2d [6, 7, 8, 9] := Z1 (by rfl) (by rfl) _
theorem Z07l : Z2d.toList = [ZwT, ZAp, ZyW, ZuU, Zwf] := nf
theorem Z00e : stepA E C B 26 Z2d ZwT (φ, H) = some (fput φ 6 (fget φ 0), H) := nf
theorem Z05w : stepA E C B 26 Z2d ZAp (φ, H) = stp (some 7) φ H (Z3 E.T (B + 7) .len #[22] [(fget φ 6)]) := nf
theorem Z083 : stepA E C B 26 Z2d ZyW (φ, H) = some (fput φ 8 (fget φ 1), H) := nf
theorem Z02Q : stepA E C B 26 Z2d ZuU (φ, H) = stp (some 9) φ H (Z3 E.T (B + 9) .len #[22] [(fget φ 8)]) := nf
theorem Z00j : stepA E C B 26 Z2d Zwf (φ, H) = stp (some 10) φ H (just (aBin E.T .neq 3 (fget φ 7) (fget φ 9))) := nf
def Zl9 := kR Zkb
def Zl7 := kT Zl9
def ZFI := kL Zl7
def Zk8 := kO ZFI
def ZzR := opN Zk8 0
theorem Z0oO : XG 24 26 ZFI Zk8 [0, 1, 10] := Z1 (by rfl) (by rfl) _
theorem Z08S : Zk8.toList = [ZzR] := nf
theorem Z04F : stepA E C B 26 Zk8 ZzR (φ, H) = some (fput φ 4 (.bool false), H) := nf
def ZWZ := kR Zl7
theorem Z0qe : execA E C (fg 24) B 26 E0 N ZWZ s = some (.ret, s) := Zo (by rfl) s
theorem Z0mG : XQ 24 26 Zl7 ZFI ZWZ := Z0 (by rfl) _
def ZWT := kE Zl9
theorem Z0p6 : execA E C (fg 24) B 26 E0 N ZWT s = some (.normal, s) := Zh (by rfl) s
theorem Z0pv : XC 24 26 Zl9 10 Zl7 ZWT := Zf (by rfl) _
theorem Z0l4 : XQ 24 26 Zkb ZG3 Zl9 := Z0 (by rfl) _
def Zcz := kR ZjY
def Z97 := kL Zcz
def Zr0 := kL Z97
def Zkr := kO Zr0
def ZuB := opN Zkr 0
theorem Z0cN : XG 24 26 Zr0 Zkr [10] := Z1 (by rfl) (by rfl) _
theorem Z06Z : Zkr.toList = [ZuB] := nf
theorem ZXL : stepA E C B 26 Zkr ZuB (φ, H) = some (fput φ 5 (.int .i64 0), H) := nf
def ZqU := kR Z97
def ZoV := kB ZqU
def Z58 := kB ZoV
def ZcE := kL Z58
def Zmj := kL ZcE
def Z34 := kO Zmj
def ZAb := opN Z34 0
def ZzD := opN Z34 1
def Zxm := opN Z34 2
def Zzn := opN Z34 3
theorem Z0et : XG 24 26 Zmj Z34 [11, 12, 13] := Z1 (by rfl) (by rfl) _
theorem Z08r : Z34.toList = [ZAb, ZzD, Zxm, Zzn] := nf
theorem Z0cw : stepA E C B 26 Z34 ZAb (φ, H) = some (fput φ 11 (fget φ 5), H) := nf
theorem Z05W : stepA E C B 26 Z34 ZzD (φ, H) = some (fput φ 12 (fget φ 0), H) := nf
theorem Z02N : stepA E C B 26 Z34 Zxm (φ, H) = stp (some 13) φ H (Z3 E.T (B + 13) .len #[22] [(fget φ 12)]) := nf
theorem Z05n : stepA E C B 26 Z34 Zzn (φ, H) = stp (some 14) φ H (just (aBin E.T .lss 3 (fget φ 11) (fget φ 13))) := nf
def Zcd := kR ZcE
def ZMS := kT Zcd
theorem Z0go : execA E C (fg 24) B 26 E0 N ZMS s = some (.normal, s) := Zh (by rfl) s
def ZME := kE Zcd
theorem Z0cE : execA E C (fg 24) B 26 E0 N ZME s = some (.exit 0, s) := ZW (by rfl) s
theorem Z0fl : XC 24 26 Zcd 14 ZMS ZME := Zf (by rfl) _
theorem Z0iV : XQ 24 26 ZcE Zmj Zcd := Z0 (by rfl) _
def Zbc := kR Z58
def ZoO := kL Zbc
def Z9s := kB ZoO
def Zma := kL Z9s
def Z03 := kO Zma
def ZzC := opN Z03 0
def Zwo := opN Z03 1
def ZwU := opN Z03 2
def Zuz := opN Z03 3
def ZvP := opN Z03 4
def ZCi := opN Z03 5
def Zvs := opN Z03 6
def ZCX := opN Z03 7
def Zzr := opN Z03 8
theorem Z0fP : XD 24 26 Zma Z03 [14, 17, 18, 19, 20, 21, 22, 23, 24] := Z0v (by rfl) (by rfl) _
theorem Z091 : Z03.toList = [ZzC, Zwo, ZwU, Zuz, ZvP, ZCi, Zvs, ZCX, Zzr] := nf
theorem ZUC : statOk Z03 = true := by kernel_rfl
theorem ZPL : drawA E C B 26 Z03 s = if neat 26 s = true then drX Z03 (runT E C B 26 Z03 Z03.toList 0 s) else none := Z0c ZUC s
theorem ZTG (l : List (Nat × Tr)) : dynOk Z03 l = (!writing l || Zc [[], [], [0, 1], [0, 1, 2], [], [], [4, 5], [4, 5, 6], [0, 1, 2, 3, 4, 5, 6, 7]] (Zb l)) := ZX (by kernel_rfl) l
theorem ZYo : stepT E C B 26 Z03 ZzC (φ, H) = some ((fput φ 17 (fget φ 0), H), ⟨false, [], []⟩) := Z2 rfl (Z7 rfl rfl)
theorem Z07q : stepT E C B 26 Z03 Zwo (φ, H) = some ((fput φ 18 (fget φ 5), H), ⟨false, [], []⟩) := Z2 rfl (Z7 rfl rfl)
theorem Z09V : stepT E C B 26 Z03 ZwU (φ, H) = stpT (some 19) φ H (just (Z4 E.T 22 (fget φ 17) (fget φ 18))) := Z2 rfl (Z6 rfl rfl)
theorem Z09v : stepT E C B 26 Z03 Zuz (φ, H) = stpT (some 20) φ H (just (aLoad E.T 3 (fget φ 19))) := Z2 rfl (Z6 rfl rfl)
theorem Z00H : stepT E C B 26 Z03 ZvP (φ, H) = some ((fput φ 21 (fget φ 1), H), ⟨false, [], []⟩) := Z2 rfl (Z7 rfl rfl)
theorem Z063 : stepT E C B 26 Z03 ZCi (φ, H) = some ((fput φ 22 (fget φ 5), H), ⟨false, [], []⟩) := Z2 rfl (Z7 rfl rfl)
theorem Z01z : stepT E C B 26 Z03 Zvs (φ, H) = stpT (some 23) φ H (just (Z4 E.T 22 (fget φ 21) (fget φ 22))) := Z2 rfl (Z6 rfl rfl)
theorem Z0b6 : stepT E C B 26 Z03 ZCX (φ, H) = stpT (some 24) φ H (just (aLoad E.T 3 (fget φ 23))) := Z2 rfl (Z6 rfl rfl)
theorem Z06W : stepT E C B 26 Z03 Zzr (φ, H) = stpT (some 25) φ H (just (aBin E.T .neq 3 (fget φ 20) (fget φ 24))) := Z2 rfl (Z6 rfl rfl)
def ZbU := kR Z9s
def Z9C := kT ZbU
def Zqr := kL Z9C
def Zko := kO Zqr
def ZzF := opN Zko 0
theorem Z0d6 : XG 24 26 Zqr Zko [0, 1, 5, 25] := Z1 (by rfl) (by rfl) _
theorem Z02t : Zko.toList = [ZzF] := nf
theorem Z08C : stepA E C B 26 Zko ZzF (φ, H) = some (fput φ 4 (.bool false), H) := nf
def ZOt := kR Z9C
theorem Z0eu : execA E C (fg 24) B 26 E0 N ZOt s = some (.ret, s) := Zo (by rfl) s
theorem Z0kD : XQ 24 26 Z9C Zqr ZOt := Z0 (by rfl) _
def ZN9 := kE ZbU
theorem Z0jX : execA E C (fg 24) B 26 E0 N ZN9 s = some (.normal, s) := Zh (by rfl) s
theorem Z0cA : XC 24 26 ZbU 25 Z9C ZN9 := Zf (by rfl) _
theorem Z0kj : XQ 24 26 Z9s Zma ZbU := Z0 (by rfl) _
theorem Z0dB : execA E C (fg 24) B 26 E0 N ZoO s = blockX 1 (fun s => (forget s.1 [25], s.2)) (execA E C (fg 24) B 26 E0 N Z9s s) := Zi (by rfl) (by rfl) s
def Zo3 := kR Zbc
def Z4w := kO Zo3
def Zvg := opN Z4w 0
def ZCc := opN Z4w 1
def Zuw := opN Z4w 2
theorem Z0d3 : XG 24 26 Zo3 Z4w [15, 16] := Z1 (by rfl) (by rfl) _
theorem Z036 : Z4w.toList = [Zvg, ZCc, Zuw] := nf
theorem Z00K : stepA E C B 26 Z4w Zvg (φ, H) = some (fput φ 15 (fget φ 5), H) := nf
theorem Z03u : stepA E C B 26 Z4w ZCc (φ, H) = stp (some 16) φ H (just (aBin E.T .add 3 (fget φ 15) (.int .i64 1))) := nf
theorem Z08M : stepA E C B 26 Z4w Zuw (φ, H) = some (fput φ 5 (fget φ 16), H) := nf
theorem Z0dl : XQ 24 26 Zbc ZoO Zo3 := Z0 (by rfl) _
theorem Z0ka : XQ 24 26 Z58 ZcE Zbc := Z0 (by rfl) _
theorem Z0gL : execA E C (fg 24) B 26 E0 N ZoV s = iterA (execA E C (fg 24) B 26 E0 N Z58) (headA E0) N s := Z08 (by rfl) s
theorem Z0cK : execA E C (fg 24) B 26 E0 N ZqU s = blockX 0 (fun s => (forget s.1 [0, 1, 5, 14], s.2)) (execA E C (fg 24) B 26 E0 N ZoV s) := Zi (by rfl) (by rfl) s
theorem Z0j8 : XQ 24 26 Z97 Zr0 ZqU := Z0 (by rfl) _
def ZcX := kR Zcz
def Zp0 := kL ZcX
def Zl2 := kO Zp0
def Zva := opN Zl2 0
theorem Z0jC : XG 24 26 Zp0 Zl2 [] := Z1 (by rfl) (by rfl) _
theorem Z02h : Zl2.toList = [Zva] := nf
theorem ZXQ : stepA E C B 26 Zl2 Zva (φ, H) = some (fput φ 4 (.bool true), H) := nf
def ZNQ := kR ZcX
theorem Z0f9 : execA E C (fg 24) B 26 E0 N ZNQ s = some (.ret, s) := Zo (by rfl) s
theorem Z0fj : XQ 24 26 ZcX Zp0 ZNQ := Z0 (by rfl) _
theorem Z0dH : XQ 24 26 Zcz Z97 ZcX := Z0 (by rfl) _
theorem Z0pn : XQ 24 26 ZjY Zkb Zcz := Z0 (by rfl) _
theorem Z0q0 : XQ 24 26 Zbt ZFP ZjY := Z0 (by rfl) _
theorem Z0q5 : fInfo E 24 = some ⟨26, #[.tmp 4], Zbt⟩ := nf
theorem b_24 (args : List AV) : bodyA E C fg N 24 args H B = bodyX E [.tmp 4] (execA E C (fg 24) B 26 H N Zbt (Z5 args 0 [], H)) := Zp Z0q5 args H
abbrev F_24 := And.intro (And.intro (And.intro (And.intro (And.intro (And.intro @Z0mm @Z040) (And.intro @ZZy @Z0lh)) (And.intro (And.intro @Z07l @Z00e) (And.intro @Z05w (And.intro @Z083 @Z02Q)))) (And.intro (And.intro (And.intro @Z00j @Z0oO) (And.intro @Z08S @Z04F)) (And.intro (And.intro @Z0qe @Z0mG) (And.intro @Z0p6 (And.intro @Z0pv @Z0l4))))) (And.intro (And.intro (And.intro (And.intro @Z0cN @Z06Z) (And.intro @ZXL @Z0et)) (And.intro (And.intro @Z08r @Z0cw) (And.intro @Z05W (And.intro @Z02N @Z05n)))) (And.intro (And.intro (And.intro @Z0go @Z0cE) (And.intro @Z0fl @Z0iV)) (And.intro (And.intro @Z0fP @Z091) (And.intro @ZPL (And.intro @ZTG @ZYo)))))) (And.intro (And.intro (And.intro (And.intro (And.intro @Z07q @Z09V) (And.intro @Z09v @Z00H)) (And.intro (And.intro @Z063 @Z01z) (And.intro @Z0b6 (And.intro @Z06W @Z0d6)))) (And.intro (And.intro (And.intro @Z02t @Z08C) (And.intro @Z0eu @Z0kD)) (And.intro (And.intro @Z0jX @Z0cA) (And.intro @Z0kj (And.intro @Z0dB @Z0d3))))) (And.intro (And.intro (And.intro (And.intro @Z036 @Z00K) (And.intro @Z03u @Z08M)) (And.intro (And.intro @Z0dl @Z0ka) (And.intro @Z0gL (And.intro @Z0cK @Z0j8)))) (And.intro (And.intro (And.intro @Z0jC @Z02h) (And.intro @ZXQ @Z0f9)) (And.intro (And.intro @Z0fj @Z0dH) (And.intro @Z0pn (And.intro @Z0q0 @b_24))))))
def Z98 := kBody Proofs.Try.f41
def ZEQ := kL Z98
def ZjC := kO ZEQ
def Zwl := opN ZjC 0
theorem Z0mE : XG 41 27 ZEQ ZjC [4] := Z1 (by rfl) (by rfl) _
theorem Z08N : ZjC.toList = [Zwl] := nf
theorem ZZ4 : stepA E C B 27 ZjC Zwl (φ, H) = some (fput φ 4 (.bool false), H) := nf
def ZjR := kR Z98
def ZkP := kL ZjR
def ZFx := kL ZkP
def Z28 := kO ZFx
def ZzA := opN Z28 0
def Zvy := opN Z28 1
def ZxC := opN Z28 2
def Zx2 := opN Z28 3
def ZCU := opN Z28 4
theorem Z0mp : XG 41 27 ZFx Z28 [6, 7, 8, 9] := Z1 (by rfl) (by rfl) _
theorem Z075 : Z28.toList = [ZzA, Zvy, ZxC, Zx2, ZCU] := nf
theorem Z08w : stepA E C B 27 Z28 ZzA (φ, H) = some (fput φ 6 (fget φ 0), H) := nf
theorem Z08H : stepA E C B 27 Z28 Zvy (φ, H) = stp (some 7) φ H (Z3 E.T (B + 7) .len #[39] [(fget φ 6)]) := nf
theorem ZZV : stepA E C B 27 Z28 ZxC (φ, H) = some (fput φ 8 (fget φ 1), H) := nf
theorem ZYD : stepA E C B 27 Z28 Zx2 (φ, H) = stp (some 9) φ H (Z3 E.T (B + 9) .len #[39] [(fget φ 8)]) := nf
theorem Z00g : stepA E C B 27 Z28 ZCU (φ, H) = stp (some 10) φ H (just (aBin E.T .neq 3 (fget φ 7) (fget φ 9))) := nf
def ZkW := kR ZkP
def ZjS := kT ZkW
def ZGF := kL ZjS
def ZkS := kO ZGF
def ZCb := opN ZkS 0
theorem Z0mn : XG 41 27 ZGF ZkS [0, 1, 10] := Z1 (by rfl) (by rfl) _
theorem ZZC : ZkS.toList = [ZCb] := nf
theorem Z0bu : stepA E C B 27 ZkS ZCb (φ, H) = some (fput φ 4 (.bool false), H) := nf
def ZWR := kR ZjS
theorem Z0lf : execA E C (fg 41) B 27 E0 N ZWR s = some (.ret, s) := Zo (by rfl) s
theorem Z0mB : XQ 41 27 ZjS ZGF ZWR := Z0 (by rfl) _
def ZWV := kE ZkW
theorem Z0o4 : execA E C (fg 41) B 27 E0 N ZWV s = some (.normal, s) := Zh (by rfl) s
theorem Z0oQ : XC 41 27 ZkW 10 ZjS ZWV := Zf (by rfl) _
theorem Z0nz : XQ 41 27 ZkP ZFx ZkW := Z0 (by rfl) _
def Za7 := kR ZjR
def Z9W := kL Za7
def Zs5 := kL Z9W
def Zk7 := kO Zs5
def ZD7 := opN Zk7 0
theorem Z0ip : XG 41 27 Zs5 Zk7 [10] := Z1 (by rfl) (by rfl) _
theorem Z002 : Zk7.toList = [ZD7] := nf
theorem Z04c : stepA E C B 27 Zk7 ZD7 (φ, H) = some (fput φ 5 (.int .i64 0), H) := nf
def Zlv := kR Z9W
def ZpZ := kB Zlv
def Z5c := kB ZpZ
def ZaO := kL Z5c
def Zru := kL ZaO
def Z2N := kO Zru
def Zxn := opN Z2N 0
def ZDl := opN Z2N 1
def Zy6 := opN Z2N 2
def ZuK := opN Z2N 3
theorem Z0dC : XG 41 27 Zru Z2N [11, 12, 13] := Z1 (by rfl) (by rfl) _
theorem Z092 : Z2N.toList = [Zxn, ZDl, Zy6, ZuK] := nf
theorem ZYg : stepA E C B 27 Z2N Zxn (φ, H) = some (fput φ 11 (fget φ 5), H) := nf
theorem ZYN : stepA E C B 27 Z2N ZDl (φ, H) = some (fput φ 12 (fget φ 0), H) := nf
theorem Z06V : stepA E C B 27 Z2N Zy6 (φ, H) = stp (some 13) φ H (Z3 E.T (B + 13) .len #[39] [(fget φ 12)]) := nf
theorem Z0aC : stepA E C B 27 Z2N ZuK (φ, H) = stp (some 14) φ H (just (aBin E.T .lss 3 (fget φ 11) (fget φ 13))) := nf
def Zcn := kR ZaO
def ZKL := kT Zcn
theorem Z0iv : execA E C (fg 41) B 27 E0 N ZKL s = some (.normal, s) := Zh (by rfl) s
def ZOM := kE Zcn
theorem Z0ez : execA E C (fg 41) B 27 E0 N ZOM s = some (.exit 0, s) := ZW (by rfl) s
theorem Z0ig : XC 41 27 Zcn 14 ZKL ZOM := Zf (by rfl) _
theorem Z0dD : XQ 41 27 ZaO Zru Zcn := Z0 (by rfl) _
def Z9q := kR Z5c
def Zqu := kL Z9q
def Zd7 := kB Zqu
def Zlu := kL Zd7
def ZV := kO Zlu
def Zzm := opN ZV 0
def ZvF := opN ZV 1
def ZAA := opN ZV 2
def ZA7 := opN ZV 3
def Zvt := opN ZV 4
def ZC3 := opN ZV 5
def ZwB := opN ZV 6
def Zxf := opN ZV 7
def Zxc := opN ZV 8
def ZvJ := opN ZV 9
theorem Z0ga : XD 41 27 Zlu ZV [14, 17, 18, 19, 20, 21, 22, 23, 24, 25] := Z0v (by rfl) (by rfl) _
theorem Z0aR : ZV.toList = [Zzm, ZvF, ZAA, ZA7, Zvt, ZC3, ZwB, Zxf, Zxc, ZvJ] := nf
theorem ZUD : statOk ZV = true := by kernel_rfl
theorem ZVM : drawA E C B 27 ZV s = if neat 27 s = true then drX ZV (runT E C B 27 ZV ZV.toList 0 s) else none := Z0c ZUD s
theorem ZQD (l : List (Nat × Tr)) : dynOk ZV l = (!writing l || Zc [[], [], [0, 1], [0, 1, 2], [], [], [4, 5], [4, 5, 6], [0, 1, 2, 3, 4, 5, 6, 7], [0, 1, 2, 3, 4, 5, 6, 7, 8]] (Zb l)) := ZX (by kernel_rfl) l
theorem ZZG : stepT E C B 27 ZV Zzm (φ, H) = some ((fput φ 17 (fget φ 0), H), ⟨false, [], []⟩) := Z2 rfl (Z7 rfl rfl)
theorem Z03B : stepT E C B 27 ZV ZvF (φ, H) = some ((fput φ 18 (fget φ 5), H), ⟨false, [], []⟩) := Z2 rfl (Z7 rfl rfl)
theorem ZYn : stepT E C B 27 ZV ZAA (φ, H) = stpT (some 19) φ H (just (Z4 E.T 39 (fget φ 17) (fget φ 18))) := Z2 rfl (Z6 rfl rfl)
theorem Z0bj : stepT E C B 27 ZV ZA7 (φ, H) = stpT (some 20) φ H (just (aLoad E.T 22 (fget φ 19))) := Z2 rfl (Z6 rfl rfl)
theorem Z07t : stepT E C B 27 ZV Zvt (φ, H) = some ((fput φ 21 (fget φ 1), H), ⟨false, [], []⟩) := Z2 rfl (Z7 rfl rfl)
theorem Z08G : stepT E C B 27 ZV ZC3 (φ, H) = some ((fput φ 22 (fget φ 5), H), ⟨false, [], []⟩) := Z2 rfl (Z7 rfl rfl)
theorem Z0ao : stepT E C B 27 ZV ZwB (φ, H) = stpT (some 23) φ H (just (Z4 E.T 39 (fget φ 21) (fget φ 22))) := Z2 rfl (Z6 rfl rfl)
theorem Z06h : stepT E C B 27 ZV Zxf (φ, H) = stpT (some 24) φ H (just (aLoad E.T 22 (fget φ 23))) := Z2 rfl (Z6 rfl rfl)
theorem Z04G : stepT E C B 27 ZV Zxc (φ, H) = stpT (some 25) φ H (aCall C (fun j => B + j * 27 + 25) true 24 [(fget φ 20), (fget φ 24)]) := Z2 rfl (Z6 rfl rfl)
theorem Z0ar : stepT E C B 27 ZV ZvJ (φ, H) = stpT (some 26) φ H (justO (aUn .not (fget φ 25))) := Z2 rfl (Z6 rfl rfl)
def Zbq := kR Zd7
def ZaZ := kT Zbq
def Ztk := kL ZaZ
def ZjD := kO Ztk
def Zwt := opN ZjD 0
theorem Z0fc : XG 41 27 Ztk ZjD [0, 1, 5, 26] := Z1 (by rfl) (by rfl) _
theorem Z0c3 : ZjD.toList = [Zwt] := nf
theorem Z09Z : stepA E C B 27 ZjD Zwt (φ, H) = some (fput φ 4 (.bool false), H) := nf
def ZJ3 := kR ZaZ
theorem Z0gb : execA E C (fg 41) B 27 E0 N ZJ3 s = some (.ret, s) := Zo (by rfl) s
theorem Z0gq : XQ 41 27 ZaZ Ztk ZJ3 := Z0 (by rfl) _
def ZIf := kE Zbq
theorem Z0hW : execA E C (fg 41) B 27 E0 N ZIf s = some (.normal, s) := Zh (by rfl) s
theorem Z0g8 : XC 41 27 Zbq 26 ZaZ ZIf := Zf (by rfl) _
theorem Z0hs : XQ 41 27 Zd7 Zlu Zbq := Z0 (by rfl) _
theorem Z0fH : execA E C (fg 41) B 27 E0 N Zqu s = blockX 1 (fun s => (forget s.1 [26], s.2)) (execA E C (fg 41) B 27 E0 N Zd7 s) := Zi (by rfl) (by rfl) s
def ZpW := kR Z9q
def Z4B := kO ZpW
def Zv2 := opN Z4B 0
def ZCg := opN Z4B 1
def Zxa := opN Z4B 2
theorem Z0gh : XG 41 27 ZpW Z4B [15, 16] := Z1 (by rfl) (by rfl) _
theorem Z08o : Z4B.toList = [Zv2, ZCg, Zxa] := nf
theorem Z028 : stepA E C B 27 Z4B Zv2 (φ, H) = some (fput φ 15 (fget φ 5), H) := nf
theorem ZXg : stepA E C B 27 Z4B ZCg (φ, H) = stp (some 16) φ H (just (aBin E.T .add 3 (fget φ 15) (.int .i64 1))) := nf
theorem Z03a : stepA E C B 27 Z4B Zxa (φ, H) = some (fput φ 5 (fget φ 16), H) := nf
theorem Z0ic : XQ 41 27 Z9q Zqu ZpW := Z0 (by rfl) _
theorem Z0hz : XQ 41 27 Z5c ZaO Z9q := Z0 (by rfl) _
theorem Z0eo : execA E C (fg 41) B 27 E0 N ZpZ s = iterA (execA E C (fg 41) B 27 E0 N Z5c) (headA E0) N s := Z08 (by rfl) s
theorem Z0iq : execA E C (fg 41) B 27 E0 N Zlv s = blockX 0 (fun s => (forget s.1 [0, 1, 5, 14], s.2)) (execA E C (fg 41) B 27 E0 N ZpZ s) := Zi (by rfl) (by rfl) s
theorem Z0gA : XQ 41 27 Z9W Zs5 Zlv := Z0 (by rfl) _
def ZbY := kR Za7
def ZmC := kL ZbY
def Zk1 := kO ZmC
def Zxl := opN Zk1 0
theorem Z0fq : XG 41 27 ZmC Zk1 [] := Z1 (by rfl) (by rfl) _
theorem Z04T : Zk1.toList = [Zxl] := nf
theorem Z02E : stepA E C B 27 Zk1 Zxl (φ, H) = some (fput φ 4 (.bool true), H) := nf
def ZOi := kR ZbY
theorem Z0dN : execA E C (fg 41) B 27 E0 N ZOi s = some (.ret, s) := Zo (by rfl) s
theorem Z0k8 : XQ 41 27 ZbY ZmC ZOi := Z0 (by rfl) _
theorem Z0gn : XQ 41 27 Za7 Z9W ZbY := Z0 (by rfl) _
theorem Z0kZ : XQ 41 27 ZjR ZkP Za7 := Z0 (by rfl) _
theorem Z0nv : XQ 41 27 Z98 ZEQ ZjR := Z0 (by rfl) _
theorem Z0pO : fInfo E 41 = some ⟨27, #[.tmp 4], Z98⟩ := nf
theorem b_41 (args : List AV) : bodyA E C fg N 41 args H B = bodyX E [.tmp 4] (execA E C (fg 41) B 27 H N Z98 (Z5 args 0 [], H)) := Zp Z0pO args H
abbrev F_41 := And.intro (And.intro (And.intro (And.intro (And.intro (And.intro @Z0mE @Z08N) (And.intro @ZZ4 @Z0mp)) (And.intro (And.intro @Z075 @Z08w) (And.intro @Z08H (And.intro @ZZV @ZYD)))) (And.intro (And.intro (And.intro @Z00g @Z0mn) (And.intro @ZZC @Z0bu)) (And.intro (And.intro @Z0lf @Z0mB) (And.intro @Z0o4 (And.intro @Z0oQ @Z0nz))))) (And.intro (And.intro (And.intro (And.intro @Z0ip @Z002) (And.intro @Z04c @Z0dC)) (And.intro (And.intro @Z092 @ZYg) (And.intro @ZYN (And.intro @Z06V @Z0aC)))) (And.intro (And.intro (And.intro @Z0iv @Z0ez) (And.intro @Z0ig @Z0dD)) (And.intro (And.intro @Z0ga @Z0aR) (And.intro @ZVM (And.intro @ZQD @ZZG)))))) (And.intro (And.intro (And.intro (And.intro (And.intro @Z03B @ZYn) (And.intro @Z0bj @Z07t)) (And.intro (And.intro @Z08G @Z0ao) (And.intro @Z06h (And.intro @Z04G @Z0ar)))) (And.intro (And.intro (And.intro @Z0fc @Z0c3) (And.intro @Z09Z @Z0gb)) (And.intro (And.intro @Z0gq @Z0hW) (And.intro @Z0g8 (And.intro @Z0hs @Z0fH))))) (And.intro (And.intro (And.intro (And.intro @Z0gh @Z08o) (And.intro @Z028 @ZXg)) (And.intro (And.intro @Z03a @Z0ic) (And.intro @Z0hz (And.intro @Z0eo @Z0iq)))) (And.intro (And.intro (And.intro @Z0gA @Z0fq) (And.intro @Z04T (And.intro @Z02E @Z0dN))) (And.intro (And.intro @Z0k8 @Z0gn) (And.intro @Z0kZ (And.intro @Z0nv @b_41))))))
def Zab := kBody Proofs.Try.f56
def ZES := kL Zab
def Z7s := kO ZES
def ZxT := opN Z7s 0
def Zw8 := opN Z7s 1
theorem Z0mq : XG 56 40 ZES Z7s [0, 6] := Z1 (by rfl) (by rfl) _
theorem Z01m : Z7s.toList = [ZxT, Zw8] := nf
theorem ZZY : stepA E C B 40 Z7s ZxT (φ, H) = stp (some 3) φ H (opBox (B + 3) (acells (fget φ 0))) := nf
theorem ZZm : stepA E C B 40 Z7s Zw8 (φ, H) = some (fput φ 6 (.nilsl), H) := nf
def ZjF := kR Zab
def ZEX := kL ZjF
def ZkZ := kO ZEX
def ZyY := opN ZkZ 0
theorem Z0kS : XG 56 40 ZEX ZkZ [] := Z1 (by rfl) (by rfl) _
theorem Z03n : ZkZ.toList = [ZyY] := nf
theorem ZXW : stepA E C B 40 ZkZ ZyY (φ, H) = some (fput φ 7 (.nilsl), H) := nf
def Zlh := kR ZjF
def ZkC := kL Zlh
def ZEN := kL ZkC
def Z0o := kO ZEN
def Zzc := opN Z0o 0
def ZxM := opN Z0o 1
def ZDC := opN Z0o 2
def ZBK := opN Z0o 3
def ZCj := opN Z0o 4
def Zx4 := opN Z0o 5
def Zxw := opN Z0o 6
def Zv9 := opN Z0o 7
def ZuN := opN Z0o 8
def ZBB := opN Z0o 9
theorem Z0pR : XG 56 40 ZEN Z0o [1, 10, 11, 12, 13, 14, 15, 16] := Z1 (by rfl) (by rfl) _
theorem Z08z : Z0o.toList = [Zzc, ZxM, ZDC, ZBK, ZCj, Zx4, Zxw, Zv9, ZuN, ZBB] := nf
theorem ZX9 : stepA E C B 40 Z0o Zzc (φ, H) = stp (some 10) φ H (just (Z0E E.T 49 (fget φ 3) 2)) := nf
theorem Z09d : stepA E C B 40 Z0o ZxM (φ, H) = stp (some 11) φ H (just (Z0E E.T 49 (fget φ 3) 0)) := nf
theorem ZYO : stepA E C B 40 Z0o ZDC (φ, H) = stp (some 12) φ H (just (aLoad E.T 5 (fget φ 11))) := nf
theorem ZXV : stepA E C B 40 Z0o ZBK (φ, H) = stp (some 13) φ H (justO (aConv E.T 5 3 (fget φ 12))) := nf
theorem Z0bh : stepA E C B 40 Z0o ZCj (φ, H) = some (fput φ 14 (fget φ 1), H) := nf
theorem Z02i : stepA E C B 40 Z0o Zx4 (φ, H) = stp (some 15) φ H (just (aBin E.T .rem 3 (fget φ 13) (fget φ 14))) := nf
theorem Z04M : stepA E C B 40 Z0o Zxw (φ, H) = stp (some 16) φ H (just (aBin E.T .add 3 (.int .i64 1) (fget φ 15))) := nf
theorem Z032 : stepA E C B 40 Z0o Zv9 (φ, H) = stp (some 17) φ H (just (aSlice E.T 47 (fget φ 10) none (some (fget φ 16)) none)) := nf
theorem Z08u : stepA E C B 40 Z0o ZuN (φ, H) = stp (some 18) φ H (Z3 E.T (B + 18) .len #[93] [(fget φ 17)]) := nf
theorem Z077 : stepA E C B 40 Z0o ZBB (φ, H) = some (fput φ 19 (.int .i64 0), H) := nf
def ZGb := kR ZkC
def ZEu := kB ZGb
def Z78 := kB ZEu
def Zqi := kL Z78
def Zkd := kO Zqi
def ZCr := opN Zkd 0
theorem Z0eR : XG 56 40 Zqi Zkd [] := Z1 (by rfl) (by rfl) _
theorem Z0cd : Zkd.toList = [ZCr] := nf
theorem Z0co : stepA E C B 40 Zkd ZCr (φ, H) = stp (some 20) φ H (just (aBin E.T .lss 3 (fget φ 19) (fget φ 18))) := nf
def ZcR := kR Z78
def ZbC := kL ZcR
def ZJ6 := kT ZbC
theorem Z0en : execA E C (fg 56) B 40 E0 N ZJ6 s = some (.normal, s) := Zh (by rfl) s
def ZKS := kE ZbC
theorem Z0kC : execA E C (fg 56) B 40 E0 N ZKS s = some (.exit 0, s) := ZW (by rfl) s
theorem Z0cQ : XC 56 40 ZbC 20 ZJ6 ZKS := Zf (by rfl) _
def Z9v := kR ZcR
def Zsb := kL Z9v
def Zcu := kB Zsb
def ZnX := kL Zcu
def Z49 := kO ZnX
def ZyZ := opN Z49 0
def ZC6 := opN Z49 1
def ZuX := opN Z49 2
theorem Z0e8 : XG 56 40 ZnX Z49 [20, 21, 22] := Z1 (by rfl) (by rfl) _
theorem Z01n : Z49.toList = [ZyZ, ZC6, ZuX] := nf
theorem Z023 : stepA E C B 40 Z49 ZyZ (φ, H) = stp (some 21) φ H (just (Z4 E.T 93 (fget φ 17) (fget φ 19))) := nf
theorem Z00y : stepA E C B 40 Z49 ZC6 (φ, H) = stp (some 22) φ H (just (aLoad E.T 5 (fget φ 21))) := nf
theorem Z0a6 : stepA E C B 40 Z49 ZuX (φ, H) = some (fput φ 9 (fget φ 22), H) := nf
def Zt1 := kR Zcu
def ZR := kO Zt1
def ZA9 := opN ZR 0
def ZyU := opN ZR 1
def Zw7 := opN ZR 2
def ZBQ := opN ZR 3
def ZAR := opN ZR 4
def ZuJ := opN ZR 5
def Zzp := opN ZR 6
def ZBh := opN ZR 7
def ZwL := opN ZR 8
def ZAQ := opN ZR 9
def Zov := opN ZR 10
def Zrs := opN ZR 11
def Zo6 := opN ZR 12
def Zsh := opN ZR 13
theorem Z0h6 : XG 56 40 Zt1 ZR [9, 23, 24, 25, 26, 27, 28, 29, 30, 31, 32, 33, 34, 35] := Z1 (by rfl) (by rfl) _
theorem Z05x : ZR.toList = [ZA9, ZyU, Zw7, ZBQ, ZAR, ZuJ, Zzp, ZBh, ZwL, ZAQ, Zov, Zrs, Zo6, Zsh] := nf
theorem Z06C : stepA E C B 40 ZR ZA9 (φ, H) = some (fput φ 23 (fget φ 7), H) := nf
theorem Z07Z : stepA E C B 40 ZR ZyU (φ, H) = some (fput φ 24 (fget φ 9), H) := nf
theorem Z01d : stepA E C B 40 ZR Zw7 (φ, H) = stp (some 25) φ H (justO (aConv E.T 5 3 (fget φ 24))) := nf
theorem Z066 : stepA E C B 40 ZR ZBQ (φ, H) = stp (some 26) φ H (just (Z0E E.T 49 (fget φ 3) 1)) := nf
theorem ZXf : stepA E C B 40 ZR ZAR (φ, H) = stp (some 27) φ H (just (aLoad E.T 5 (fget φ 26))) := nf
theorem Z04z : stepA E C B 40 ZR ZuJ (φ, H) = stp (some 28) φ H (justO (aConv E.T 5 3 (fget φ 27))) := nf
theorem Z01C : stepA E C B 40 ZR Zzp (φ, H) = some (fput φ 29 (fget φ 2), H) := nf
theorem Z07m : stepA E C B 40 ZR ZBh (φ, H) = stp (some 30) φ H (just (aBin E.T .rem 3 (fget φ 28) (fget φ 29))) := nf
theorem ZYu : stepA E C B 40 ZR ZwL (φ, H) = stp (some 31) φ H (just (aBin E.T .add 3 (.int .i64 1) (fget φ 30))) := nf
theorem Z037 : stepA E C B 40 ZR ZAQ (φ, H) = stp (some 32) φ H (just (aBin E.T .add 3 (fget φ 31) (.int .i64 1))) := nf
theorem ZTq : stepA E C B 40 ZR Zov (φ, H) = stp (some 33) φ H (just (aBin E.T .rem 3 (fget φ 25) (fget φ 32))) := nf
theorem ZSi : stepA E C B 40 ZR Zrs (φ, H) = stp (some 34) φ H (Z9 E.T (B + 34) 22 1 (evO E φ) [(0, Operand.tmp 33)]) := nf
theorem ZT8 : stepA E C B 40 ZR Zo6 (φ, H) = stp (some 35) φ H (Z3 E.T (B + 35) .append #[22, 22] [(fget φ 23), (fget φ 34)]) := nf
theorem ZRq : stepA E C B 40 ZR Zsh (φ, H) = some (fput φ 7 (fget φ 35), H) := nf
theorem Z0jH : XQ 56 40 Zcu ZnX Zt1 := Z0 (by rfl) _
theorem Z0fZ : execA E C (fg 56) B 40 E0 N Zsb s = blockX 1 (fun s => (forget s.1 [], s.2)) (execA E C (fg 56) B 40 E0 N Zcu s) := Zi (by rfl) (by rfl) s
def Zrz := kR Z9v
def Z86 := kO Zrz
def ZDF := opN Z86 0
def ZvX := opN Z86 1
theorem Z0kI : XG 56 40 Zrz Z86 [36] := Z1 (by rfl) (by rfl) _
theorem Z03o : Z86.toList = [ZDF, ZvX] := nf
theorem Z0bk : stepA E C B 40 Z86 ZDF (φ, H) = stp (some 36) φ H (just (aBin E.T .add 3 (fget φ 19) (.int .i64 1))) := nf
theorem Z0b7 : stepA E C B 40 Z86 ZvX (φ, H) = some (fput φ 19 (fget φ 36), H) := nf
theorem Z0h7 : XQ 56 40 Z9v Zsb Zrz := Z0 (by rfl) _
theorem Z0gz : XQ 56 40 ZcR ZbC Z9v := Z0 (by rfl) _
theorem Z0pY : XQ 56 40 Z78 Zqi ZcR := Z0 (by rfl) _
theorem Z0pA : execA E C (fg 56) B 40 E0 N ZEu s = iterA (execA E C (fg 56) B 40 E0 N Z78) (headA E0) N s := Z08 (by rfl) s
theorem Z0oH : execA E C (fg 56) B 40 E0 N ZGb s = blockX 0 (fun s => (forget s.1 [2, 3, 17, 18, 19, 20], s.2)) (execA E C (fg 56) B 40 E0 N ZEu s) := Zi (by rfl) (by rfl) s
theorem Z0oa : XQ 56 40 ZkC ZEN ZGb := Z0 (by rfl) _
def ZaU := kR Zlh
def Zmk := kL ZaU
def Z75 := kO Zmk
def Zzo := opN Z75 0
def ZxQ := opN Z75 1
theorem Z0fN : XG 56 40 Zmk Z75 [37, 38] := Z1 (by rfl) (by rfl) _
theorem Z0c1 : Z75.toList = [Zzo, ZxQ] := nf
theorem Z05I : stepA E C B 40 Z75 Zzo (φ, H) = some (fput φ 37 (fget φ 7), H) := nf
theorem ZZb : stepA E C B 40 Z75 ZxQ (φ, H) = mutX (some 38) φ (C 67 [(fget φ 37)] H (B + 40 * 8)) := nf
def ZbI := kR ZaU
def ZsH := kL ZbI
def Z7J := kO ZsH
def Zyp := opN Z7J 0
def Zy5 := opN Z7J 1
theorem Z0ds : XG 56 40 ZsH Z7J [7, 39] := Z1 (by rfl) (by rfl) _
theorem Z02x : Z7J.toList = [Zyp, Zy5] := nf
theorem Z00d : stepA E C B 40 Z7J Zyp (φ, H) = some (fput φ 39 (fget φ 7), H) := nf
theorem Z00I : stepA E C B 40 Z7J Zy5 (φ, H) = some (fput φ 6 (fget φ 39), H) := nf
def ZHC := kR ZbI
theorem Z0fD : execA E C (fg 56) B 40 E0 N ZHC s = some (.ret, s) := Zo (by rfl) s
theorem Z0dO : XQ 56 40 ZbI ZsH ZHC := Z0 (by rfl) _
theorem Z0gH : XQ 56 40 ZaU Zmk ZbI := Z0 (by rfl) _
theorem Z0nG : XQ 56 40 Zlh ZkC ZaU := Z0 (by rfl) _
theorem Z0mk : XQ 56 40 ZjF ZEX Zlh := Z0 (by rfl) _
theorem Z0nR : XQ 56 40 Zab ZES ZjF := Z0 (by rfl) _
theorem Z0mT : fInfo E 56 = some ⟨40, #[.tmp 6], Zab⟩ := nf
theorem b_56 (args : List AV) : bodyA E C fg N 56 args H B = bodyX E [.tmp 6] (execA E C (fg 56) B 40 H N Zab (Z5 args 0 [], H)) := Zp Z0mT args H
abbrev F_56 := And.intro (And.intro (And.intro (And.intro (And.intro (And.intro @Z0mq @Z01m) (And.intro @ZZY @ZZm)) (And.intro (And.intro @Z0kS @Z03n) (And.intro @ZXW (And.intro @Z0pR @Z08z)))) (And.intro (And.intro (And.intro @ZX9 @Z09d) (And.intro @ZYO @ZXV)) (And.intro (And.intro @Z0bh @Z02i) (And.intro @Z04M (And.intro @Z032 @Z08u))))) (And.intro (And.intro (And.intro (And.intro @Z077 @Z0eR) (And.intro @Z0cd @Z0co)) (And.intro (And.intro @Z0en @Z0kC) (And.intro @Z0cQ (And.intro @Z0e8 @Z01n)))) (And.intro (And.intro (And.intro @Z023 @Z00y) (And.intro @Z0a6 @Z0h6)) (And.intro (And.intro @Z05x @Z06C) (And.intro @Z07Z (And.intro @Z01d @Z066)))))) (And.intro (And.intro (And.intro (And.intro (And.intro @ZXf @Z04z) (And.intro @Z01C @Z07m)) (And.intro (And.intro @ZYu @Z037) (And.intro @ZTq (And.intro @ZSi @ZT8)))) (And.intro (And.intro (And.intro @ZRq @Z0jH) (And.intro @Z0fZ @Z0kI)) (And.intro (And.intro @Z03o @Z0bk) (And.intro @Z0b7 (And.intro @Z0h7 @Z0gz))))) (And.intro (And.intro (And.intro (And.intro @Z0pY @Z0pA) (And.intro @Z0oH @Z0oa)) (And.intro (And.intro @Z0fN @Z0c1) (And.intro @Z05I (And.intro @ZZb @Z0ds)))) (And.intro (And.intro (And.intro @Z02x @Z00d) (And.intro @Z00I (And.intro @Z0fD @Z0dO))) (And.intro (And.intro @Z0gH @Z0nG) (And.intro @Z0mk (And.intro @Z0nR @b_56))))))
def Zkz := kBody Proofs.Try.f67
def Z7k := kO Zkz
def ZBf := opN Z7k 0
def ZBr := opN Z7k 1
theorem Z0nY : XG 67 4 Zkz Z7k [0, 2, 3] := Z1 (by rfl) (by rfl) _
theorem Z09P : Z7k.toList = [ZBf, ZBr] := nf
theorem Z0a7 : stepA E C B 4 Z7k ZBf (φ, H) = some (fput φ 2 (fget φ 0), H) := nf
theorem Z02T : stepA E C B 4 Z7k ZBr (φ, H) = mutX (some 3) φ (C 108 [(fget φ 2), (.clo 109 [])] H (B + 4 * 8)) := nf
theorem Z0nW : fInfo E 67 = some ⟨4, #[], Zkz⟩ := nf
theorem b_67 (args : List AV) : bodyA E C fg N 67 args H B = bodyX E [] (execA E C (fg 67) B 4 H N Zkz (Z5 args 0 [], H)) := Zp Z0nW args H
abbrev F_67 := And.intro (And.intro @Z0nY @Z09P) (And.intro @Z0a7 (And.intro @Z02T @b_67))
def Z5J := kBody Proofs.Try.f109
def Zlz := kL Z5J
def Zd9 := kO Zlz
def Zo4 := opN Zd9 0
theorem Z0dF : XG 109 8 Zlz Zd9 [4] := Z1 (by rfl) (by rfl) _
theorem ZQA : Zd9.toList = [Zo4] := nf
theorem ZWI : stepA E C B 8 Zd9 Zo4 (φ, H) = some (fput φ 4 (.int .i64 0), H) := nf
def ZcV := kR Z5J
def Zu1 := kL ZcV
def Z1X := kO Zu1
def Zm2 := opN Z1X 0
def Zsp := opN Z1X 1
def Ztz := opN Z1X 2
def ZtA := opN Z1X 3
theorem Z0em : XG 109 8 Zu1 Z1X [0, 1, 5, 6, 7] := Z1 (by rfl) (by rfl) _
theorem ZUV : Z1X.toList = [Zm2, Zsp, Ztz, ZtA] := nf
theorem ZTu : stepA E C B 8 Z1X Zm2 (φ, H) = some (fput φ 5 (fget φ 1), H) := nf
theorem ZR2 : stepA E C B 8 Z1X Zsp (φ, H) = some (fput φ 6 (fget φ 0), H) := nf
theorem ZVl : stepA E C B 8 Z1X Ztz (φ, H) = stp (some 7) φ H (just (aBin E.T .sub 3 (fget φ 5) (fget φ 6))) := nf
theorem ZWy : stepA E C B 8 Z1X ZtA (φ, H) = some (fput φ 4 (fget φ 7), H) := nf
def ZJl := kR ZcV
theorem Z0e6 : execA E C (fg 109) B 8 E0 N ZJl s = some (.ret, s) := Zo (by rfl) s
theorem Z0eI : XQ 109 8 ZcV Zu1 ZJl := Z0 (by rfl) _
theorem Z0dz : XQ 109 8 Z5J Zlz ZcV := Z0 (by rfl) _
theorem Zrt : fInfo E 109 = some ⟨8, #[.tmp 4], Z5J⟩ := nf
theorem Z0pJ (args : List AV) : bodyA E C fg N 109 args H B = bodyX E [.tmp 4] (execA E C (fg 109) B 8 H N Z5J (Z5 args 0 [], H)) := Zp Zrt args H
abbrev Z0ns := And.intro (And.intro (And.intro @Z0dF (And.intro @ZQA @ZWI)) (And.intro @Z0em (And.intro @ZUV @ZTu))) (And.intro (And.intro @ZR2 (And.intro @ZVl @ZWy)) (And.intro (And.intro @Z0e6 @Z0eI) (And.intro @Z0dz @Z0pJ)))
def Zay := kBody Proofs.Try.f58
def ZFH := kL Zay
def ZkG := kO ZFH
def ZxO := opN ZkG 0
theorem Z0nw : XG 58 17 ZFH ZkG [2] := Z1 (by rfl) (by rfl) _
theorem Z07o : ZkG.toList = [ZxO] := nf
theorem Z07n : stepA E C B 17 ZkG ZxO (φ, H) = some (fput φ 2 (.int .i64 0), H) := nf
def Zjv := kR Zay
def ZGd := kL Zjv
def ZjU := kO ZGd
def ZwD := opN ZjU 0
theorem Z0my : XG 58 17 ZGd ZjU [] := Z1 (by rfl) (by rfl) _
theorem Z0ci : ZjU.toList = [ZwD] := nf
theorem Z0bB : stepA E C B 17 ZjU ZwD (φ, H) = some (fput φ 3 (.int .i64 0), H) := nf
def Zkh := kR Zjv
def Zj3 := kL Zkh
def ZEx := kL Zj3
def Z4H := kO ZEx
def ZAh := opN Z4H 0
def ZCN := opN Z4H 1
def Zz9 := opN Z4H 2
theorem Z0m8 : XG 58 17 ZEx Z4H [0] := Z1 (by rfl) (by rfl) _
theorem ZZU : Z4H.toList = [ZAh, ZCN, Zz9] := nf
theorem Z05c : stepA E C B 17 Z4H ZAh (φ, H) = some (fput φ 6 (fget φ 0), H) := nf
theorem Z04m : stepA E C B 17 Z4H ZCN (φ, H) = stp (some 7) φ H (Z3 E.T (B + 7) .len #[22] [(fget φ 6)]) := nf
theorem Z094 : stepA E C B 17 Z4H Zz9 (φ, H) = some (fput φ 8 (.int .i64 0), H) := nf
def ZFq := kR Zj3
def ZFh := kB ZFq
def Z6X := kB ZFh
def Zt4 := kL Z6X
def Zk3 := kO Zt4
def Zy1 := opN Zk3 0
theorem Z0kM : XG 58 17 Zt4 Zk3 [] := Z1 (by rfl) (by rfl) _
theorem Z029 : Zk3.toList = [Zy1] := nf
theorem Z0as : stepA E C B 17 Zk3 Zy1 (φ, H) = stp (some 9) φ H (just (aBin E.T .lss 3 (fget φ 8) (fget φ 7))) := nf
def Zaq := kR Z6X
def Zbk := kL Zaq
def ZLL := kT Zbk
theorem Z0e5 : execA E C (fg 58) B 17 E0 N ZLL s = some (.normal, s) := Zh (by rfl) s
def ZNG := kE Zbk
theorem Z0gs : execA E C (fg 58) B 17 E0 N ZNG s = some (.exit 0, s) := ZW (by rfl) s
theorem Z0e0 : XC 58 17 Zbk 9 ZLL ZNG := Zf (by rfl) _
def Zal := kR Zaq
def Zpx := kL Zal
def Zcm := kB Zpx
def Zmp := kL Zcm
def Z4G := kO Zmp
def ZwO := opN Z4G 0
def ZCy := opN Z4G 1
def ZAu := opN Z4G 2
theorem Z0e9 : XG 58 17 Zmp Z4G [9, 10, 11] := Z1 (by rfl) (by rfl) _
theorem Z04i : Z4G.toList = [ZwO, ZCy, ZAu] := nf
theorem Z09m : stepA E C B 17 Z4G ZwO (φ, H) = stp (some 10) φ H (just (Z4 E.T 22 (fget φ 6) (fget φ 8))) := nf
theorem ZXo : stepA E C B 17 Z4G ZCy (φ, H) = stp (some 11) φ H (just (aLoad E.T 3 (fget φ 10))) := nf
theorem ZXu : stepA E C B 17 Z4G ZAu (φ, H) = some (fput φ 5 (fget φ 11), H) := nf
def Zq3 := kR Zcm
def Z2V := kO Zq3
def ZwF := opN Z2V 0
def Zz3 := opN Z2V 1
def Zwg := opN Z2V 2
def ZvH := opN Z2V 3
theorem Z0iJ : XG 58 17 Zq3 Z2V [5, 12, 13, 14] := Z1 (by rfl) (by rfl) _
theorem Z00Y : Z2V.toList = [ZwF, Zz3, Zwg, ZvH] := nf
theorem ZXH : stepA E C B 17 Z2V ZwF (φ, H) = some (fput φ 12 (fget φ 3), H) := nf
theorem Z05g : stepA E C B 17 Z2V Zz3 (φ, H) = some (fput φ 13 (fget φ 5), H) := nf
theorem Z04e : stepA E C B 17 Z2V Zwg (φ, H) = stp (some 14) φ H (just (aBin E.T .add 3 (fget φ 12) (fget φ 13))) := nf
theorem Z022 : stepA E C B 17 Z2V ZvH (φ, H) = some (fput φ 3 (fget φ 14), H) := nf
theorem Z0hU : XQ 58 17 Zcm Zmp Zq3 := Z0 (by rfl) _
theorem Z0ja : execA E C (fg 58) B 17 E0 N Zpx s = blockX 1 (fun s => (forget s.1 [], s.2)) (execA E C (fg 58) B 17 E0 N Zcm s) := Zi (by rfl) (by rfl) s
def Ztg := kR Zal
def Z7X := kO Ztg
def ZCs := opN Z7X 0
def Zwh := opN Z7X 1
theorem Z0jc : XG 58 17 Ztg Z7X [15] := Z1 (by rfl) (by rfl) _
theorem Z08s : Z7X.toList = [ZCs, Zwh] := nf
theorem Z086 : stepA E C B 17 Z7X ZCs (φ, H) = stp (some 15) φ H (just (aBin E.T .add 3 (fget φ 8) (.int .i64 1))) := nf
theorem Z03x : stepA E C B 17 Z7X Zwh (φ, H) = some (fput φ 8 (fget φ 15), H) := nf
theorem Z0jV : XQ 58 17 Zal Zpx Ztg := Z0 (by rfl) _
theorem Z0hf : XQ 58 17 Zaq Zbk Zal := Z0 (by rfl) _
theorem Z0le : XQ 58 17 Z6X Zt4 Zaq := Z0 (by rfl) _
theorem Z0lU : execA E C (fg 58) B 17 E0 N ZFh s = iterA (execA E C (fg 58) B 17 E0 N Z6X) (headA E0) N s := Z08 (by rfl) s
theorem Z0pb : execA E C (fg 58) B 17 E0 N ZFq s = blockX 0 (fun s => (forget s.1 [6, 7, 8, 9], s.2)) (execA E C (fg 58) B 17 E0 N ZFh s) := Zi (by rfl) (by rfl) s
theorem Z0m4 : XQ 58 17 Zj3 ZEx ZFq := Z0 (by rfl) _
def Zc4 := kR Zkh
def Zt2 := kL Zc4
def Z6P := kO Zt2
def ZuL := opN Z6P 0
def ZCG := opN Z6P 1
theorem Z0hC : XG 58 17 Zt2 Z6P [3, 16] := Z1 (by rfl) (by rfl) _
theorem Z018 : Z6P.toList = [ZuL, ZCG] := nf
theorem Z0aW : stepA E C B 17 Z6P ZuL (φ, H) = some (fput φ 16 (fget φ 3), H) := nf
theorem ZYj : stepA E C B 17 Z6P ZCG (φ, H) = some (fput φ 2 (fget φ 16), H) := nf
def ZIT := kR Zc4
theorem Z0de : execA E C (fg 58) B 17 E0 N ZIT s = some (.ret, s) := Zo (by rfl) s
theorem Z0h5 : XQ 58 17 Zc4 Zt2 ZIT := Z0 (by rfl) _
theorem Z0q4 : XQ 58 17 Zkh Zj3 Zc4 := Z0 (by rfl) _
theorem Z0nO : XQ 58 17 Zjv ZGd Zkh := Z0 (by rfl) _
theorem Z0ob : XQ 58 17 Zay ZFH Zjv := Z0 (by rfl) _
theorem Z0oF : fInfo E 58 = some ⟨17, #[.tmp 2], Zay⟩ := nf
theorem b_58 (args : List AV) : bodyA E C fg N 58 args H B = bodyX E [.tmp 2] (execA E C (fg 58) B 17 H N Zay (Z5 args 0 [], H)) := Zp Z0oF args H
abbrev F_58 := And.intro (And.intro (And.intro (And.intro (And.intro @Z0nw (And.intro @Z07o @Z07n)) (And.intro @Z0my (And.intro @Z0ci @Z0bB))) (And.intro (And.intro @Z0m8 (And.intro @ZZU @Z05c)) (And.intro @Z04m (And.intro @Z094 @Z0kM)))) (And.intro (And.intro (And.intro @Z029 (And.intro @Z0as @Z0e5)) (And.intro @Z0gs (And.intro @Z0e0 @Z0e9))) (And.intro (And.intro @Z04i (And.intro @Z09m @ZXo)) (And.intro (And.intro @ZXu @Z0iJ) (And.intro @Z00Y @ZXH))))) (And.intro (And.intro (And.intro (And.intro @Z05g (And.intro @Z04e @Z022)) (And.intro @Z0hU (And.intro @Z0ja @Z0jc))) (And.intro (And.intro @Z08s (And.intro @Z086 @Z03x)) (And.intro @Z0jV (And.intro @Z0hf @Z0le)))) (And.intro (And.intro (And.intro @Z0lU (And.intro @Z0pb @Z0m4)) (And.intro @Z0hC (And.intro @Z018 @Z0aW))) (And.intro (And.intro @ZYj (And.intro @Z0de @Z0h5)) (And.intro (And.intro @Z0q4 @Z0nO) (And.intro @Z0ob @b_58)))))
def ZcL := kBody Proofs.Try.f62
def ZF9 := kL ZcL
def ZkO := kO ZF9
def ZAS := opN ZkO 0
theorem Z0oS : XG 62 23 ZF9 ZkO [4] := Z1 (by rfl) (by rfl) _
theorem Z09U : ZkO.toList = [ZAS] := nf
theorem Z08t : stepA E C B 23 ZkO ZAS (φ, H) = some (fput φ 4 (.bool false), H) := nf
def ZkR := kR ZcL
def ZkK := kL ZkR
def ZFp := kL ZkK
def Z4F := kO ZFp
def Zzb := opN Z4F 0
def ZAv := opN Z4F 1
def ZDI := opN Z4F 2
theorem Z0mH : XG 62 23 ZFp Z4F [6] := Z1 (by rfl) (by rfl) _
theorem Z046 : Z4F.toList = [Zzb, ZAv, ZDI] := nf
theorem Z073 : stepA E C B 23 Z4F Zzb (φ, H) = some (fput φ 6 (fget φ 0), H) := nf
theorem Z07i : stepA E C B 23 Z4F ZAv (φ, H) = stp (some 7) φ H (Z3 E.T (B + 7) .len #[22] [(fget φ 6)]) := nf
theorem ZXY : stepA E C B 23 Z4F ZDI (φ, H) = some (fput φ 8 (.int .i64 0), H) := nf
def ZGe := kR ZkK
def ZFl := kB ZGe
def Zc9 := kB ZFl
def ZFZ := kL Zc9
def ZkL := kO ZFZ
def ZAs := opN ZkL 0
theorem Z0pV : XG 62 23 ZFZ ZkL [] := Z1 (by rfl) (by rfl) _
theorem ZY4 : ZkL.toList = [ZAs] := nf
theorem Z02G : stepA E C B 23 ZkL ZAs (φ, H) = stp (some 9) φ H (just (aBin E.T .lss 3 (fget φ 8) (fget φ 7))) := nf
def Zll := kR Zc9
def Z9K := kL Zll
def ZMt := kT Z9K
theorem Z0hu : execA E C (fg 62) B 23 E0 N ZMt s = some (.normal, s) := Zh (by rfl) s
def ZHv := kE Z9K
theorem Z0ju : execA E C (fg 62) B 23 E0 N ZHv s = some (.exit 0, s) := ZW (by rfl) s
theorem Z0it : XC 62 23 Z9K 9 ZMt ZHv := Zf (by rfl) _
def Zbe := kR Zll
def ZnH := kL Zbe
def Za3 := kB ZnH
def Zmz := kL Za3
def Z6g := kO Zmz
def Zyk := opN Z6g 0
def Zzx := opN Z6g 1
theorem Z0ir : XG 62 23 Zmz Z6g [9, 10] := Z1 (by rfl) (by rfl) _
theorem Z0b4 : Z6g.toList = [Zyk, Zzx] := nf
theorem Z05V : stepA E C B 23 Z6g Zyk (φ, H) = some (fput φ 10 (fget φ 8), H) := nf
theorem Z02U : stepA E C B 23 Z6g Zzx (φ, H) = some (fput φ 5 (fget φ 10), H) := nf
def Zap := kR Za3
def ZnR := kL Zap
def ZQ := kO ZnR
def ZxD := opN ZQ 0
def ZE9 := opN ZQ 1
def ZE5 := opN ZQ 2
def ZuY := opN ZQ 3
def ZyL := opN ZQ 4
def ZvN := opN ZQ 5
def Zxg := opN ZQ 6
def ZvT := opN ZQ 7
def ZzJ := opN ZQ 8
def Zzs := opN ZQ 9
def ZoP := opN ZQ 10
theorem Z0fL : XD 62 23 ZnR ZQ [5, 11, 12, 13, 14, 15, 16, 17, 18, 19, 20] := Z0v (by rfl) (by rfl) _
theorem Z08q : ZQ.toList = [ZxD, ZE9, ZE5, ZuY, ZyL, ZvN, Zxg, ZvT, ZzJ, Zzs, ZoP] := nf
theorem ZUS : statOk ZQ = true := by kernel_rfl
theorem ZPv : drawA E C B 23 ZQ s = if neat 23 s = true then drX ZQ (runT E C B 23 ZQ ZQ.toList 0 s) else none := Z0c ZUS s
theorem ZS2 (l : List (Nat × Tr)) : dynOk ZQ l = (!writing l || Zc [[], [], [1], [0, 1, 2], [0, 1, 2, 3], [], [], [6], [5, 6, 7], [0, 1, 2, 3, 4, 5, 6, 7, 8], [0, 1, 2, 3, 4, 5, 6, 7, 8, 9]] (Zb l)) := ZX (by kernel_rfl) l
theorem Z0af : stepT E C B 23 ZQ ZxD (φ, H) = some ((fput φ 11 (fget φ 0), H), ⟨false, [], []⟩) := Z2 rfl (Z7 rfl rfl)
theorem Z02F : stepT E C B 23 ZQ ZE9 (φ, H) = some ((fput φ 12 (fget φ 5), H), ⟨false, [], []⟩) := Z2 rfl (Z7 rfl rfl)
theorem Z0bV : stepT E C B 23 ZQ ZE5 (φ, H) = stpT (some 13) φ H (just (aBin E.T .add 3 (fget φ 12) (.int .i64 1))) := Z2 rfl (Z6 rfl rfl)
theorem Z04u : stepT E C B 23 ZQ ZuY (φ, H) = stpT (some 14) φ H (just (aSlice E.T 22 (fget φ 11) none (some (fget φ 13)) none)) := Z2 rfl (Z6 rfl rfl)
theorem ZY8 : stepT E C B 23 ZQ ZyL (φ, H) = stpT (some 15) φ H (aCall C (fun j => B + j * 23 + 15) true 58 [(fget φ 14)]) := Z2 rfl (Z6 rfl rfl)
theorem Z03A : stepT E C B 23 ZQ ZvN (φ, H) = some ((fput φ 16 (fget φ 1), H), ⟨false, [], []⟩) := Z2 rfl (Z7 rfl rfl)
theorem Z0bF : stepT E C B 23 ZQ Zxg (φ, H) = some ((fput φ 17 (fget φ 5), H), ⟨false, [], []⟩) := Z2 rfl (Z7 rfl rfl)
theorem Z03v : stepT E C B 23 ZQ ZvT (φ, H) = stpT (some 18) φ H (just (aBin E.T .add 3 (fget φ 17) (.int .i64 1))) := Z2 rfl (Z6 rfl rfl)
theorem Z01l : stepT E C B 23 ZQ ZzJ (φ, H) = stpT (some 19) φ H (just (aSlice E.T 22 (fget φ 16) none (some (fget φ 18)) none)) := Z2 rfl (Z6 rfl rfl)
theorem Z09s : stepT E C B 23 ZQ Zzs (φ, H) = stpT (some 20) φ H (aCall C (fun j => B + j * 23 + 20) true 58 [(fget φ 19)]) := Z2 rfl (Z6 rfl rfl)
theorem ZVO : stepT E C B 23 ZQ ZoP (φ, H) = stpT (some 21) φ H (just (aBin E.T .lss 3 (fget φ 15) (fget φ 20))) := Z2 rfl (Z6 rfl rfl)
def Zaj := kR Zap
def ZbV := kT Zaj
def Zlm := kL ZbV
def Zkn := kO Zlm
def ZuA := opN Zkn 0
theorem Z0h0 : XG 62 23 Zlm Zkn [0, 1, 7, 8, 21] := Z1 (by rfl) (by rfl) _
theorem Z0a9 : Zkn.toList = [ZuA] := nf
theorem Z06X : stepA E C B 23 Zkn ZuA (φ, H) = some (fput φ 4 (.bool false), H) := nf
def ZH2 := kR ZbV
theorem Z0i1 : execA E C (fg 62) B 23 E0 N ZH2 s = some (.ret, s) := Zo (by rfl) s
theorem Z0dm : XQ 62 23 ZbV Zlm ZH2 := Z0 (by rfl) _
def ZHp := kE Zaj
theorem Z0gK : execA E C (fg 62) B 23 E0 N ZHp s = some (.normal, s) := Zh (by rfl) s
theorem Z0eL : XC 62 23 Zaj 21 ZbV ZHp := Zf (by rfl) _
theorem Z0fk : XQ 62 23 Zap ZnR Zaj := Z0 (by rfl) _
theorem Z0gp : XQ 62 23 Za3 Zmz Zap := Z0 (by rfl) _
theorem Z0eA : execA E C (fg 62) B 23 E0 N ZnH s = blockX 1 (fun s => (forget s.1 [21], s.2)) (execA E C (fg 62) B 23 E0 N Za3 s) := Zi (by rfl) (by rfl) s
def ZsM := kR Zbe
def Z7m := kO ZsM
def ZBY := opN Z7m 0
def ZAT := opN Z7m 1
theorem Z0hJ : XG 62 23 ZsM Z7m [22] := Z1 (by rfl) (by rfl) _
theorem Z05p : Z7m.toList = [ZBY, ZAT] := nf
theorem ZZ2 : stepA E C B 23 Z7m ZBY (φ, H) = stp (some 22) φ H (just (aBin E.T .add 3 (fget φ 8) (.int .i64 1))) := nf
theorem ZXd : stepA E C B 23 Z7m ZAT (φ, H) = some (fput φ 8 (fget φ 22), H) := nf
theorem Z0j0 : XQ 62 23 Zbe ZnH ZsM := Z0 (by rfl) _
theorem Z0m3 : XQ 62 23 Zll Z9K Zbe := Z0 (by rfl) _
theorem Z0pL : XQ 62 23 Zc9 ZFZ Zll := Z0 (by rfl) _
theorem Z0ng : execA E C (fg 62) B 23 E0 N ZFl s = iterA (execA E C (fg 62) B 23 E0 N Zc9) (headA E0) N s := Z08 (by rfl) s
theorem Z0mN : execA E C (fg 62) B 23 E0 N ZGe s = blockX 0 (fun s => (forget s.1 [0, 1, 7, 8, 9], s.2)) (execA E C (fg 62) B 23 E0 N ZFl s) := Zi (by rfl) (by rfl) s
theorem Z0op : XQ 62 23 ZkK ZFp ZGe := Z0 (by rfl) _
def Zd2 := kR ZkR
def Zti := kL Zd2
def Zk5 := kO Zti
def ZzQ := opN Zk5 0
theorem Z0el : XG 62 23 Zti Zk5 [] := Z1 (by rfl) (by rfl) _
theorem Z04U : Zk5.toList = [ZzQ] := nf
theorem Z0aV : stepA E C B 23 Zk5 ZzQ (φ, H) = some (fput φ 4 (.bool true), H) := nf
def ZKb := kR Zd2
theorem Z0gr : execA E C (fg 62) B 23 E0 N ZKb s = some (.ret, s) := Zo (by rfl) s
theorem Z0j5 : XQ 62 23 Zd2 Zti ZKb := Z0 (by rfl) _
theorem Z0ly : XQ 62 23 ZkR ZkK Zd2 := Z0 (by rfl) _
theorem Z0nA : XQ 62 23 ZcL ZF9 ZkR := Z0 (by rfl) _
theorem Z0oy : fInfo E 62 = some ⟨23, #[.tmp 4], ZcL⟩ := nf
theorem b_62 (args : List AV) : bodyA E C fg N 62 args H B = bodyX E [.tmp 4] (execA E C (fg 62) B 23 H N ZcL (Z5 args 0 [], H)) := Zp Z0oy args H
abbrev F_62 := And.intro (And.intro (And.intro (And.intro (And.intro @Z0oS (And.intro @Z09U @Z08t)) (And.intro (And.intro @Z0mH @Z046) (And.intro @Z073 @Z07i))) (And.intro (And.intro (And.intro @ZXY @Z0pV) (And.intro @ZY4 @Z02G)) (And.intro (And.intro @Z0hu @Z0ju) (And.intro @Z0it @Z0ir)))) (And.intro (And.intro (And.intro @Z0b4 (And.intro @Z05V @Z02U)) (And.intro (And.intro @Z0fL @Z08q) (And.intro @ZPv @ZS2))) (And.intro (And.intro (And.intro @Z0af @Z02F) (And.intro @Z0bV @Z04u)) (And.intro (And.intro @ZY8 @Z03A) (And.intro @Z0bF @Z03v))))) (And.intro (And.intro (And.intro (And.intro @Z01l (And.intro @Z09s @ZVO)) (And.intro (And.intro @Z0h0 @Z0a9) (And.intro @Z06X @Z0i1))) (And.intro (And.intro (And.intro @Z0dm @Z0gK) (And.intro @Z0eL @Z0fk)) (And.intro (And.intro @Z0gp @Z0eA) (And.intro @Z0hJ @Z05p)))) (And.intro (And.intro (And.intro (And.intro @ZZ2 @ZXd) (And.intro @Z0j0 @Z0m3)) (And.intro (And.intro @Z0pL @Z0ng) (And.intro @Z0mN @Z0op))) (And.intro (And.intro (And.intro @Z0el @Z04U) (And.intro @Z0aV @Z0gr)) (And.intro (And.intro @Z0j5 @Z0ly) (And.intro @Z0nA @b_62)))))
def Z6c := kBody Proofs.Try.f106
def ZmM := kL Z6c
def Zb4 := kO ZmM
def Zpf := opN Zb4 0
theorem Z0d7 : XG 106 54 ZmM Zb4 [2] := Z1 (by rfl) (by rfl) _
theorem ZQc : Zb4.toList = [Zpf] := nf
theorem ZVd : stepA E C B 54 Zb4 Zpf (φ, H) = some (fput φ 2 (.nilsl), H) := nf
def ZcQ := kR Z6c
def Zts := kL ZcQ
def Z9E := kO Zts
def Zte := opN Z9E 0
theorem Z0gu : XG 106 54 Zts Z9E [] := Z1 (by rfl) (by rfl) _
theorem ZWa : Z9E.toList = [Zte] := nf
theorem ZP8 : stepA E C B 54 Z9E Zte (φ, H) = some (fput φ 3 (.nilsl), H) := nf
def Zbb := kR ZcQ
def Zan := kL Zbb
def Zlw := kL Zan
def Z3b := kO Zlw
def Zqz := opN Z3b 0
def Znu := opN Z3b 1
def Zor := opN Z3b 2
theorem Z0eG : XG 106 54 Zlw Z3b [7] := Z1 (by rfl) (by rfl) _
theorem ZVE : Z3b.toList = [Zqz, Znu, Zor] := nf
theorem ZUL : stepA E C B 54 Z3b Zqz (φ, H) = some (fput φ 7 (fget φ 0), H) := nf
theorem ZTU : stepA E C B 54 Z3b Znu (φ, H) = stp (some 8) φ H (Z3 E.T (B + 8) .len #[22] [(fget φ 7)]) := nf
theorem ZWg : stepA E C B 54 Z3b Zor (φ, H) = some (fput φ 9 (.int .i64 0), H) := nf
def ZoM := kR Zan
def Zmu := kB ZoM
def Z4X := kB Zmu
def Zdq := kL Z4X
def Z9t := kO Zdq
def Ztd := opN Z9t 0
theorem Z07A : XG 106 54 Zdq Z9t [] := Z1 (by rfl) (by rfl) _
theorem ZRb : Z9t.toList = [Ztd] := nf
theorem ZSR : stepA E C B 54 Z9t Ztd (φ, H) = stp (some 10) φ H (just (aBin E.T .lss 3 (fget φ 9) (fget φ 8))) := nf
def Z7Q := kR Z4X
def Z7v := kL Z7Q
def Zxt := kT Z7v
theorem ZZd : execA E C (fg 106) B 54 E0 N Zxt s = some (.normal, s) := Zh (by rfl) s
def ZDs := kE Z7v
theorem Z00b : execA E C (fg 106) B 54 E0 N ZDs s = some (.exit 0, s) := ZW (by rfl) s
theorem ZXp : XC 106 54 Z7v 10 Zxt ZDs := Zf (by rfl) _
def Z7g := kR Z7Q
def Zde := kL Z7g
def Z6M := kB Zde
def Zdp := kL Z6M
def Z4S := kO Zdp
def Zo2 := opN Z4S 0
def ZqO := opN Z4S 1
theorem Z02n : XG 106 54 Zdp Z4S [10, 11] := Z1 (by rfl) (by rfl) _
theorem ZUw : Z4S.toList = [Zo2, ZqO] := nf
theorem ZQj : stepA E C B 54 Z4S Zo2 (φ, H) = some (fput φ 11 (fget φ 9), H) := nf
theorem ZUP : stepA E C B 54 Z4S ZqO (φ, H) = some (fput φ 4 (fget φ 11), H) := nf
def Z8j := kR Z6M
def Zda := kL Z8j
def Z3m := kO Zda
def Zlr := opN Z3m 0
def ZrO := opN Z3m 1
def Zm8 := opN Z3m 2
theorem Z0cf : XG 106 54 Zda Z3m [12] := Z1 (by rfl) (by rfl) _
theorem ZTh : Z3m.toList = [Zlr, ZrO, Zm8] := nf
theorem ZQ5 : stepA E C B 54 Z3m Zlr (φ, H) = some (fput φ 12 (fget φ 0), H) := nf
theorem ZTD : stepA E C B 54 Z3m ZrO (φ, H) = stp (some 13) φ H (Z3 E.T (B + 13) .len #[22] [(fget φ 12)]) := nf
theorem ZV4 : stepA E C B 54 Z3m Zm8 (φ, H) = some (fput φ 14 (.int .i64 0), H) := nf
def Zdw := kR Z8j
def ZdO := kB Zdw
def Z3E := kB ZdO
def Zdf := kL Z3E
def Zcv := kO Zdf
def Zs0 := opN Zcv 0
theorem Z06T : XG 106 54 Zdf Zcv [] := Z1 (by rfl) (by rfl) _
theorem ZPX : Zcv.toList = [Zs0] := nf
theorem ZOT : stepA E C B 54 Zcv Zs0 (φ, H) = stp (some 15) φ H (just (aBin E.T .lss 3 (fget φ 14) (fget φ 13))) := nf
def Z6p := kR Z3E
def Z7H := kL Z6p
def ZvU := kT Z7H
theorem Z009 : execA E C (fg 106) B 54 E0 N ZvU s = some (.normal, s) := Zh (by rfl) s
def ZuG := kE Z7H
theorem Z0ak : execA E C (fg 106) B 54 E0 N ZuG s = some (.exit 2, s) := ZW (by rfl) s
theorem Z0c6 : XC 106 54 Z7H 15 ZvU ZuG := Zf (by rfl) _
def Z77 := kR Z6p
def ZdI := kL Z77
def Z6f := kB ZdI
def ZdA := kL Z6f
def Z57 := kO ZdA
def Zq7 := opN Z57 0
def Zo5 := opN Z57 1
theorem Z006 : XG 106 54 ZdA Z57 [15, 16] := Z1 (by rfl) (by rfl) _
theorem ZU8 : Z57.toList = [Zq7, Zo5] := nf
theorem ZRn : stepA E C B 54 Z57 Zq7 (φ, H) = some (fput φ 16 (fget φ 14), H) := nf
theorem ZUK : stepA E C B 54 Z57 Zo5 (φ, H) = some (fput φ 5 (fget φ 16), H) := nf
def Z6k := kR Z6f
def Z6E := kL Z6k
def ZdS := kL Z6E
def ZK := kO ZdS
def Zqe := opN ZK 0
def ZoQ := opN ZK 1
def Zrn := opN ZK 2
def ZtO := opN ZK 3
def ZrK := opN ZK 4
def ZsF := opN ZK 5
def Znf := opN ZK 6
def ZnM := opN ZK 7
def ZmH := opN ZK 8
def ZsO := opN ZK 9
theorem Z04l : XD 106 54 ZdS ZK [17, 18, 19, 20, 21, 22, 23, 24, 25] := Z0v (by rfl) (by rfl) _
theorem ZPr : ZK.toList = [Zqe, ZoQ, Zrn, ZtO, ZrK, ZsF, Znf, ZnM, ZmH, ZsO] := nf
theorem ZOH : statOk ZK = true := by kernel_rfl
theorem ZKo : drawA E C B 54 ZK s = if neat 54 s = true then drX ZK (runT E C B 54 ZK ZK.toList 0 s) else none := Z0c ZOH s
theorem ZKP (l : List (Nat × Tr)) : dynOk ZK l = (!writing l || Zc [[], [], [0, 1], [0, 1, 2], [], [], [4, 5], [4, 5, 6], [0, 1, 2, 3, 4, 5, 6, 7], [0, 1, 2, 3, 4, 5, 6, 7, 8]] (Zb l)) := ZX (by kernel_rfl) l
theorem ZUu : stepT E C B 54 ZK Zqe (φ, H) = some ((fput φ 17 (fget φ 0), H), ⟨false, [], []⟩) := Z2 rfl (Z7 rfl rfl)
theorem ZSj : stepT E C B 54 ZK ZoQ (φ, H) = some ((fput φ 18 (fget φ 4), H), ⟨false, [], []⟩) := Z2 rfl (Z7 rfl rfl)
theorem ZWh : stepT E C B 54 ZK Zrn (φ, H) = stpT (some 19) φ H (just (Z4 E.T 22 (fget φ 17) (fget φ 18))) := Z2 rfl (Z6 rfl rfl)
theorem ZUE : stepT E C B 54 ZK ZtO (φ, H) = stpT (some 20) φ H (just (aLoad E.T 3 (fget φ 19))) := Z2 rfl (Z6 rfl rfl)
theorem ZPB : stepT E C B 54 ZK ZrK (φ, H) = some ((fput φ 21 (fget φ 0), H), ⟨false, [], []⟩) := Z2 rfl (Z7 rfl rfl)
theorem ZVs : stepT E C B 54 ZK ZsF (φ, H) = some ((fput φ 22 (fget φ 5), H), ⟨false, [], []⟩) := Z2 rfl (Z7 rfl rfl)
theorem ZUq : stepT E C B 54 ZK Znf (φ, H) = stpT (some 23) φ H (just (Z4 E.T 22 (fget φ 21) (fget φ 22))) := Z2 rfl (Z6 rfl rfl)
theorem ZVN : stepT E C B 54 ZK ZnM (φ, H) = stpT (some 24) φ H (just (aLoad E.T 3 (fget φ 23))) := Z2 rfl (Z6 rfl rfl)
theorem ZPs : stepT E C B 54 ZK ZmH (φ, H) = stpT (some 25) φ H (just (aBin E.T .sub 3 (fget φ 20) (fget φ 24))) := Z2 rfl (Z6 rfl rfl)
theorem ZPH : stepT E C B 54 ZK ZsO (φ, H) = stpT (some 26) φ H (just (aBin E.T .lss 3 (fget φ 25) (.int .i64 2))) := Z2 rfl (Z6 rfl rfl)
def Z7R := kR Z6E
def ZCA := kT Z7R
theorem ZXj : execA E C (fg 106) B 54 E0 N ZCA s = some (.exit 3, s) := ZW (by rfl) s
def ZDu := kE Z7R
theorem Z06b : execA E C (fg 106) B 54 E0 N ZDu s = some (.normal, s) := Zh (by rfl) s
theorem Z007 : XC 106 54 Z7R 26 ZCA ZDu := Zf (by rfl) _
theorem Z02L : XQ 106 54 Z6E ZdS Z7R := Z0 (by rfl) _
def Z6G := kR Z6k
def ZdH := kL Z6G
def Z1W := kO ZdH
def Zn1 := opN Z1W 0
def Zot := opN Z1W 1
def Zsn := opN Z1W 2
def Ztr := opN Z1W 3
theorem Z02M : XG 106 54 ZdH Z1W [26, 27, 28] := Z1 (by rfl) (by rfl) _
theorem ZQn : Z1W.toList = [Zn1, Zot, Zsn, Ztr] := nf
theorem ZTx : stepA E C B 54 Z1W Zn1 (φ, H) = some (fput φ 27 (fget φ 0), H) := nf
theorem ZUy : stepA E C B 54 Z1W Zot (φ, H) = stp (some 28) φ H (aCall C (fun j => B + j * 54 + 28) true 66 [(fget φ 27)]) := nf
theorem ZWC : stepA E C B 54 Z1W Zsn (φ, H) = stp (some 6) φ H (opBox (B + 6) (zeroCells E.T 22)) := nf
theorem ZSW : stepA E C B 54 Z1W Ztr (φ, H) = stp none φ H (opStore E.T 22 (fget φ 6) (fget φ 28)) := nf
def Z7K := kR Z6G
def Zdr := kL Z7K
def Z0f := kO Zdr
def ZhC := opN Z0f 0
def ZgR := opN Z0f 1
def Zhy := opN Z0f 2
def Zft := opN Z0f 3
def ZfE := opN Z0f 4
def ZeV := opN Z0f 5
def Zh4 := opN Z0f 6
theorem ZZR : XG 106 54 Zdr Z0f [29, 30, 31, 32, 33, 34] := Z1 (by rfl) (by rfl) _
theorem ZNX : Z0f.toList = [ZhC, ZgR, Zhy, Zft, ZfE, ZeV, Zh4] := nf
theorem ZMe : stepA E C B 54 Z0f ZhC (φ, H) = stp (some 29) φ H (just (aLoad E.T 22 (fget φ 6))) := nf
theorem ZOm : stepA E C B 54 Z0f ZgR (φ, H) = some (fput φ 30 (fget φ 4), H) := nf
theorem ZK5 : stepA E C B 54 Z0f Zhy (φ, H) = stp (some 31) φ H (just (Z4 E.T 22 (fget φ 29) (fget φ 30))) := nf
theorem ZHr : stepA E C B 54 Z0f Zft (φ, H) = stp (some 32) φ H (just (aLoad E.T 3 (fget φ 31))) := nf
theorem ZMN : stepA E C B 54 Z0f ZfE (φ, H) = stp (some 33) φ H (just (aBin E.T .sub 3 (fget φ 32) (.int .i64 1))) := nf
theorem ZJq : stepA E C B 54 Z0f ZeV (φ, H) = stp (some 34) φ H (just (Z4 E.T 22 (fget φ 29) (fget φ 30))) := nf
theorem ZL3 : stepA E C B 54 Z0f Zh4 (φ, H) = stp none φ H (opStore E.T 3 (fget φ 34) (fget φ 33)) := nf
def Z8a := kR Z7K
def Zds := kL Z8a
def Z0g := kO Zds
def Zis := opN Z0g 0
def Zir := opN Z0g 1
def ZeZ := opN Z0g 2
def Zfb := opN Z0g 3
def ZiA := opN Z0g 4
def Zhb := opN Z0g 5
def Zi8 := opN Z0g 6
theorem Z09I : XG 106 54 Zds Z0g [5, 35, 36, 37, 38, 39, 40] := Z1 (by rfl) (by rfl) _
theorem ZNo : Z0g.toList = [Zis, Zir, ZeZ, Zfb, ZiA, Zhb, Zi8] := nf
theorem ZLu : stepA E C B 54 Z0g Zis (φ, H) = stp (some 35) φ H (just (aLoad E.T 22 (fget φ 6))) := nf
theorem ZKC : stepA E C B 54 Z0g Zir (φ, H) = some (fput φ 36 (fget φ 5), H) := nf
theorem ZJB : stepA E C B 54 Z0g ZeZ (φ, H) = stp (some 37) φ H (just (Z4 E.T 22 (fget φ 35) (fget φ 36))) := nf
theorem ZHd : stepA E C B 54 Z0g Zfb (φ, H) = stp (some 38) φ H (just (aLoad E.T 3 (fget φ 37))) := nf
theorem ZJs : stepA E C B 54 Z0g ZiA (φ, H) = stp (some 39) φ H (just (aBin E.T .add 3 (fget φ 38) (.int .i64 1))) := nf
theorem ZIS : stepA E C B 54 Z0g Zhb (φ, H) = stp (some 40) φ H (just (Z4 E.T 22 (fget φ 35) (fget φ 36))) := nf
theorem ZHL : stepA E C B 54 Z0g Zi8 (φ, H) = stp none φ H (opStore E.T 3 (fget φ 40) (fget φ 39)) := nf
def Z6w := kR Z8a
def Ze4 := kL Z6w
def Z3K := kO Ze4
def Zhc := opN Z3K 0
def ZiM := opN Z3K 1
theorem Z02W : XG 106 54 Ze4 Z3K [41, 42] := Z1 (by rfl) (by rfl) _
theorem ZNh : Z3K.toList = [Zhc, ZiM] := nf
theorem ZHW : stepA E C B 54 Z3K Zhc (φ, H) = stp (some 41) φ H (just (aLoad E.T 22 (fget φ 6))) := nf
theorem ZOB : stepA E C B 54 Z3K ZiM (φ, H) = mutX (some 42) φ (C 67 [(fget φ 41)] H (B + 54 * 8)) := nf
def Z7E := kR Z6w
def Zew := kL Z7E
def Z1z := kO Zew
def Zfy := opN Z1z 0
def ZeH := opN Z1z 1
def Zgo := opN Z1z 2
def ZeI := opN Z1z 3
theorem Z05k : XG 106 54 Zew Z1z [43, 44, 45] := Z1 (by rfl) (by rfl) _
theorem ZKH : Z1z.toList = [Zfy, ZeH, Zgo, ZeI] := nf
theorem ZKg : stepA E C B 54 Z1z Zfy (φ, H) = some (fput φ 43 (fget φ 3), H) := nf
theorem ZJm : stepA E C B 54 Z1z ZeH (φ, H) = stp (some 44) φ H (.pure (.clo 120 [(fget φ 6)], [])) := nf
theorem ZNu : stepA E C B 54 Z1z Zgo (φ, H) = stp (some 45) φ H (aCall C (fun j => B + j * 54 + 45) true 73 [(fget φ 43), (fget φ 44)]) := nf
theorem ZNB : stepA E C B 54 Z1z ZeI (φ, H) = stp (some 46) φ H (justO (aUn .not (fget φ 45))) := nf
def Z7z := kR Z7E
def Zel := kT Z7z
def Z0V := kO Zel
def Zf2 := opN Z0V 0
def Zf1 := opN Z0V 1
def Zh7 := opN Z0V 2
def Zg8 := opN Z0V 3
def ZhN := opN Z0V 4
theorem Z06U : XG 106 54 Zel Z0V [6, 46, 47, 48, 49, 50] := Z1 (by rfl) (by rfl) _
theorem ZIN : Z0V.toList = [Zf2, Zf1, Zh7, Zg8, ZhN] := nf
theorem ZLn : stepA E C B 54 Z0V Zf2 (φ, H) = some (fput φ 47 (fget φ 3), H) := nf
theorem ZJM : stepA E C B 54 Z0V Zf1 (φ, H) = stp (some 48) φ H (just (aLoad E.T 22 (fget φ 6))) := nf
theorem ZHt : stepA E C B 54 Z0V Zh7 (φ, H) = stp (some 49) φ H (Z9 E.T (B + 49) 39 1 (evO E φ) [(0, Operand.tmp 48)]) := nf
theorem ZHg : stepA E C B 54 Z0V Zg8 (φ, H) = stp (some 50) φ H (Z3 E.T (B + 50) .append #[39, 39] [(fget φ 47), (fget φ 49)]) := nf
theorem ZLH : stepA E C B 54 Z0V ZhN (φ, H) = some (fput φ 3 (fget φ 50), H) := nf
def ZvI := kE Z7z
theorem Z04k : execA E C (fg 106) B 54 E0 N ZvI s = some (.normal, s) := Zh (by rfl) s
theorem Z06F : XC 106 54 Z7z 46 Zel ZvI := Zf (by rfl) _
theorem ZYr : XQ 106 54 Z7E Zew Z7z := Z0 (by rfl) _
theorem Z04q : XQ 106 54 Z6w Ze4 Z7E := Z0 (by rfl) _
theorem Z02f : XQ 106 54 Z8a Zds Z6w := Z0 (by rfl) _
theorem Z02y : XQ 106 54 Z7K Zdr Z8a := Z0 (by rfl) _
theorem ZYM : XQ 106 54 Z6G ZdH Z7K := Z0 (by rfl) _
theorem ZYw : XQ 106 54 Z6k Z6E Z6G := Z0 (by rfl) _
theorem Z0aO : XQ 106 54 Z6f ZdA Z6k := Z0 (by rfl) _
theorem Z05z : execA E C (fg 106) B 54 E0 N ZdI s = blockX 3 (fun s => (forget s.1 [5, 6, 26, 46], s.2)) (execA E C (fg 106) B 54 E0 N Z6f s) := Zi (by rfl) (by rfl) s
def Zet := kR Z77
def Z3M := kO Zet
def ZeQ := opN Z3M 0
def Zil := opN Z3M 1
theorem Z05T : XG 106 54 Zet Z3M [51] := Z1 (by rfl) (by rfl) _
theorem ZOE : Z3M.toList = [ZeQ, Zil] := nf
theorem ZLI : stepA E C B 54 Z3M ZeQ (φ, H) = stp (some 51) φ H (just (aBin E.T .add 3 (fget φ 14) (.int .i64 1))) := nf
theorem ZMC : stepA E C B 54 Z3M Zil (φ, H) = some (fput φ 14 (fget φ 51), H) := nf
theorem Z0bn : XQ 106 54 Z77 ZdI Zet := Z0 (by rfl) _
theorem Z02d : XQ 106 54 Z6p Z7H Z77 := Z0 (by rfl) _
theorem ZX8 : XQ 106 54 Z3E Zdf Z6p := Z0 (by rfl) _
theorem Z07P : execA E C (fg 106) B 54 E0 N ZdO s = iterA (execA E C (fg 106) B 54 E0 N Z3E) (headA E0) N s := Z08 (by rfl) s
theorem Z0by : execA E C (fg 106) B 54 E0 N Zdw s = blockX 2 (fun s => (forget s.1 [4, 13, 14, 15], s.2)) (execA E C (fg 106) B 54 E0 N ZdO s) := Zi (by rfl) (by rfl) s
theorem Z02I : XQ 106 54 Z8j Zda Zdw := Z0 (by rfl) _
theorem Z07R : XQ 106 54 Z6M Zdp Z8j := Z0 (by rfl) _
theorem ZZB : execA E C (fg 106) B 54 E0 N Zde s = blockX 1 (fun s => (forget s.1 [], s.2)) (execA E C (fg 106) B 54 E0 N Z6M s) := Zi (by rfl) (by rfl) s
def ZdK := kR Z7g
def Z3B := kO ZdK
def ZhO := opN Z3B 0
def ZiP := opN Z3B 1
theorem ZYv : XG 106 54 ZdK Z3B [52] := Z1 (by rfl) (by rfl) _
theorem ZO6 : Z3B.toList = [ZhO, ZiP] := nf
theorem ZIF : stepA E C B 54 Z3B ZhO (φ, H) = stp (some 52) φ H (just (aBin E.T .add 3 (fget φ 9) (.int .i64 1))) := nf
theorem ZNi : stepA E C B 54 Z3B ZiP (φ, H) = some (fput φ 9 (fget φ 52), H) := nf
theorem Z00h : XQ 106 54 Z7g Zde ZdK := Z0 (by rfl) _
theorem Z09j : XQ 106 54 Z7Q Z7v Z7g := Z0 (by rfl) _
theorem Z0kp : XQ 106 54 Z4X Zdq Z7Q := Z0 (by rfl) _
theorem Z0ho : execA E C (fg 106) B 54 E0 N Zmu s = iterA (execA E C (fg 106) B 54 E0 N Z4X) (headA E0) N s := Z08 (by rfl) s
theorem Z0iA : execA E C (fg 106) B 54 E0 N ZoM s = blockX 0 (fun s => (forget s.1 [0, 8, 9, 10], s.2)) (execA E C (fg 106) B 54 E0 N Zmu s) := Zi (by rfl) (by rfl) s
theorem Z0k6 : XQ 106 54 Zan Zlw ZoM := Z0 (by rfl) _
def Z6H := kR Zbb
def Zdh := kL Z6H
def Z3H := kO Zdh
def ZeK := opN Z3H 0
def ZiI := opN Z3H 1
theorem Z08U : XG 106 54 Zdh Z3H [3, 53] := Z1 (by rfl) (by rfl) _
theorem ZKy : Z3H.toList = [ZeK, ZiI] := nf
theorem ZJ1 : stepA E C B 54 Z3H ZeK (φ, H) = some (fput φ 53 (fget φ 3), H) := nf
theorem ZHP : stepA E C B 54 Z3H ZiI (φ, H) = some (fput φ 2 (fget φ 53), H) := nf
def Zv3 := kR Z6H
theorem Z07h : execA E C (fg 106) B 54 E0 N Zv3 s = some (.ret, s) := Zo (by rfl) s
theorem Z05K : XQ 106 54 Z6H Zdh Zv3 := Z0 (by rfl) _
theorem Z0iZ : XQ 106 54 Zbb Zan Z6H := Z0 (by rfl) _
theorem Z0jD : XQ 106 54 ZcQ Zts Zbb := Z0 (by rfl) _
theorem Z0iR : XQ 106 54 Z6c ZmM ZcQ := Z0 (by rfl) _
theorem Z0jh : fInfo E 106 = some ⟨54, #[.tmp 2], Z6c⟩ := nf
theorem Z0pd (args : List AV) : bodyA E C fg N 106 args H B = bodyX E [.tmp 2] (execA E C (fg 106) B 54 H N Z6c (Z5 args 0 [], H)) := Zp Z0jh args H
abbrev Z33 := And.intro (And.intro (And.intro (And.intro (And.intro (And.intro (And.intro @Z0d7 @ZQc) (And.intro @ZVd @Z0gu)) (And.intro (And.intro @ZWa @ZP8) (And.intro @Z0eG @ZVE))) (And.intro (And.intro (And.intro @ZUL @ZTU) (And.intro @ZWg @Z07A)) (And.intro (And.intro @ZRb @ZSR) (And.intro @ZZd (And.intro @Z00b @ZXp))))) (And.intro (And.intro (And.intro (And.intro @Z02n @ZUw) (And.intro @ZQj @ZUP)) (And.intro (And.intro @Z0cf @ZTh) (And.intro @ZQ5 @ZTD))) (And.intro (And.intro (And.intro @ZV4 @Z06T) (And.intro @ZPX @ZOT)) (And.intro (And.intro @Z009 @Z0ak) (And.intro @Z0c6 (And.intro @Z006 @ZU8)))))) (And.intro (And.intro (And.intro (And.intro (And.intro @ZRn @ZUK) (And.intro @Z04l @ZPr)) (And.intro (And.intro @ZKo @ZKP) (And.intro @ZUu @ZSj))) (And.intro (And.intro (And.intro @ZWh @ZUE) (And.intro @ZPB @ZVs)) (And.intro (And.intro @ZUq @ZVN) (And.intro @ZPs (And.intro @ZPH @ZXj))))) (And.intro (And.intro (And.intro (And.intro @Z06b @Z007) (And.intro @Z02L @Z02M)) (And.intro (And.intro @ZQn @ZTx) (And.intro @ZUy @ZWC))) (And.intro (And.intro (And.intro @ZSW @ZZR) (And.intro @ZNX @ZMe)) (And.intro (And.intro @ZOm @ZK5) (And.intro @ZHr (And.intro @ZMN @ZJq))))))) (And.intro (And.intro (And.intro (And.intro (And.intro (And.intro @ZL3 @Z09I) (And.intro @ZNo @ZLu)) (And.intro (And.intro @ZKC @ZJB) (And.intro @ZHd @ZJs))) (And.intro (And.intro (And.intro @ZIS @ZHL) (And.intro @Z02W @ZNh)) (And.intro (And.intro @ZHW @ZOB) (And.intro @Z05k (And.intro @ZKH @ZKg))))) (And.intro (And.intro (And.intro (And.intro @ZJm @ZNu) (And.intro @ZNB @Z06U)) (And.intro (And.intro @ZIN @ZLn) (And.intro @ZJM @ZHt))) (And.intro (And.intro (And.intro @ZHg @ZLH) (And.intro @Z04k @Z06F)) (And.intro (And.intro @ZYr @Z04q) (And.intro @Z02f (And.intro @Z02y @ZYM)))))) (And.intro (And.intro (And.intro (And.intro (And.intro @ZYw @Z0aO) (And.intro @Z05z @Z05T)) (And.intro (And.intro @ZOE @ZLI) (And.intro @ZMC @Z0bn))) (And.intro (And.intro (And.intro @Z02d @ZX8) (And.intro @Z07P @Z0by)) (And.intro (And.intro @Z02I @Z07R) (And.intro @ZZB (And.intro @ZYv @ZO6))))) (And.intro (And.intro (And.intro (And.intro @ZIF @ZNi) (And.intro @Z00h @Z09j)) (And.intro (And.intro @Z0kp @Z0ho) (And.intro @Z0iA (And.intro @Z0k6 @Z08U)))) (And.intro (And.intro (And.intro @ZKy @ZJ1) (And.intro @ZHP @Z07h)) (And.intro (And.intro @Z05K @Z0iZ) (And.intro @Z0jD (And.intro @Z0iR @Z0pd)))))))
def Z6b := kBody Proofs.Try.f120
def Zna := kL Z6b
def Zbm := kO Zna
def Zqk := opN Zbm 0
theorem Z0g2 : XG 120 7 Zna Zbm [3] := Z1 (by rfl) (by rfl) _
theorem ZVq : Zbm.toList = [Zqk] := nf
theorem ZRc : stepA E C B 7 Zbm Zqk (φ, H) = some (fput φ 3 (.bool false), H) := nf
def ZbS := kR Z6b
def Zsq := kL ZbS
def Z1Z := kO Zsq
def Zu9 := opN Z1Z 0
def Zs4 := opN Z1Z 1
def Zsc := opN Z1Z 2
def Zu7 := opN Z1Z 3
theorem Z0gV : XG 120 7 Zsq Z1Z [0, 1, 4, 5, 6] := Z1 (by rfl) (by rfl) _
theorem ZVL : Z1Z.toList = [Zu9, Zs4, Zsc, Zu7] := nf
theorem ZUx : stepA E C B 7 Z1Z Zu9 (φ, H) = some (fput φ 4 (fget φ 0), H) := nf
theorem ZQt : stepA E C B 7 Z1Z Zs4 (φ, H) = stp (some 5) φ H (just (aLoad E.T 22 (fget φ 1))) := nf
theorem ZP5 : stepA E C B 7 Z1Z Zsc (φ, H) = stp (some 6) φ H (aCall C (fun j => B + j * 7 + 6) true 24 [(fget φ 4), (fget φ 5)]) := nf
theorem ZVB : stepA E C B 7 Z1Z Zu7 (φ, H) = some (fput φ 3 (fget φ 6), H) := nf
def ZJS := kR ZbS
theorem Z0cJ : execA E C (fg 120) B 7 E0 N ZJS s = some (.ret, s) := Zo (by rfl) s
theorem Z0gC : XQ 120 7 ZbS Zsq ZJS := Z0 (by rfl) _
theorem Z0fU : XQ 120 7 Z6b Zna ZbS := Z0 (by rfl) _
theorem ZLF : fInfo E 120 = some ⟨7, #[.tmp 3], Z6b⟩ := nf
theorem Z0lJ (args : List AV) : bodyA E C fg N 120 args H B = bodyX E [.tmp 3] (execA E C (fg 120) B 7 H N Z6b (Z5 args 0 [], H)) := Zp ZLF args H
abbrev Z0m2 := And.intro (And.intro (And.intro @Z0g2 (And.intro @ZVq @ZRc)) (And.intro @Z0gV (And.intro @ZVL @ZUx))) (And.intro (And.intro @ZQt (And.intro @ZP5 @ZVB)) (And.intro (And.intro @Z0cJ @Z0gC) (And.intro @Z0fU @Z0lJ)))
def Z93 := kBody Proofs.Try.f63
def ZGD := kL Z93
def Z7o := kO ZGD
def ZAo := opN Z7o 0
def ZEh := opN Z7o 1
theorem Z0mL : XG 63 47 ZGD Z7o [2, 3] := Z1 (by rfl) (by rfl) _
theorem Z05Y : Z7o.toList = [ZAo, ZEh] := nf
theorem Z01I : stepA E C B 47 Z7o ZAo (φ, H) = some (fput φ 2 (.nilsl), H) := nf
theorem Z07w : stepA E C B 47 Z7o ZEh (φ, H) = some (fput φ 3 (.nilsl), H) := nf
def Zkq := kR Z93
def ZFb := kL Zkq
def Z2b := kO ZFb
def ZyT := opN Z2b 0
def ZxJ := opN Z2b 1
def ZCo := opN Z2b 2
def ZvR := opN Z2b 3
def Zwd := opN Z2b 4
theorem Z0mW : XG 63 47 ZFb Z2b [0, 9, 10, 11] := Z1 (by rfl) (by rfl) _
theorem Z01v : Z2b.toList = [ZyT, ZxJ, ZCo, ZvR, Zwd] := nf
theorem Z0cu : stepA E C B 47 Z2b ZyT (φ, H) = some (fput φ 9 (fget φ 0), H) := nf
theorem Z02Z : stepA E C B 47 Z2b ZxJ (φ, H) = stp (some 10) φ H (Z9 E.T (B + 10) 39 1 (evO E φ) [(0, Operand.tmp 9)]) := nf
theorem Z06v : stepA E C B 47 Z2b ZCo (φ, H) = stp (some 11) φ H (Z9 E.T (B + 11) 22 1 (evO E φ) [(0, Operand.const (Value.int .i64 0))]) := nf
theorem ZZI : stepA E C B 47 Z2b ZvR (φ, H) = some (fput φ 4 (fget φ 10), H) := nf
theorem Z00Z : stepA E C B 47 Z2b Zwd (φ, H) = some (fput φ 5 (fget φ 11), H) := nf
def Zjo := kR Zkq
def ZjH := kL Zjo
def ZFc := kL ZjH
def ZjA := kO ZFc
def ZCq := opN ZjA 0
theorem Z0l3 : XG 63 47 ZFc ZjA [] := Z1 (by rfl) (by rfl) _
theorem Z00k : ZjA.toList = [ZCq] := nf
theorem ZZK : stepA E C B 47 ZjA ZCq (φ, H) = some (fput φ 6 (.int .i64 0), H) := nf
def ZF3 := kR ZjH
def ZFj := kB ZF3
def Z7r := kB ZFj
def Zas := kL Z7r
def Zlx := kL Zas
def Z2O := kO Zlx
def ZyO := opN Z2O 0
def ZDe := opN Z2O 1
def ZAP := opN Z2O 2
def Zwi := opN Z2O 3
theorem Z0h4 : XG 63 47 Zlx Z2O [12, 13, 14] := Z1 (by rfl) (by rfl) _
theorem Z054 : Z2O.toList = [ZyO, ZDe, ZAP, Zwi] := nf
theorem Z04W : stepA E C B 47 Z2O ZyO (φ, H) = some (fput φ 12 (fget φ 6), H) := nf
theorem ZY1 : stepA E C B 47 Z2O ZDe (φ, H) = some (fput φ 13 (fget φ 4), H) := nf
theorem Z0bp : stepA E C B 47 Z2O ZAP (φ, H) = stp (some 14) φ H (Z3 E.T (B + 14) .len #[39] [(fget φ 13)]) := nf
theorem ZYK : stepA E C B 47 Z2O Zwi (φ, H) = stp (some 15) φ H (just (aBin E.T .lss 3 (fget φ 12) (fget φ 14))) := nf
def Z9P := kR Zas
def ZNH := kT Z9P
theorem Z0dR : execA E C (fg 63) B 47 E0 N ZNH s = some (.normal, s) := Zh (by rfl) s
def ZL6 := kE Z9P
theorem Z0jT : execA E C (fg 63) B 47 E0 N ZL6 s = some (.exit 0, s) := ZW (by rfl) s
theorem Z0is : XC 63 47 Z9P 15 ZNH ZL6 := Zf (by rfl) _
theorem Z0jE : XQ 63 47 Zas Zlx Z9P := Z0 (by rfl) _
def Zar := kR Z7r
def Zmg := kL Zar
def ZbO := kB Zmg
def Zs7 := kL ZbO
def Z18 := kO Zs7
def Zxu := opN Z18 0
def ZzM := opN Z18 1
def ZzY := opN Z18 2
def ZDp := opN Z18 3
def Zyl := opN Z18 4
def Zx1 := opN Z18 5
def ZBs := opN Z18 6
theorem Z0cB : XG 63 47 Zs7 Z18 [15, 18, 19, 20, 21] := Z1 (by rfl) (by rfl) _
theorem Z06H : Z18.toList = [Zxu, ZzM, ZzY, ZDp, Zyl, Zx1, ZBs] := nf
theorem Z00P : stepA E C B 47 Z18 Zxu (φ, H) = some (fput φ 18 (fget φ 4), H) := nf
theorem Z03L : stepA E C B 47 Z18 ZzM (φ, H) = some (fput φ 19 (fget φ 6), H) := nf
theorem Z04J : stepA E C B 47 Z18 ZzY (φ, H) = stp (some 20) φ H (just (Z4 E.T 39 (fget φ 18) (fget φ 19))) := nf
theorem Z039 : stepA E C B 47 Z18 ZDp (φ, H) = stp (some 21) φ H (just (aLoad E.T 22 (fget φ 20))) := nf
theorem Z04t : stepA E C B 47 Z18 Zyl (φ, H) = stp (some 22) φ H (aCall C (fun j => B + j * 47 + 22) true 106 [(fget φ 21)]) := nf
theorem ZXK : stepA E C B 47 Z18 Zx1 (φ, H) = stp (some 23) φ H (Z3 E.T (B + 23) .len #[39] [(fget φ 22)]) := nf
theorem ZY2 : stepA E C B 47 Z18 ZBs (φ, H) = some (fput φ 24 (.int .i64 0), H) := nf
def Zu3 := kR ZbO
def Zmn := kB Zu3
def Z3V := kB Zmn
def Zt3 := kL Z3V
def Zj2 := kO Zt3
def ZzU := opN Zj2 0
theorem Z0h8 : XG 63 47 Zt3 Zj2 [] := Z1 (by rfl) (by rfl) _
theorem ZXk : Zj2.toList = [ZzU] := nf
theorem Z02s : stepA E C B 47 Zj2 ZzU (φ, H) = stp (some 25) φ H (just (aBin E.T .lss 3 (fget φ 24) (fget φ 23))) := nf
def Z9I := kR Z3V
def Zbn := kL Z9I
def ZOw := kT Zbn
theorem Z0iD : execA E C (fg 63) B 47 E0 N ZOw s = some (.normal, s) := Zh (by rfl) s
def ZN3 := kE Zbn
theorem Z0cZ : execA E C (fg 63) B 47 E0 N ZN3 s = some (.exit 2, s) := ZW (by rfl) s
theorem Z0dK : XC 63 47 Zbn 25 ZOw ZN3 := Zf (by rfl) _
def Z9j := kR Z9I
def Zsy := kL Z9j
def Zbg := kB Zsy
def ZpN := kL Zbg
def Z32 := kO ZpN
def ZB1 := opN Z32 0
def ZzH := opN Z32 1
def ZCR := opN Z32 2
def ZDt := opN Z32 3
theorem Z0kE : XG 63 47 ZpN Z32 [25, 26, 27] := Z1 (by rfl) (by rfl) _
theorem Z07J : Z32.toList = [ZB1, ZzH, ZCR, ZDt] := nf
theorem Z04H : stepA E C B 47 Z32 ZB1 (φ, H) = stp (some 26) φ H (just (Z4 E.T 39 (fget φ 22) (fget φ 24))) := nf
theorem Z00z : stepA E C B 47 Z32 ZzH (φ, H) = stp (some 27) φ H (just (aLoad E.T 22 (fget φ 26))) := nf
theorem Z06D : stepA E C B 47 Z32 ZCR (φ, H) = stp (some 8) φ H (opBox (B + 8) (zeroCells E.T 22)) := nf
theorem Z0bH : stepA E C B 47 Z32 ZDt (φ, H) = stp none φ H (opStore E.T 22 (fget φ 8) (fget φ 27)) := nf
def Zah := kR Zbg
def ZpF := kL Zah
def Z2T := kO ZpF
def Zv8 := opN Z2T 0
def ZE3 := opN Z2T 1
def ZuP := opN Z2T 2
def ZBV := opN Z2T 3
theorem Z0hn : XG 63 47 ZpF Z2T [28, 29, 30] := Z1 (by rfl) (by rfl) _
theorem Z02Y : Z2T.toList = [Zv8, ZE3, ZuP, ZBV] := nf
theorem ZXZ : stepA E C B 47 Z2T Zv8 (φ, H) = some (fput φ 28 (fget φ 4), H) := nf
theorem Z03m : stepA E C B 47 Z2T ZE3 (φ, H) = stp (some 29) φ H (.pure (.clo 107 [(fget φ 8)], [])) := nf
theorem Z0bT : stepA E C B 47 Z2T ZuP (φ, H) = stp (some 30) φ H (aCall C (fun j => B + j * 47 + 30) true 73 [(fget φ 28), (fget φ 29)]) := nf
theorem Z00o : stepA E C B 47 Z2T ZBV (φ, H) = stp (some 31) φ H (justO (aUn .not (fget φ 30))) := nf
def ZaP := kR Zah
def Zsd := kT ZaP
def ZG := kO Zsd
def ZDb := opN ZG 0
def ZDJ := opN ZG 1
def ZuI := opN ZG 2
def ZvB := opN ZG 3
def Zvq := opN ZG 4
def ZwW := opN ZG 5
def ZCC := opN ZG 6
def ZAi := opN ZG 7
def ZEa := opN ZG 8
def ZzN := opN ZG 9
def Zp2 := opN ZG 10
def Zr4 := opN ZG 11
def ZpC := opN ZG 12
def ZtQ := opN ZG 13
theorem Z0ee : XD 63 47 Zsd ZG [8, 31, 32, 33, 34, 35, 36, 37, 38, 39, 40, 41, 42, 43] := Z0v (by rfl) (by rfl) _
theorem Z05N : ZG.toList = [ZDb, ZDJ, ZuI, ZvB, Zvq, ZwW, ZCC, ZAi, ZEa, ZzN, Zp2, Zr4, ZpC, ZtQ] := nf
theorem ZTH : statOk ZG = true := by kernel_rfl
theorem ZU4 : drawA E C B 47 ZG s = if neat 47 s = true then drX ZG (runT E C B 47 ZG ZG.toList 0 s) else none := Z0c ZTH s
theorem ZVm (l : List (Nat × Tr)) : dynOk ZG l = (!writing l || Zc [[], [], [1], [0, 1, 2], [], [], [], [5, 6], [5, 6, 7], [5, 6, 7, 8], [5, 6, 7, 8, 9], [0, 1, 2, 3, 4, 5, 6, 7, 8, 9, 10], [0, 1, 2, 3, 4, 5, 6, 7, 8, 9, 10, 11], [0, 1, 2, 3, 4, 5, 6, 7, 8, 9, 10, 11, 12]] (Zb l)) := ZX (by kernel_rfl) l
theorem Z09b : stepT E C B 47 ZG ZDb (φ, H) = some ((fput φ 32 (fget φ 4), H), ⟨false, [], []⟩) := Z2 rfl (Z7 rfl rfl)
theorem Z01q : stepT E C B 47 ZG ZDJ (φ, H) = stpT (some 33) φ H (just (aLoad E.T 22 (fget φ 8))) := Z2 rfl (Z6 rfl rfl)
theorem ZXw : stepT E C B 47 ZG ZuI (φ, H) = stpT (some 34) φ H (Z9 E.T (B + 34) 39 1 (evO E φ) [(0, Operand.tmp 33)]) := Z2 rfl (Z6 rfl rfl)
theorem Z07s : stepT E C B 47 ZG ZvB (φ, H) = stpT (some 35) φ H (Z3 E.T (B + 35) .append #[39, 39] [(fget φ 32), (fget φ 34)]) := Z2 rfl (Z6 rfl rfl)
theorem Z05r : stepT E C B 47 ZG Zvq (φ, H) = some ((fput φ 36 (fget φ 5), H), ⟨false, [], []⟩) := Z2 rfl (Z7 rfl rfl)
theorem Z08k : stepT E C B 47 ZG ZwW (φ, H) = some ((fput φ 37 (fget φ 5), H), ⟨false, [], []⟩) := Z2 rfl (Z7 rfl rfl)
theorem Z07a : stepT E C B 47 ZG ZCC (φ, H) = some ((fput φ 38 (fget φ 6), H), ⟨false, [], []⟩) := Z2 rfl (Z7 rfl rfl)
theorem Z00D : stepT E C B 47 ZG ZAi (φ, H) = stpT (some 39) φ H (just (Z4 E.T 22 (fget φ 37) (fget φ 38))) := Z2 rfl (Z6 rfl rfl)
theorem ZZn : stepT E C B 47 ZG ZEa (φ, H) = stpT (some 40) φ H (just (aLoad E.T 3 (fget φ 39))) := Z2 rfl (Z6 rfl rfl)
theorem Z0aN : stepT E C B 47 ZG ZzN (φ, H) = stpT (some 41) φ H (just (aBin E.T .add 3 (fget φ 40) (.int .i64 1))) := Z2 rfl (Z6 rfl rfl)
theorem ZQF : stepT E C B 47 ZG Zp2 (φ, H) = stpT (some 42) φ H (Z9 E.T (B + 42) 22 1 (evO E φ) [(0, Operand.tmp 41)]) := Z2 rfl (Z6 rfl rfl)
theorem ZSs : stepT E C B 47 ZG Zr4 (φ, H) = stpT (some 43) φ H (Z3 E.T (B + 43) .append #[22, 22] [(fget φ 36), (fget φ 42)]) := Z2 rfl (Z6 rfl rfl)
theorem ZP2 : stepT E C B 47 ZG ZpC (φ, H) = some ((fput φ 4 (fget φ 35), H), ⟨false, [], []⟩) := Z2 rfl (Z7 rfl rfl)
theorem ZVp : stepT E C B 47 ZG ZtQ (φ, H) = some ((fput φ 5 (fget φ 43), H), ⟨false, [], []⟩) := Z2 rfl (Z7 rfl rfl)
def ZJe := kE ZaP
theorem Z0hR : execA E C (fg 63) B 47 E0 N ZJe s = some (.normal, s) := Zh (by rfl) s
theorem Z0dJ : XC 63 47 ZaP 31 Zsd ZJe := Zf (by rfl) _
theorem Z0eZ : XQ 63 47 Zah ZpF ZaP := Z0 (by rfl) _
theorem Z0dW : XQ 63 47 Zbg ZpN Zah := Z0 (by rfl) _
theorem Z0j1 : execA E C (fg 63) B 47 E0 N Zsy s = blockX 3 (fun s => (forget s.1 [8, 31], s.2)) (execA E C (fg 63) B 47 E0 N Zbg s) := Zi (by rfl) (by rfl) s
def ZpH := kR Z9j
def Z55 := kO ZpH
def ZlF := opN Z55 0
def Zsj := opN Z55 1
theorem Z0ii : XG 63 47 ZpH Z55 [44] := Z1 (by rfl) (by rfl) _
theorem ZUM : Z55.toList = [ZlF, Zsj] := nf
theorem ZSb : stepA E C B 47 Z55 ZlF (φ, H) = stp (some 44) φ H (just (aBin E.T .add 3 (fget φ 24) (.int .i64 1))) := nf
theorem ZUG : stepA E C B 47 Z55 Zsj (φ, H) = some (fput φ 24 (fget φ 44), H) := nf
theorem Z0j4 : XQ 63 47 Z9j Zsy ZpH := Z0 (by rfl) _
theorem Z0je : XQ 63 47 Z9I Zbn Z9j := Z0 (by rfl) _
theorem Z0dE : XQ 63 47 Z3V Zt3 Z9I := Z0 (by rfl) _
theorem Z0da : execA E C (fg 63) B 47 E0 N Zmn s = iterA (execA E C (fg 63) B 47 E0 N Z3V) (headA E0) N s := Z08 (by rfl) s
theorem Z0eY : execA E C (fg 63) B 47 E0 N Zu3 s = blockX 2 (fun s => (forget s.1 [22, 23, 24, 25], s.2)) (execA E C (fg 63) B 47 E0 N Zmn s) := Zi (by rfl) (by rfl) s
theorem Z0gT : XQ 63 47 ZbO Zs7 Zu3 := Z0 (by rfl) _
theorem Z0ff : execA E C (fg 63) B 47 E0 N Zmg s = blockX 1 (fun s => (forget s.1 [], s.2)) (execA E C (fg 63) B 47 E0 N ZbO s) := Zi (by rfl) (by rfl) s
def Znb := kR Zar
def Z4r := kO Znb
def ZwQ := opN Z4r 0
def ZDZ := opN Z4r 1
def Zxp := opN Z4r 2
theorem Z0hv : XG 63 47 Znb Z4r [16, 17] := Z1 (by rfl) (by rfl) _
theorem Z059 : Z4r.toList = [ZwQ, ZDZ, Zxp] := nf
theorem Z06P : stepA E C B 47 Z4r ZwQ (φ, H) = some (fput φ 16 (fget φ 6), H) := nf
theorem Z01a : stepA E C B 47 Z4r ZDZ (φ, H) = stp (some 17) φ H (just (aBin E.T .add 3 (fget φ 16) (.int .i64 1))) := nf
theorem Z00J : stepA E C B 47 Z4r Zxp (φ, H) = some (fput φ 6 (fget φ 17), H) := nf
theorem Z0eE : XQ 63 47 Zar Zmg Znb := Z0 (by rfl) _
theorem Z0nl : XQ 63 47 Z7r Zas Zar := Z0 (by rfl) _
theorem Z0qc : execA E C (fg 63) B 47 E0 N ZFj s = iterA (execA E C (fg 63) B 47 E0 N Z7r) (headA E0) N s := Z08 (by rfl) s
theorem Z0kU : execA E C (fg 63) B 47 E0 N ZF3 s = blockX 0 (fun s => (forget s.1 [6, 15], s.2)) (execA E C (fg 63) B 47 E0 N ZFj s) := Zi (by rfl) (by rfl) s
theorem Z0mX : XQ 63 47 ZjH ZFc ZF3 := Z0 (by rfl) _
def Z9h := kR Zjo
def Zny := kL Z9h
def Z23 := kO Zny
def Zmi := opN Z23 0
def Zq9 := opN Z23 1
def ZtM := opN Z23 2
def Znj := opN Z23 3
theorem Z0cV : XG 63 47 Zny Z23 [4, 5, 45, 46] := Z1 (by rfl) (by rfl) _
theorem ZQb : Z23.toList = [Zmi, Zq9, ZtM, Znj] := nf
theorem ZQz : stepA E C B 47 Z23 Zmi (φ, H) = some (fput φ 45 (fget φ 4), H) := nf
theorem ZSk : stepA E C B 47 Z23 Zq9 (φ, H) = some (fput φ 46 (fget φ 5), H) := nf
theorem ZQs : stepA E C B 47 Z23 ZtM (φ, H) = some (fput φ 2 (fget φ 45), H) := nf
theorem ZPl : stepA E C B 47 Z23 Znj (φ, H) = some (fput φ 3 (fget φ 46), H) := nf
def ZJb := kR Z9h
theorem Z0ib : execA E C (fg 63) B 47 E0 N ZJb s = some (.ret, s) := Zo (by rfl) s
theorem Z0kL : XQ 63 47 Z9h Zny ZJb := Z0 (by rfl) _
theorem Z0oz : XQ 63 47 Zjo ZjH Z9h := Z0 (by rfl) _
theorem Z0oe : XQ 63 47 Zkq ZFb Zjo := Z0 (by rfl) _
theorem Z0oo : XQ 63 47 Z93 ZGD Zkq := Z0 (by rfl) _
theorem Z0of : fInfo E 63 = some ⟨47, #[.tmp 2, .tmp 3], Z93⟩ := nf
theorem b_63 (args : List AV) : bodyA E C fg N 63 args H B = bodyX E [.tmp 2, .tmp 3] (execA E C (fg 63) B 47 H N Z93 (Z5 args 0 [], H)) := Zp Z0of args H
abbrev F_63 := And.intro (And.intro (And.intro (And.intro (And.intro (And.intro @Z0mL (And.intro @Z05Y @Z01I)) (And.intro @Z07w (And.intro @Z0mW @Z01v))) (And.intro (And.intro @Z0cu (And.intro @Z02Z @Z06v)) (And.intro (And.intro @ZZI @Z00Z) (And.intro @Z0l3 @Z00k)))) (And.intro (And.intro (And.intro @ZZK (And.intro @Z0h4 @Z054)) (And.intro @Z04W (And.intro @ZY1 @Z0bp))) (And.intro (And.intro @ZYK (And.intro @Z0dR @Z0jT)) (And.intro (And.intro @Z0is @Z0jE) (And.intro @Z0cB @Z06H))))) (And.intro (And.intro (And.intro (And.intro @Z00P (And.intro @Z03L @Z04J)) (And.intro @Z039 (And.intro @Z04t @ZXK))) (And.intro (And.intro @ZY2 (And.intro @Z0h8 @ZXk)) (And.intro (And.intro @Z02s @Z0iD) (And.intro @Z0cZ @Z0dK)))) (And.intro (And.intro (And.intro @Z0kE (And.intro @Z07J @Z04H)) (And.intro (And.intro @Z00z @Z06D) (And.intro @Z0bH @Z0hn))) (And.intro (And.intro @Z02Y (And.intro @ZXZ @Z03m)) (And.intro (And.intro @Z0bT @Z00o) (And.intro @Z0ee @Z05N)))))) (And.intro (And.intro (And.intro (And.intro (And.intro @ZU4 (And.intro @ZVm @Z09b)) (And.intro @Z01q (And.intro @ZXw @Z07s))) (And.intro (And.intro @Z05r (And.intro @Z08k @Z07a)) (And.intro (And.intro @Z00D @ZZn) (And.intro @Z0aN @ZQF)))) (And.intro (And.intro (And.intro @ZSs (And.intro @ZP2 @ZVp)) (And.intro (And.intro @Z0hR @Z0dJ) (And.intro @Z0eZ @Z0dW))) (And.intro (And.intro @Z0j1 (And.intro @Z0ii @ZUM)) (And.intro (And.intro @ZSb @ZUG) (And.intro @Z0j4 @Z0je))))) (And.intro (And.intro (And.intro (And.intro @Z0dE (And.intro @Z0da @Z0eY)) (And.intro @Z0gT (And.intro @Z0ff @Z0hv))) (And.intro (And.intro @Z059 (And.intro @Z06P @Z01a)) (And.intro (And.intro @Z00J @Z0eE) (And.intro @Z0nl @Z0qc)))) (And.intro (And.intro (And.intro @Z0kU (And.intro @Z0mX @Z0cV)) (And.intro (And.intro @ZQb @ZQz) (And.intro @ZSk @ZQs))) (And.intro (And.intro @ZPl (And.intro @Z0ib @Z0kL)) (And.intro (And.intro @Z0oz @Z0oe) (And.intro @Z0oo @b_63))))))
def Z5M := kBody Proofs.Try.f107
def Zow := kL Z5M
def ZcG := kO Zow
def Zlo := opN ZcG 0
theorem Z0cP : XG 107 7 Zow ZcG [3] := Z1 (by rfl) (by rfl) _
theorem ZVW : ZcG.toList = [Zlo] := nf
theorem ZPS : stepA E C B 7 ZcG Zlo (φ, H) = some (fput φ 3 (.bool false), H) := nf
def Z9U := kR Z5M
def ZsS := kL Z9U
def Z1U := kO ZsS
def Zs1 := opN Z1U 0
def ZmG := opN Z1U 1
def Zto := opN Z1U 2
def Zsx := opN Z1U 3
theorem Z0kA : XG 107 7 ZsS Z1U [0, 1, 4, 5, 6] := Z1 (by rfl) (by rfl) _
theorem ZU2 : Z1U.toList = [Zs1, ZmG, Zto, Zsx] := nf
theorem ZVb : stepA E C B 7 Z1U Zs1 (φ, H) = stp (some 4) φ H (just (aLoad E.T 22 (fget φ 1))) := nf
theorem ZPk : stepA E C B 7 Z1U ZmG (φ, H) = some (fput φ 5 (fget φ 0), H) := nf
theorem ZUn : stepA E C B 7 Z1U Zto (φ, H) = stp (some 6) φ H (aCall C (fun j => B + j * 7 + 6) true 24 [(fget φ 4), (fget φ 5)]) := nf
theorem ZT7 : stepA E C B 7 Z1U Zsx (φ, H) = some (fput φ 3 (fget φ 6), H) := nf
def ZMb := kR Z9U
theorem Z0ij : execA E C (fg 107) B 7 E0 N ZMb s = some (.ret, s) := Zo (by rfl) s
theorem Z0iW : XQ 107 7 Z9U ZsS ZMb := Z0 (by rfl) _
theorem Z0iY : XQ 107 7 Z5M Zow Z9U := Z0 (by rfl) _
theorem ZHJ : fInfo E 107 = some ⟨7, #[.tmp 3], Z5M⟩ := nf
theorem Z0qb (args : List AV) : bodyA E C fg N 107 args H B = bodyX E [.tmp 3] (execA E C (fg 107) B 7 H N Z5M (Z5 args 0 [], H)) := Zp ZHJ args H
abbrev Z0p0 := And.intro (And.intro (And.intro @Z0cP (And.intro @ZVW @ZPS)) (And.intro @Z0kA (And.intro @ZU2 @ZVb))) (And.intro (And.intro @ZPk (And.intro @ZUn @ZT7)) (And.intro (And.intro @Z0ij @Z0iW) (And.intro @Z0iY @Z0qb)))
def Z9x := kBody Proofs.Try.f59
def ZEL := kL Z9x
def Z6u := kO ZEL
def Zzy := opN Z6u 0
def ZwJ := opN Z6u 1
theorem Z0lo : XG 59 12 ZEL Z6u [0, 4] := Z1 (by rfl) (by rfl) _
theorem Z004 : Z6u.toList = [Zzy, ZwJ] := nf
theorem Z08x : stepA E C B 12 Z6u Zzy (φ, H) = stp (some 2) φ H (opBox (B + 2) (acells (fget φ 0))) := nf
theorem Z03s : stepA E C B 12 Z6u ZwJ (φ, H) = some (fput φ 4 (.nilsl), H) := nf
def ZjM := kR Z9x
def ZFG := kL ZjM
def Zjp := kO ZFG
def Zwv := opN Zjp 0
theorem Z0kY : XG 59 12 ZFG Zjp [] := Z1 (by rfl) (by rfl) _
theorem Z012 : Zjp.toList = [Zwv] := nf
theorem ZZz : stepA E C B 12 Zjp Zwv (φ, H) = stp (some 5) φ H (opBox (B + 5) (zeroCells E.T 39)) := nf
def Zjh := kR ZjM
def ZFm := kL Zjh
def ZkX := kO ZFm
def ZBa := opN ZkX 0
theorem Z0lP : XG 59 12 ZFm ZkX [] := Z1 (by rfl) (by rfl) _
theorem Z0a1 : ZkX.toList = [ZBa] := nf
theorem ZXt : stepA E C B 12 ZkX ZBa (φ, H) = stp (some 6) φ H (opBox (B + 6) (zeroCells E.T 94)) := nf
def Zlj := kR Zjh
def ZFQ := kL Zlj
def Z7T := kO ZFQ
def ZBi := opN Z7T 0
def ZxZ := opN Z7T 1
theorem Z0ny : XG 59 12 ZFQ Z7T [2, 7] := Z1 (by rfl) (by rfl) _
theorem Z09n : Z7T.toList = [ZBi, ZxZ] := nf
theorem Z055 : stepA E C B 12 Z7T ZBi (φ, H) = stp (some 7) φ H (.pure (.clo 105 [(fget φ 2), (fget φ 5), (fget φ 6)], [])) := nf
theorem Z0bo : stepA E C B 12 Z7T ZxZ (φ, H) = stp none φ H (opStore E.T 94 (fget φ 6) (fget φ 7)) := nf
def Zj0 := kR Zlj
def ZFK := kL Zj0
def Z4k := kO ZFK
def Zvi := opN Z4k 0
def ZC7 := opN Z4k 1
def ZwX := opN Z4k 2
theorem Z0mF : XG 59 12 ZFK Z4k [1, 6, 8, 9, 10] := Z1 (by rfl) (by rfl) _
theorem Z03r : Z4k.toList = [Zvi, ZC7, ZwX] := nf
theorem Z06Y : stepA E C B 12 Z4k Zvi (φ, H) = stp (some 8) φ H (just (aLoad E.T 94 (fget φ 6))) := nf
theorem Z000 : stepA E C B 12 Z4k ZC7 (φ, H) = some (fput φ 9 (fget φ 1), H) := nf
theorem Z07y : stepA E C B 12 Z4k ZwX (φ, H) = callV E C (B + 12 * 8) (some 10) (fun j => B + j * 12 + 10) φ H (fget φ 8) [(.nilsl), (fget φ 9), (.int .i64 8)] true := nf
def ZaV := kR Zj0
def ZmA := kL ZaV
def Z6m := kO ZmA
def Zww := opN Z6m 0
def Zz8 := opN Z6m 1
theorem Z0kb : XG 59 12 ZmA Z6m [5, 11] := Z1 (by rfl) (by rfl) _
theorem ZYS : Z6m.toList = [Zww, Zz8] := nf
theorem Z0aD : stepA E C B 12 Z6m Zww (φ, H) = stp (some 11) φ H (just (aLoad E.T 39 (fget φ 5))) := nf
theorem ZXA : stepA E C B 12 Z6m Zz8 (φ, H) = some (fput φ 4 (fget φ 11), H) := nf
def ZHA := kR ZaV
theorem Z0g9 : execA E C (fg 59) B 12 E0 N ZHA s = some (.ret, s) := Zo (by rfl) s
theorem Z0eU : XQ 59 12 ZaV ZmA ZHA := Z0 (by rfl) _
theorem Z0nM : XQ 59 12 Zj0 ZFK ZaV := Z0 (by rfl) _
theorem Z0pW : XQ 59 12 Zlj ZFQ Zj0 := Z0 (by rfl) _
theorem Z0pw : XQ 59 12 Zjh ZFm Zlj := Z0 (by rfl) _
theorem Z0py : XQ 59 12 ZjM ZFG Zjh := Z0 (by rfl) _
theorem Z0np : XQ 59 12 Z9x ZEL ZjM := Z0 (by rfl) _
theorem Z0n5 : fInfo E 59 = some ⟨12, #[.tmp 4], Z9x⟩ := nf
theorem b_59 (args : List AV) : bodyA E C fg N 59 args H B = bodyX E [.tmp 4] (execA E C (fg 59) B 12 H N Z9x (Z5 args 0 [], H)) := Zp Z0n5 args H
abbrev F_59 := And.intro (And.intro (And.intro (And.intro @Z0lo (And.intro @Z004 @Z08x)) (And.intro (And.intro @Z03s @Z0kY) (And.intro @Z012 @ZZz))) (And.intro (And.intro (And.intro @Z0lP @Z0a1) (And.intro @ZXt @Z0ny)) (And.intro (And.intro @Z09n @Z055) (And.intro @Z0bo @Z0mF)))) (And.intro (And.intro (And.intro (And.intro @Z03r @Z06Y) (And.intro @Z000 @Z07y)) (And.intro (And.intro @Z0kb @ZYS) (And.intro @Z0aD @ZXA))) (And.intro (And.intro (And.intro @Z0g9 @Z0eU) (And.intro @Z0nM @Z0pW)) (And.intro (And.intro @Z0pw @Z0py) (And.intro @Z0np @b_59))))
def Z5Y := kBody Proofs.Try.f105
def Z9Z := kL Z5Y
def ZpJ := kL Z9Z
def Z24 := kO ZpJ
def Zoq := opN Z24 0
def ZrH := opN Z24 1
def Zmf := opN Z24 2
def ZrG := opN Z24 3
theorem Z0hb : XG 105 42 ZpJ Z24 [3, 10, 11, 12] := Z1 (by rfl) (by rfl) _
theorem ZQY : Z24.toList = [Zoq, ZrH, Zmf, ZrG] := nf
theorem ZTa : stepA E C B 42 Z24 Zoq (φ, H) = some (fput φ 10 (fget φ 0), H) := nf
theorem ZSE : stepA E C B 42 Z24 ZrH (φ, H) = stp (some 11) φ H (Z3 E.T (B + 11) .len #[22] [(fget φ 10)]) := nf
theorem ZSz : stepA E C B 42 Z24 Zmf (φ, H) = stp (some 12) φ H (just (aLoad E.T 3 (fget φ 3))) := nf
theorem ZRA : stepA E C B 42 Z24 ZrG (φ, H) = stp (some 13) φ H (just (aBin E.T .eql 3 (fget φ 11) (fget φ 12))) := nf
def ZcI := kR Z9Z
def Zbf := kT ZcI
def Z9N := kL Zbf
def Zpp := kL Z9N
def Z59 := kO Zpp
def Zo8 := opN Z59 0
def Zpk := opN Z59 1
theorem Z0dX : XG 105 42 Zpp Z59 [1, 2, 5, 13, 14] := Z1 (by rfl) (by rfl) _
theorem ZRw : Z59.toList = [Zo8, Zpk] := nf
theorem ZWo : stepA E C B 42 Z59 Zo8 (φ, H) = some (fput φ 14 (fget φ 1), H) := nf
theorem ZRB : stepA E C B 42 Z59 Zpk (φ, H) = stp (some 15) φ H (just (aBin E.T .eql 3 (fget φ 14) (.int .i64 0))) := nf
def ZbP := kR Z9N
def Zqg := kT ZbP
def Z1n := kO Zqg
def ZqN := opN Z1n 0
def ZmB := opN Z1n 1
def ZoT := opN Z1n 2
def Zmx := opN Z1n 3
def Ztl := opN Z1n 4
theorem Z0gZ : XG 105 42 Zqg Z1n [0, 4, 15, 16, 17, 18, 19] := Z1 (by rfl) (by rfl) _
theorem ZPI : Z1n.toList = [ZqN, ZmB, ZoT, Zmx, Ztl] := nf
theorem ZSJ : stepA E C B 42 Z1n ZqN (φ, H) = stp (some 16) φ H (just (aLoad E.T 39 (fget φ 4))) := nf
theorem ZPD : stepA E C B 42 Z1n ZmB (φ, H) = some (fput φ 17 (fget φ 0), H) := nf
theorem ZRj : stepA E C B 42 Z1n ZoT (φ, H) = stp (some 18) φ H (Z9 E.T (B + 18) 39 1 (evO E φ) [(0, Operand.tmp 17)]) := nf
theorem ZWt : stepA E C B 42 Z1n Zmx (φ, H) = stp (some 19) φ H (Z3 E.T (B + 19) .append #[39, 39] [(fget φ 16), (fget φ 18)]) := nf
theorem ZWm : stepA E C B 42 Z1n Ztl (φ, H) = stp none φ H (opStore E.T 39 (fget φ 4) (fget φ 19)) := nf
def ZIJ := kE ZbP
theorem Z0gw : execA E C (fg 105) B 42 E0 N ZIJ s = some (.normal, s) := Zh (by rfl) s
theorem Z0hq : XC 105 42 ZbP 15 Zqg ZIJ := Zf (by rfl) _
theorem Z0d0 : XQ 105 42 Z9N Zpp ZbP := Z0 (by rfl) _
def Zym := kR Zbf
theorem ZYB : execA E C (fg 105) B 42 E0 N Zym s = some (.ret, s) := Zo (by rfl) s
theorem Z0dY : XQ 105 42 Zbf Z9N Zym := Z0 (by rfl) _
def ZxU := kE ZcI
theorem Z04O : execA E C (fg 105) B 42 E0 N ZxU s = some (.normal, s) := Zh (by rfl) s
theorem Z0hr : XC 105 42 ZcI 13 Zbf ZxU := Zf (by rfl) _
theorem Z0d8 : XQ 105 42 Z9Z ZpJ ZcI := Z0 (by rfl) _
def Z73 := kR Z5Y
def Zee := kL Z73
def Z1V := kO Zee
def Zqq := opN Z1V 0
def Zn8 := opN Z1V 1
def ZtF := opN Z1V 2
def Zrl := opN Z1V 3
theorem Z02P : XG 105 42 Zee Z1V [2, 4, 13, 20, 21, 22] := Z1 (by rfl) (by rfl) _
theorem ZQX : Z1V.toList = [Zqq, Zn8, ZtF, Zrl] := nf
theorem ZTr : stepA E C B 42 Z1V Zqq (φ, H) = some (fput φ 20 (fget φ 2), H) := nf
theorem ZSw : stepA E C B 42 Z1V Zn8 (φ, H) = some (fput φ 21 (fget φ 1), H) := nf
theorem ZRv : stepA E C B 42 Z1V ZtF (φ, H) = stp (some 22) φ H (Z3 E.T (B + 22) .min #[3, 3] [(fget φ 20), (fget φ 21)]) := nf
theorem ZQO : stepA E C B 42 Z1V Zrl (φ, H) = some (fput φ 9 (fget φ 22), H) := nf
def ZdV := kR Z73
def ZdL := kB ZdV
def Z1y := kB ZdL
def Z8n := kL Z1y
def Zdt := kL Z8n
def Z5a := kO Zdt
def Zue := opN Z5a 0
def ZlA := opN Z5a 1
theorem Z07U : XG 105 42 Zdt Z5a [23] := Z1 (by rfl) (by rfl) _
theorem ZVf : Z5a.toList = [Zue, ZlA] := nf
theorem ZWD : stepA E C B 42 Z5a Zue (φ, H) = some (fput φ 23 (fget φ 9), H) := nf
theorem ZV9 : stepA E C B 42 Z5a ZlA (φ, H) = stp (some 24) φ H (just (aBin E.T .geq 3 (fget φ 23) (.int .i64 0))) := nf
def Z6O := kR Z8n
def Zwx := kT Z6O
theorem Z0cq : execA E C (fg 105) B 42 E0 N Zwx s = some (.normal, s) := Zh (by rfl) s
def Zyq := kE Z6O
theorem Z02e : execA E C (fg 105) B 42 E0 N Zyq s = some (.exit 0, s) := ZW (by rfl) s
theorem Z02j : XC 105 42 Z6O 24 Zwx Zyq := Zf (by rfl) _
theorem Z04I : XQ 105 42 Z8n Zdt Z6O := Z0 (by rfl) _
def Z85 := kR Z1y
def Zdm := kL Z85
def Ze9 := kB Zdm
def Zv := kO Ze9
def Znn := opN Zv 0
def ZsX := opN Zv 1
def Zu8 := opN Zv 2
def ZqM := opN Zv 3
def Zq0 := opN Zv 4
def Zuc := opN Zv 5
def Zrg := opN Zv 6
def Ztf := opN Zv 7
def Zsv := opN Zv 8
def Zmh := opN Zv 9
def Zfq := opN Zv 10
def Zhl := opN Zv 11
def Zib := opN Zv 12
def ZfF := opN Zv 13
def ZgP := opN Zv 14
theorem Z069 : XD 105 42 Ze9 Zv [24, 27, 28, 29, 30, 31, 32, 33, 34, 35, 36, 37, 38, 39, 40, 41] := Z0v (by rfl) (by rfl) _
theorem ZTf : Zv.toList = [Znn, ZsX, Zu8, ZqM, Zq0, Zuc, Zrg, Ztf, Zsv, Zmh, Zfq, Zhl, Zib, ZfF, ZgP] := nf
theorem ZK9 : statOk Zv = true := by kernel_rfl
theorem ZHI : drawA E C B 42 Zv s = if neat 42 s = true then drX Zv (runT E C B 42 Zv Zv.toList 0 s) else none := Z0c ZK9 s
theorem ZHo (l : List (Nat × Tr)) : dynOk Zv l = (!writing l || Zc [[], [], [], [2], [], [4], [1, 2, 3, 4, 5], [], [7], [1, 2, 3, 4, 5, 6, 7, 8], [], [], [10, 11], [], [0, 1, 2, 3, 4, 5, 6, 7, 8, 9, 10, 11, 12, 13]] (Zb l)) := ZX (by kernel_rfl) l
theorem ZPz : stepT E C B 42 Zv Znn (φ, H) = stpT (some 27) φ H (just (aLoad E.T 94 (fget φ 5))) := Z2 rfl (Z6 rfl rfl)
theorem ZV3 : stepT E C B 42 Zv ZsX (φ, H) = some ((fput φ 28 (fget φ 0), H), ⟨false, [], []⟩) := Z2 rfl (Z7 rfl rfl)
theorem ZT4 : stepT E C B 42 Zv Zu8 (φ, H) = some ((fput φ 29 (fget φ 0), H), ⟨false, [], []⟩) := Z2 rfl (Z7 rfl rfl)
theorem ZPE : stepT E C B 42 Zv ZqM (φ, H) = stpT (some 30) φ H (Z3 E.T (B + 30) .len #[22] [(fget φ 29)]) := Z2 rfl (Z6 rfl rfl)
theorem ZQr : stepT E C B 42 Zv Zq0 (φ, H) = some ((fput φ 31 (fget φ 0), H), ⟨false, [], []⟩) := Z2 rfl (Z7 rfl rfl)
theorem ZVD : stepT E C B 42 Zv Zuc (φ, H) = stpT (some 32) φ H (Z3 E.T (B + 32) .len #[22] [(fget φ 31)]) := Z2 rfl (Z6 rfl rfl)
theorem ZRJ : stepT E C B 42 Zv Zrg (φ, H) = stpT (some 33) φ H (just (aSlice E.T 22 (fget φ 28) none (some (fget φ 30)) (some (fget φ 32)))) := Z2 rfl (Z6 rfl rfl)
theorem ZVC : stepT E C B 42 Zv Ztf (φ, H) = some ((fput φ 34 (fget φ 9), H), ⟨false, [], []⟩) := Z2 rfl (Z7 rfl rfl)
theorem ZR5 : stepT E C B 42 Zv Zsv (φ, H) = stpT (some 35) φ H (Z9 E.T (B + 35) 22 1 (evO E φ) [(0, Operand.tmp 34)]) := Z2 rfl (Z6 rfl rfl)
theorem ZQw : stepT E C B 42 Zv Zmh (φ, H) = stpT (some 36) φ H (Z3 E.T (B + 36) .append #[22, 22] [(fget φ 33), (fget φ 35)]) := Z2 rfl (Z6 rfl rfl)
theorem ZKa : stepT E C B 42 Zv Zfq (φ, H) = some ((fput φ 37 (fget φ 1), H), ⟨false, [], []⟩) := Z2 rfl (Z7 rfl rfl)
theorem ZIe : stepT E C B 42 Zv Zhl (φ, H) = some ((fput φ 38 (fget φ 9), H), ⟨false, [], []⟩) := Z2 rfl (Z7 rfl rfl)
theorem ZNy : stepT E C B 42 Zv Zib (φ, H) = stpT (some 39) φ H (just (aBin E.T .sub 3 (fget φ 37) (fget φ 38))) := Z2 rfl (Z6 rfl rfl)
theorem ZO3 : stepT E C B 42 Zv ZfF (φ, H) = some ((fput φ 40 (fget φ 9), H), ⟨false, [], []⟩) := Z2 rfl (Z7 rfl rfl)
theorem ZMB : stepT E C B 42 Zv ZgP (φ, H) = callVT E C (B + 42 * 8) (some 41) (fun j => B + j * 42 + 41) φ H (fget φ 27) [(fget φ 36), (fget φ 39), (fget φ 40)] true := Z2 rfl (Zk6 rfl rfl)
theorem ZYR : execA E C (fg 105) B 42 E0 N Zdm s = blockX 1 (fun s => (forget s.1 [], s.2)) (execA E C (fg 105) B 42 E0 N Ze9 s) := Zi (by rfl) (by rfl) s
def Zdz := kR Z85
def Z3p := kO Zdz
def ZtW := opN Z3p 0
def ZpL := opN Z3p 1
def ZnL := opN Z3p 2
theorem ZZT : XG 105 42 Zdz Z3p [25, 26] := Z1 (by rfl) (by rfl) _
theorem ZPY : Z3p.toList = [ZtW, ZpL, ZnL] := nf
theorem ZRS : stepA E C B 42 Z3p ZtW (φ, H) = some (fput φ 25 (fget φ 9), H) := nf
theorem ZUi : stepA E C B 42 Z3p ZpL (φ, H) = stp (some 26) φ H (just (aBin E.T .sub 3 (fget φ 25) (.int .i64 1))) := nf
theorem ZTn : stepA E C B 42 Z3p ZnL (φ, H) = some (fput φ 9 (fget φ 26), H) := nf
theorem Z00L : XQ 105 42 Z85 Zdm Zdz := Z0 (by rfl) _
theorem Z020 : XQ 105 42 Z1y Z8n Z85 := Z0 (by rfl) _
theorem Z0cn : execA E C (fg 105) B 42 E0 N ZdL s = iterA (execA E C (fg 105) B 42 E0 N Z1y) (headA E0) N s := Z08 (by rfl) s
theorem ZXU : execA E C (fg 105) B 42 E0 N ZdV s = blockX 0 (fun s => (forget s.1 [0, 1, 5, 9, 24], s.2)) (execA E C (fg 105) B 42 E0 N ZdL s) := Zi (by rfl) (by rfl) s
theorem Z03p : XQ 105 42 Z73 Zee ZdV := Z0 (by rfl) _
theorem Z0gQ : XQ 105 42 Z5Y Z9Z Z73 := Z0 (by rfl) _
theorem Z0kv : fInfo E 105 = some ⟨42, #[], Z5Y⟩ := nf
theorem Z0p1 (args : List AV) : bodyA E C fg N 105 args H B = bodyX E [] (execA E C (fg 105) B 42 H N Z5Y (Z5 args 0 [], H)) := Zp Z0kv args H
abbrev Z12 := And.intro (And.intro (And.intro (And.intro (And.intro (And.intro @Z0hb @ZQY) (And.intro @ZTa @ZSE)) (And.intro (And.intro @ZSz @ZRA) (And.intro @Z0dX @ZRw))) (And.intro (And.intro (And.intro @ZWo @ZRB) (And.intro @Z0gZ @ZPI)) (And.intro (And.intro @ZSJ @ZPD) (And.intro @ZRj (And.intro @ZWt @ZWm))))) (And.intro (And.intro (And.intro (And.intro @Z0gw @Z0hq) (And.intro @Z0d0 @ZYB)) (And.intro (And.intro @Z0dY @Z04O) (And.intro @Z0hr (And.intro @Z0d8 @Z02P)))) (And.intro (And.intro (And.intro @ZQX @ZTr) (And.intro @ZSw @ZRv)) (And.intro (And.intro @ZQO @Z07U) (And.intro @ZVf (And.intro @ZWD @ZV9)))))) (And.intro (And.intro (And.intro (And.intro (And.intro @Z0cq @Z02e) (And.intro @Z02j @Z04I)) (And.intro (And.intro @Z069 @ZTf) (And.intro @ZHI (And.intro @ZHo @ZPz)))) (And.intro (And.intro (And.intro @ZV3 @ZT4) (And.intro @ZPE @ZQr)) (And.intro (And.intro @ZVD @ZRJ) (And.intro @ZVC (And.intro @ZR5 @ZQw))))) (And.intro (And.intro (And.intro (And.intro @ZKa @ZIe) (And.intro @ZNy @ZO3)) (And.intro (And.intro @ZMB @ZYR) (And.intro @ZZT (And.intro @ZPY @ZRS)))) (And.intro (And.intro (And.intro @ZUi @ZTn) (And.intro @Z00L @Z020)) (And.intro (And.intro @Z0cn @ZXU) (And.intro @Z03p (And.intro @Z0gQ @Z0p1))))))
end Go.AM.Ytfmnoohhhokicaa
end
noncomputable section
namespace Go.AM.Ytfmnoohhhokicaa
open Go Go.AM Go.AM.Rub
def chE (l : List Int) (i : Nat) : Int := if rowF l i < 0 ∨ rowF l i > 8 then 1 else if 0 < i ∧ rowF l i > rowF l (i - 1) then 7 else 0
def chkR (l : List Int) : Int := if l.length = 0 then 4 else if l.length > 6 then 3 else fe (chE l) 0 l.length
theorem Z1e {l : List Int} : chkR l = 0 ↔ 0 < l.length ∧ l.length ≤ 6 ∧ Rw l.length l := by
 unfold chkR
 split
 · rename_i h; exact ⟨fun e => absurd e (by decide), fun e => by omega⟩
 · split
   · rename_i h; exact ⟨fun e => absurd e (by decide), fun e => by omega⟩
   · rename_i h1 h2
     rw [Z2F]
     constructor
     · intro h
       have h0 : ∀ i, i < l.length → 0 ≤ rowF l i ∧ rowF l i ≤ 8 ∧ (0 < i → rowF l i ≤ rowF l (i - 1)) := by
         intro i hi
         have := h i (by omega) (by omega)
         unfold chE at this
         split at this
         · exact absurd this (by decide)
         · split at this
           · exact absurd this (by decide)
           · rename_i a b
             exact ⟨by omega, by omega, fun hp => Int.not_lt.1 fun hh => b ⟨hp, hh⟩⟩
       refine ⟨by omega, by omega, rfl, Z91 (fun i hi => (h0 i hi).1) (fun hp => (h0 0 hp).2.1) fun i hi => ?_⟩
       have := (h0 (i + 1) hi).2.2 (by omega)
       simpa using this
     · rintro ⟨_, _, hr⟩ i _ hi
       have hb := rw_b hr (k := i) (by omega)
       unfold chE
       rw [if_neg (by omega), if_neg]
       rintro ⟨hp, hlt⟩
       have := Z1i hr.row (i - 1) (by omega)
       rw [show i - 1 + 1 = i by omega] at this
       omega
abbrev chS (l : List Int) (ex : Bool) (i : Nat) : St := ([(15, .int .i64 i), (14, .int .i64 l.length), (13, .imm (ics l) l.length ex), (0, .imm (ics l) l.length ex)], [])
theorem Z0mt {C : Callee} {l : List Int} {ex : Bool} (h6 : l.length ≤ 6) (i : Nat) (hi : i < l.length) (he : chE l i = 0) :
   ∃ s', (execA E C (fg 25) 0 40 [] 1000000 Z3Q) (chS l ex i) = some (.normal, s') ∧ headA [] s' = chS l ex (i + 1) := by
 have hlen := Za l
 have hat := Z01 hi
 have hat1 := Z01 (l := l) (k := i - 1) (by omega)
 have g1 : (i : Int) < l.length := by omega
 unfold chE at he
 split at he
 · exact absurd he (by decide)
 · split at he
   · exact absurd he (by decide)
   · rename_i a b
     have a1 : ¬ rowF l i < 0 := by omega
     have a2 : ¬ rowF l i > 8 := by omega
     rcases Nat.eq_zero_or_pos i with hz | hp
     · subst hz
       simp (disch := omega) only [ZF, ↓gd, stp, opPick, just, Rd.bind, Rd.run, Rd.opt, upds, tsz, rdCells, aLoad, Z4, aNum, aBin, aInt, Nat.reduceLT, Nat.reduceBEq, Nat.reduceEqDiff, Nat.reduceLeDiff, ↓reduceIte, reduceCtorEq, Int.reduceLE, Int.reduceToNat, ZT, F_25, hat, hlen, a1, a2, cl0, if_pos]
       exact ⟨_, rfl, rfl⟩
     · have b1 : ¬ rowF l i > rowF l (i - 1) := fun hh => b ⟨hp, hh⟩
       have g2 : (i : Int) > 0 := by omega
       have w1 : wrp .i64 ((i : Int) - 1) = ((i - 1 : Nat) : Int) := by rw [Zs (by omega)]; omega
       have g3 : ((i - 1 : Nat) : Int) < l.length := by omega
       simp (disch := omega) only [ZF, ↓gd, stp, opPick, just, Rd.bind, Rd.run, Rd.opt, upds, tsz, rdCells, aLoad, Z4, aNum, aBin, aInt, Nat.reduceLT, Nat.reduceBEq, Nat.reduceEqDiff, Nat.reduceLeDiff, ↓reduceIte, reduceCtorEq, ZT, F_25, g1, g2, g3, hat, hat1, hlen, a1, a2, b1, w1, Zx (show i < 1000000 by omega)]
       exact ⟨_, rfl, rfl⟩
theorem Z0dh {C : Callee} {l : List Int} {ex : Bool} (h6 : l.length ≤ 6) (i : Nat) (hi : i < l.length) (he : chE l i ≠ 0) :
   ∃ H, (execA E C (fg 25) 0 40 [] 1000000 Z3Q) (chS l ex i) = some (.ret, ([(2, .int .i64 (chE l i))], H)) := by
 have hlen := Za l
 have hat := Z01 hi
 have hat1 := Z01 (l := l) (k := i - 1) (by omega)
 have g1 : (i : Int) < l.length := by omega
 unfold chE at he ⊢
 by_cases a : rowF l i < 0 ∨ rowF l i > 8
 · rw [if_pos a]
   rcases a with a | a
   · simp (disch := omega) only [ZF, ↓gd, stp, opPick, just, Rd.bind, Rd.run, Rd.opt, upds, tsz, rdCells, aLoad, Z4, aNum, aBin, aInt, Nat.reduceLT, Nat.reduceBEq, Nat.reduceEqDiff, Nat.reduceLeDiff, ↓reduceIte, reduceCtorEq, ZT, F_25, g1, hat, hlen, a]
     exact ⟨_, rfl⟩
   · have a1 : ¬ rowF l i < 0 := by omega
     simp (disch := omega) only [ZF, ↓gd, stp, opPick, just, Rd.bind, Rd.run, Rd.opt, upds, tsz, rdCells, aLoad, Z4, aNum, aBin, aInt, Nat.reduceLT, Nat.reduceBEq, Nat.reduceEqDiff, Nat.reduceLeDiff, ↓reduceIte, reduceCtorEq, ZT, F_25, g1, hat, hlen, a, a1]
     exact ⟨_, rfl⟩
 · rw [if_neg a] at he ⊢
   have a1 : ¬ rowF l i < 0 := by omega
   have a2 : ¬ rowF l i > 8 := by omega
   by_cases b : 0 < i ∧ rowF l i > rowF l (i - 1)
   · rw [if_pos b]
     obtain ⟨hp, b⟩ := b
     have g2 : (i : Int) > 0 := by omega
     have w1 : wrp .i64 ((i : Int) - 1) = ((i - 1 : Nat) : Int) := by rw [Zs (by omega)]; omega
     have g3 : ((i - 1 : Nat) : Int) < l.length := by omega
     simp (disch := omega) only [ZF, ↓gd, stp, opPick, just, Rd.bind, Rd.run, Rd.opt, upds, tsz, rdCells, aLoad, Z4, aNum, aBin, aInt, Nat.reduceLT, Nat.reduceBEq, Nat.reduceEqDiff, Nat.reduceLeDiff, ↓reduceIte, reduceCtorEq, ZT, F_25, g1, g2, g3, hat, hat1, hlen, a1, a2, b, w1]
     exact ⟨_, rfl⟩
   · rw [if_neg b] at he; exact absurd rfl he
theorem ZKk {C : Callee} {l : List Int} {a : AV} (ha : IV l a) (hl : l.length ≤ 1000) : rsOf (bodyA E C fg 1000000 25 [a] [] 0) = some (.int .i64 (chkR l)) := by
 rcases ha with ⟨rfl, rfl⟩ | ⟨ex, rfl⟩
 · simp (disch := omega) only [ZF, Z5, stp, just, Rd.bind, Rd.run, Rd.opt, upds, resA, resL, aLen, Z3, aBin, aInt, Nat.reduceBEq, Nat.reduceEqDiff, Nat.reduceLeDiff, ↓reduceIte, reduceCtorEq, ZT, F_25, chkR]
 · unfold chkR
   by_cases h0 : l.length = 0
   · rw [if_pos h0]
     have g0 : (l.length : Int) = 0 := by omega
     simp (disch := omega) only [ZF, Z5, stp, just, Rd.bind, Rd.run, Rd.opt, upds, resA, resL, aLen, Z3, aBin, aInt, Nat.reduceBEq, Nat.reduceEqDiff, Nat.reduceLeDiff, ↓reduceIte, reduceCtorEq, ZT, F_25, g0]
   · rw [if_neg h0]
     have g0 : ¬ (l.length : Int) = 0 := by omega
     have g0' : ((l.length : Int) == 0) = false := by rw [beq_eq_false_iff_ne]; exact g0
     by_cases h6 : l.length > 6
     · rw [if_pos h6]
       have g1 : (l.length : Int) > 6 := by omega
       simp (disch := omega) only [ZF, Z5, stp, just, Rd.bind, Rd.run, Rd.opt, upds, resA, resL, aLen, Z3, aBin, aInt, Nat.reduceBEq, Nat.reduceEqDiff, Nat.reduceLeDiff, ↓reduceIte, reduceCtorEq, ZT, F_25, g0', g1]
     · rw [if_neg h6]
       have g1 : ¬ (l.length : Int) > 6 := by omega
       have hlen := Za l
       have hloop := loopE (f := (execA E C (fg 25) 0 40 [] 1000000 Z3Q)) (e := chE l) (R := fun e H => ([(2, .int .i64 e)], H)) (chS l ex) l.length (E0 := []) rfl (by omega) (x := .exit 1) (se := ([(16, .bool false), (15, .int .i64 l.length), (14, .int .i64 l.length), (13, .imm (ics l) l.length ex), (0, .imm (ics l) l.length ex)], [])) (by simp)
         (fun i hi _ he => Z0mt (by omega) i hi he) (fun i hi _ he => Z0dh (by omega) i hi he) (fun _ => by simp (disch := omega) only [ZF, stp, just, Rd.bind, Rd.run, Rd.opt, upds, aBin, aInt, Nat.reduceEqDiff, Nat.reduceLeDiff, ↓reduceIte, F_25, chS])
       simp only [chS, cl0] at hloop
       rcases hloop with ⟨hz, hloop⟩ | ⟨hz, H, hloop⟩
       · rw [hz]
         simp (disch := omega) only [ZF, Z5, stp, just, Rd.bind, Rd.run, Rd.opt, upds, resA, resL, aLen, Z3, aBin, aInt, Nat.reduceBEq, Nat.reduceEqDiff, Nat.reduceLeDiff, ↓reduceIte, reduceCtorEq, ZT, F_25, g0', g1, hloop]
       · simp (disch := omega) only [ZF, Z5, stp, just, Rd.bind, Rd.run, Rd.opt, upds, resA, resL, aLen, Z3, aBin, aInt, Nat.reduceBEq, Nat.reduceEqDiff, Nat.reduceLeDiff, ↓reduceIte, reduceCtorEq, ZT, F_25, g0', g1, hloop]
theorem Z3w {d : Nat} {site : Nat → Nat} {seen : List Nat} {l : List Int} {a : AV} (ha : IV l a) (hl : l.length ≤ 1000) : aBack site true seen (thaw (kF (d + 1)) 25 [a] [] 0) = .pure (.int .i64 (chkR l), []) :=
 Z10 (Z0P rfl (ZKk ha hl))
end Go.AM.Ytfmnoohhhokicaa
end
noncomputable section
namespace Go.AM.Ytfmnoohhhokicaa
open Go Go.AM Go.AM.Rub
def riP (l : List Int) (i : Nat) : List Int := (List.range (i + 1)).map (ps (rowF l))
def riL (l : List Int) : List Int := riP l l.length
theorem Z1c (l : List Int) (i : Nat) : (riP l i).length = i + 1 := by simp [riP]
theorem ZQh (l : List Int) (i : Nat) : riP l (i + 1) = riP l i ++ [ps (rowF l) i + rowF l i] := by simp [riP, List.range_succ, ps]
theorem Z3T {l : List Int} {i k : Nat} (h : k ≤ i) : (riP l i)[k]? = some (ps (rowF l) k) := by
 simp only [riP, List.getElem?_map]
 rw [List.getElem?_range (by omega)]; rfl
theorem Z2q {l : List Int} {k : Nat} (h : k ≤ l.length) : rowF (riL l) k = ps (rowF l) k := by
 have := Z3T (l := l) h
 show (riP l l.length).getD k 0 = _
 rw [List.getD_eq_getElem?_getD, this]; rfl
theorem ps_b {n : Nat} {l : List Int} (h : Rw n l) : ∀ k, k ≤ n → 0 ≤ ps (rowF l) k ∧ ps (rowF l) k ≤ 8 * k
 | 0, _ => by simp [ps]
 | k + 1, hk => by
   have := ps_b h k (by omega)
   have := rw_b h (k := k) (by omega)
   simp only [ps]; omega
abbrev riS (l : List Int) (ex : Bool) (i : Nat) : St := ([(9, .int .i64 i), (8, .int .i64 l.length), (7, .imm (ics l) l.length ex), (3, .ref 6 0 (i + 1) (i + 1) (i + 1) 1 false)], [(6, ⟨.row, ics (riP l i)⟩)])
theorem Z0n7 {C : Callee} {n : Nat} {l : List Int} {ex : Bool} (h : Rw n l) (hn : n ≤ 8) (i : Nat) (hi : i < l.length) :
   ∃ s', (execA E C (fg 79) 0 25 [] 1000000 Z5t) (riS l ex i) = some (.normal, s') ∧ headA [] s' = riS l ex (i + 1) := by
 have hln := h.len
 have hlen := Za l
 have hat := Z01 hi
 have hrl : (ics (riP l i)).length = i + 1 := by rw [Za, Z1c]
 have hra := Z1Y (Z3T (l := l) (i := i) (Nat.le_refl i))
 have hsn := Z2e (riP l i) (ps (rowF l) i + rowF l i)
 have htk : List.take (i + 1) (ics (riP l i)) = ics (riP l i) := List.take_of_length_le (by omega)
 have b1 := ps_b h i (by omega)
 have b2 := rw_b h (k := i) (by omega)
 have g1 : (i : Int) < l.length := by omega
 have g2 : (i : Int) < ((i + 1 : Nat) : Int) := by omega
 have w1 : wrp .i64 (ps (rowF l) i + rowF l i) = ps (rowF l) i + rowF l i := Zs (by omega)
 have hno : ¬ i + 1 + 1 ≤ i + 1 := by omega
 simp only [riS, ZQh]
 rw [← hsn]
 generalize ics (riP l i) = L at *
 generalize ps (rowF l) i = p at *
 simp (disch := omega) only [ZF, stp, just, Rd.bind, Rd.run, Rd.opt, upds, acells, zeroCells, tsz, elemT, rdCells, aLoad, fresh, Z4, aNum, Z3, aBin, aInt, putC, evO, Nat.reduceAdd, Nat.reduceLT, Nat.reduceBEq, Nat.reduceEqDiff, Nat.reduceLeDiff, ↓reduceIte, reduceCtorEq, Z9, Zk, partsOf, fillA, repC, Zm, aAppend, srcOf, window, snaps, ZT, F_79, g1, g2, hat, hlen, hrl, hra, htk, w1, hno, Z0M (show i + 1 + 1 ≤ 1000000 by omega), Zx (show i < 1000000 by omega)]
 exact ⟨_, rfl, rfl⟩
theorem ZIz {C : Callee} {n : Nat} {l : List Int} {a : AV} (ha : IV l a) (h : Rw n l) (hn : n ≤ 8) :
   ∃ H, bodyA E C fg 1000000 79 [a] [] 0 = some (.ref 6 0 (l.length + 1) (l.length + 1) (l.length + 1) 1 false, H) ∧ hget H 6 = some ⟨.row, ics (riL l)⟩ := by
 rcases ha with ⟨rfl, rfl⟩ | ⟨ex, rfl⟩
 · have hloop := Z4W (f := (execA E C (fg 79) 0 25 [] 1000000 Z5t)) (E0 := []) (s0 := ([(9, .int .i64 0), (8, .int .i64 0), (7, .nilsl), (3, .ref 6 0 1 1 1 1 false)], [(6, ⟨.row, [.int .i64 0]⟩)])) rfl (e := .exit 0) (se := ([(10, .bool false), (9, .int .i64 0), (8, .int .i64 0), (7, .nilsl), (3, .ref 6 0 1 1 1 1 false)], [(6, ⟨.row, [.int .i64 0]⟩)]))
     (by simp (disch := omega) only [ZF, stp, just, Rd.bind, Rd.run, Rd.opt, upds, aBin, aInt, Nat.reduceEqDiff, Nat.reduceLeDiff, ↓reduceIte, F_79]) (by simp)
   simp (disch := omega) only [ZF, Z5, stp, just, Rd.bind, Rd.run, upds, acells, zeroCells, tsz, elemT, resA, resL, fresh, aLen, Z3, putC, evO, ofV, ofV1, Nat.reduceAdd, Nat.reduceLT, Nat.reduceBEq, Nat.reduceEqDiff, Nat.reduceLeDiff, ↓reduceIte, reduceCtorEq, Z9, Zk, partsOf, fillA, repC, snaps, ZT, F_79, hloop]
   exact ⟨_, rfl, rfl⟩
 · have hln := h.len
   have hlen := Za l
   have hloop := loopM (f := (execA E C (fg 79) 0 25 [] 1000000 Z5t)) (E0 := []) (riS l ex) l.length (fun i hi => Z0n7 h hn i hi) rfl (by omega)
     (e := .exit 0) (se := ([(10, .bool false), (9, .int .i64 l.length), (8, .int .i64 l.length), (7, .imm (ics l) l.length ex), (3, .ref 6 0 (l.length + 1) (l.length + 1) (l.length + 1) 1 false)], [(6, ⟨.row, ics (riL l)⟩)]))
     (by simp (disch := omega) only [ZF, stp, just, Rd.bind, Rd.run, Rd.opt, upds, aBin, aInt, Nat.reduceEqDiff, Nat.reduceLeDiff, ↓reduceIte, F_79, riS, riL]) (by simp)
   have e0 : ics (riP l 0) = [.int .i64 0] := rfl
   simp only [riS, e0, cl0, Nat.zero_add] at hloop
   simp (disch := omega) only [ZF, Z5, stp, just, Rd.bind, Rd.run, upds, acells, zeroCells, tsz, elemT, resA, resL, fresh, aLen, Z3, putC, evO, ofV, ofV1, Nat.reduceAdd, Nat.reduceLT, Nat.reduceBEq, Nat.reduceEqDiff, Nat.reduceLeDiff, ↓reduceIte, reduceCtorEq, Z9, Zk, partsOf, fillA, repC, snaps, ZT, F_79, hloop]
   exact ⟨_, rfl, rfl⟩
theorem Z1d (l : List Int) : (ics (riL l)).length = l.length + 1 := by rw [Za]; exact Z1c _ _
theorem Z5y {d : Nat} {site : Nat → Nat} {seen : List Nat} {n : Nat} {l : List Int} {a : AV} (ha : IV l a) (h : Rw n l) (hn : n ≤ 8) : aBack site true seen (thaw (kF (d + 1)) 79 [a] [] 0) =
   Z0t (site 0) seen (fun k => .ref k 0 (l.length + 1) (l.length + 1) (l.length + 1) 1 false) ⟨.row, ics (riL l)⟩ := by
 obtain ⟨H, h1, h2⟩ := ZIz (C := kF d) ha h hn
 exact Z2u (by rw [Z15 rfl]; exact h1) h2 (Z1d l)
end Go.AM.Ytfmnoohhhokicaa
end
noncomputable section
namespace Go.AM.Ytfmnoohhhokicaa
open Go Go.AM Go.AM.Rub
theorem Z08F {C : Callee} {a b : Int} (h : -1000000 ≤ b - a ∧ b - a ≤ 1000000) : rsOf (bodyA E C fg 1000000 109 [.int .i64 a, .int .i64 b] [] 0) = some (.int .i64 (b - a)) := by
 have w1 : wrp .i64 (b - a) = b - a := Zs (by omega)
 simp (disch := omega) only [ZF, Z5, stp, just, Rd.bind, Rd.run, Rd.opt, upds, resA, resL, aBin, aInt, Nat.reduceBEq, Nat.reduceEqDiff, Nat.reduceLeDiff, ↓reduceIte, reduceCtorEq, Z0ns, w1]
theorem ZRO {d : Nat} {site : Nat → Nat} {seen : List Nat} {a b : Int} (h : -1000000 ≤ b - a ∧ b - a ≤ 1000000) : aBack site true seen (thaw (kF (d + 1)) 109 [.int .i64 a, .int .i64 b] [] 0) = .pure (.int .i64 (b - a), []) :=
 Z10 (Z0P rfl (Z08F h))
theorem ZoH (caps args : List AV) : mutV E (.clo 109 caps) args = none := rfl
abbrev stH (l : List Int) : AHeap := [(0, ⟨.row, ics l⟩)]
theorem Z3I {l l0 : List Int} {φ : AFr} : headA (stH l0) (φ, stH l) = (φ, stH l) := Z5z (by simp [stH, Zw])
def BdI (l : List Int) : Prop := ∀ k, k < l.length → -100000 ≤ rowF l k ∧ rowF l k ≤ 100000
theorem ZlX {l : List Int} {a k : Nat} {x : Int} (hk : k < l.length) : rowF (l.set a x) k = if a = k then x else rowF l k := by
 simp only [rowF, List.getD_eq_getElem?_getD, List.getElem?_set]
 split
 · rename_i h; subst h; rw [if_pos hk]; rfl
 · rfl
theorem ZMX {l : List Int} (h : BdI l) {j : Nat} (hj : j + 1 < l.length) : BdI (swpI l j) := by
 intro k hk
 rw [Z2X] at hk
 have a := h j (by omega)
 have b := h (j + 1) hj
 have c := h k hk
 have e : rowF (swpI l j) k = if j = k then rowF l (j + 1) else if j + 1 = k then rowF l j else rowF l k := by
   unfold swpI
   rw [ZlX (by rw [List.length_set]; exact hk), ZlX hk]; rfl
 rw [e]
 split
 · exact b
 · split
   · exact a
   · exact c
abbrev inS (n i j : Nat) (l : List Int) : St := ([(9, .int .i64 j), (8, .int .i64 i), (3, .clo 109 []), (2, .int .i64 n), (1, .int .i64 0), (0, .ref 0 0 n n n 1 false)], stH l)
theorem Zpj {d B : Nat} {l0 : List Int} {i n : Nat} (h9 : n ≤ 12) : ∀ (j F : Nat) (l : List Int), l.length = n → j < n → BdI l → j < F →
   ∃ j', iterA (execA E (kF (d + 1)) (fg 133) B 53 (stH l0) 1000000 Z52) (headA (stH l0)) F (inS n i j l) = some (.exit 2, ([(34, .bool false), (9, .int .i64 j'), (8, .int .i64 i), (3, .clo 109 []), (2, .int .i64 n), (1, .int .i64 0), (0, .ref 0 0 n n n 1 false)], stH (insI l j)))
 | j, 0, _, _, _, _, hF => by omega
 | 0, F + 1, l, hl, _, _, _ => by
   refine ⟨(0 : Nat), ?_⟩
   rw [Z0F, Z3I]
   generalize kF (d + 1) = C
   simp (disch := omega) only [ZF, opPick, just, Rd.bind, Rd.run, Rd.opt, upds, aBin, aInt, Nat.reduceAdd, Nat.reduceBEq, Nat.reduceEqDiff, Nat.reduceLeDiff, ↓reduceIte, stpT, ↓gdT, Rd.foot, writing, Zb, Tr.empty, Zc, Z6U, insI, cl0]
 | j + 1, F + 1, l, hl, hj, hb, hF => by
   have hlen : (ics l).length = n := by rw [Za, hl]
   have a1 := Z01 (l := l) (k := j) (by omega)
   have a2 := Z01 (l := l) (k := j + 1) (by omega)
   have b1 := hb j (by omega)
   have b2 := hb (j + 1) (by omega)
   have g1 : ((j + 1 : Nat) : Int) > 0 := by omega
   have g2 : ((j + 1 : Nat) : Int) < n := by omega
   have g3 : (j : Int) < n := by omega
   have w : wrp .i64 (((j + 1 : Nat) : Int) - 1) = (j : Int) := by rw [Zs (by omega)]; omega
   have cc := fun (site : Nat → Nat) seen => ZRO (d := d) (site := site) (seen := seen) (a := rowF l (j + 1)) (b := rowF l j) (by omega)
   simp only [insI]
   by_cases hc : l.getD (j + 1) 0 > l.getD j 0
   · rw [if_pos hc]
     obtain ⟨j', hih⟩ := Zpj (d := d) (B := B) (l0 := l0) (i := i) h9 j F (swpI l j) (by rw [Z2X]; exact hl) (by omega) (ZMX hb (by omega)) (by omega)
     refine ⟨j', ?_⟩
     rw [← hih, Z0F, Z3I]
     simp only [inS, stH]
     have hneg : rowF l j - rowF l (j + 1) < 0 := by unfold rowF; omega
     have e1 := Z8l l (j + 1) (rowF l j)
     have e2 := Z8l (l.set (j + 1) (rowF l j)) j (rowF l (j + 1))
     have e3 : (l.set (j + 1) (rowF l j)).set j (rowF l (j + 1)) = swpI l j := rfl
     rw [e3] at e2
     have l1 : (ics (l.set (j + 1) (rowF l j))).length = n := by rw [Za, List.length_set, hl]
     generalize ics (swpI l j) = R at *
     generalize ics (l.set (j + 1) (rowF l j)) = M at *
     generalize kF (d + 1) = C at *
     simp (disch := omega) only [ZF, stp, opPick, just, Rd.bind, Rd.run, Rd.opt, upds, acells, tsz, rdCells, aLoad, aStore, opStore, Z4, aNum, aBin, aInt, putC, Nat.reduceAdd, Nat.reduceMul, Nat.reduceLT, Nat.reduceBEq, Nat.reduceEqDiff, Nat.reduceLeDiff, ↓reduceIte, reduceCtorEq, stpT, ↓gdT, Rd.foot, writing, Zb, Tr.empty, Zc, apartT, disj, aCall, snaps, opCallV, ZT, Z6U, ZeY (ZoH _ _), Zrt, hlen, l1, a1, a2, g1, g2, g3, w, cc, hneg, e1, e2, if_pos]
   · rw [if_neg hc]
     refine ⟨((j + 1 : Nat)), ?_⟩
     have hneg : ¬ rowF l j - rowF l (j + 1) < 0 := by unfold rowF; omega
     rw [Z0F, Z3I]
     generalize kF (d + 1) = C at *
     simp (disch := omega) only [ZF, opPick, just, Rd.bind, Rd.run, Rd.opt, upds, tsz, rdCells, aLoad, Z4, aNum, aBin, aInt, Nat.reduceAdd, Nat.reduceMul, Nat.reduceLT, Nat.reduceBEq, Nat.reduceEqDiff, Nat.reduceLeDiff, ↓reduceIte, reduceCtorEq, stpT, ↓gdT, Rd.foot, writing, Zb, Tr.empty, Zc, apartT, disj, aCall, snaps, opCallV, ZT, Z6U, ZeY (ZoH _ _), Zrt, hlen, a1, a2, g1, g2, g3, w, cc, hneg]
theorem ZNZ {l : List Int} (_ : BdI l) : ∀ (j : Nat) (l : List Int), j < l.length → BdI l → BdI (insI l j)
 | 0, l, _, h => h
 | j + 1, l, hj, h => by
   simp only [insI]
   split
   · exact ZNZ h j (swpI l j) (by rw [Z2X]; omega) (ZMX h hj)
   · exact h
theorem ZHV {l : List Int} (h : BdI l) : ∀ i, i < l.length → BdI (srtN l i)
 | 0, _ => h
 | i + 1, hi => ZNZ h (i + 1) _ (by rw [Z2U]; exact hi) (ZHV h i (by omega))
abbrev ouS (n i : Nat) (l : List Int) : St := ([(8, .int .i64 i), (3, .clo 109 []), (2, .int .i64 n), (1, .int .i64 0), (0, .ref 0 0 n n n 1 false)], stH l)
theorem Z06R {d B : Nat} {l : List Int} {n : Nat} (hl : l.length = n) (h0 : 0 < n) (h9 : n ≤ 12) (hb : BdI l) :
   kF (d + 2) 133 [.ref 0 0 n n n 1 false, .int .i64 0, .int .i64 n, .clo 109 []] (stH l) B = some (.tup [], stH (srtI l)) := by
 rw [Z15 rfl]
 have hloop := loopM (f := execA E (kF (d + 1)) (fg 133) B 53 (stH l) 1000000 Z6d) (E0 := stH l) (fun k => ouS n (k + 1) (srtN l k)) (n - 1) (fun k hk => by
     obtain ⟨j', hin⟩ := Zpj (d := d) (B := B) (l0 := l) (i := k + 1) h9 (k + 1) 1000000 (srtN l k) (by rw [Z2U, hl]) (by omega) (ZHV hb k (by omega)) (by omega)
     have g1 : ((k + 1 : Nat) : Int) < n := by omega
     simp only [inS] at hin
     have e : srtN l (k + 1) = insI (srtN l k) (k + 1) := rfl
     simp only [ouS, e]
     generalize kF (d + 1) = C at *
     simp (disch := omega) only [ZF, stp, just, Rd.bind, Rd.run, Rd.opt, upds, aBin, aInt, Nat.reduceBEq, Nat.reduceEqDiff, Nat.reduceLeDiff, ↓reduceIte, Z6U, g1, hin, Zx (show k + 1 < 1000000 by omega)]
     exact ⟨_, rfl, Z3I⟩) Z3I (by omega)
   (e := .exit 0) (se := ([(14, .bool false), (8, .int .i64 n), (3, .clo 109 []), (2, .int .i64 n), (1, .int .i64 0), (0, .ref 0 0 n n n 1 false)], stH (srtI l)))
   (by
     have e : srtN l (n - 1) = srtI l := by rw [← hl]; rfl
     simp only [ouS, e, show n - 1 + 1 = n by omega]
     generalize kF (d + 1) = C at *
     simp (disch := omega) only [ZF, stp, just, Rd.bind, Rd.run, Rd.opt, upds, aBin, aInt, Nat.reduceBEq, Nat.reduceEqDiff, Nat.reduceLeDiff, ↓reduceIte, Z6U]) (by simp)
 have z1 : ((0 + 1 : Nat) : Int) = 1 := rfl
 have e0 : srtN l 0 = l := rfl
 simp only [ouS, z1, e0] at hloop
 have w : wrp .i64 (0 + 1) = 1 := by decide
 generalize kF (d + 1) = C at *
 simp (disch := omega) only [ZF, Z5, stp, just, Rd.bind, Rd.run, Rd.opt, upds, resA, resL, aBin, aInt, Nat.reduceAdd, Nat.reduceBEq, Nat.reduceEqDiff, Nat.reduceLeDiff, ↓reduceIte, Z6U, w, hloop]
theorem ZZ3 {d B : Nat} {l : List Int} {n : Nat} {m : Int} (hl : l.length = n) (h0 : 0 < n) (h9 : n ≤ 12) (hb : BdI l) :
   kF (d + 3) 121 [.ref 0 0 n n n 1 false, .int .i64 0, .int .i64 n, .int .i64 m, .clo 109 []] (stH l) B = some (.tup [], stH (srtI l)) := by
 rw [Z15 rfl]
 have hi := fun B => Z06R (d := d) (B := B) hl h0 h9 hb
 have w1 : wrp .i64 ((n : Int) - 0) = n := Zs (by omega)
 have g : (n : Int) ≤ 12 := by omega
 simp only [stH] at hi
 generalize kF (d + 2) = C at *
 have hh := Z3I (l := l) (l0 := l) (φ := [(11, .bool true), (10, .bool true), (4, .clo 109 []), (3, .int .i64 m), (2, .int .i64 n), (1, .int .i64 0), (0, .ref 0 0 n n n 1 false)])
 simp only [stH] at hh
 simp (disch := omega) only [ZF, Z5, stp, just, Rd.bind, Rd.run, Rd.opt, upds, resA, resL, aBin, aInt, Nat.reduceAdd, Nat.reduceMul, Nat.reduceBEq, Nat.reduceEqDiff, Nat.reduceLeDiff, ↓reduceIte, reduceCtorEq, mutX, Z0l8, Z0F, hh, hi, w1, g]
theorem ZqW (d : Nat) : ([1, 2, 3, 4, 5, 6].all fun n => match kF (d + 4) 111 [.int .u64 n] [] 0 with | some (.int .i64 _, _) => true | _ => false) = true := by kernel_rfl
theorem ZP9 (d : Nat) {n : Nat} (h0 : 0 < n) (h6 : n ≤ 6) : ∃ m, ∀ (site : Nat → Nat) seen, aBack site true seen (thaw (kF (d + 4)) 111 [.int .u64 (n : Int)] [] 0) = .pure (.int .i64 m, []) := by
 have := List.all_eq_true.1 (ZqW d) (n : Int) (by
   have : n = 1 ∨ n = 2 ∨ n = 3 ∨ n = 4 ∨ n = 5 ∨ n = 6 := by omega
   rcases this with rfl | rfl | rfl | rfl | rfl | rfl <;> simp)
 split at this
 · rename_i m H h
   exact ⟨m, fun site seen => Z10 ⟨H, h⟩⟩
 · exact absurd this (by simp)
theorem ZWd {d B : Nat} {l : List Int} {n : Nat} (hl : l.length = n) (h0 : 0 < n) (h6 : n ≤ 6) (hb : BdI l) :
   kF (d + 5) 108 [.ref 0 0 n n n 1 false, .clo 109 []] (stH l) B = some (.tup [], stH (srtI l)) := by
 rw [Z15 rfl]
 obtain ⟨m, hL⟩ := ZP9 d h0 h6
 have hi := fun B => ZZ3 (d := d + 1) (B := B) (m := m) hl h0 (by omega) hb
 have w1 : wrp .u64 (n : Int) = n := ZNS (by simp only [kLo]; omega) (by simp only [kHi]; omega)
 have hlen : (ics l).length = n := by rw [Za, hl]
 simp only [stH] at hi
 generalize kF (d + 4) = C at *
 simp (disch := omega) only [ZF, Z5, stp, justO, just, Rd.bind, Rd.run, upds, resA, resL, aLen, Z3, Nat.reduceMul, Nat.reduceBEq, Nat.reduceEqDiff, Nat.reduceLeDiff, ↓reduceIte, reduceCtorEq, mutX, aCall, snaps, aConv, ZT, Z0o3, w1, hL, hi, hlen]
theorem ZGq {d : Nat} {l : List Int} {n : Nat} (hl : l.length = n) (h0 : 0 < n) (h6 : n ≤ 6) (hb : BdI l) :
   pF (d + 6) 67 [.ref 0 0 n n n 1 false] (stH l) 64 = some (.tup [], stH (srtI l)) := by
 rw [pF_s]
 have hi := fun B => ZWd (d := d) (B := B) hl h0 h6 hb
 simp only [stH] at hi
 generalize kF (d + 5) = C at *
 simp (disch := omega) only [ZF, Z5, resA, resL, Nat.reduceAdd, Nat.reduceMul, Nat.reduceBEq, Nat.reduceEqDiff, Nat.reduceLeDiff, ↓reduceIte, reduceCtorEq, mutX, F_67, hi]
theorem Z8y {d B k : Nat} {l : List Int} {n : Nat} {H : AHeap} (hl : l.length = n) (h0 : 0 < n) (h6 : n ≤ 6) (hb : BdI l) (hH : hget H k = some ⟨.row, ics l⟩) :
   kF (d + 6) 67 [.ref k 0 n n n 1 false] H B = some (.tup [], hset H k ⟨.row, ics (srtI l)⟩) := by
 rw [Z1k rfl]
 have hr := ZGq (d := d) hl h0 h6 hb
 have hm : (mark H 1000 (refsL [.ref k 0 n n n 1 false]) []).reverse = [k] := by
   simp only [refsL, refsOf, List.append_nil, mark, hH, List.contains_nil, Bool.false_eq_true, if_false, List.reverse_cons, List.reverse_nil, List.nil_append]
 have hlen : (ics l).length = n := by rw [Za, hl]
 have hlen2 : (ics (srtI l)).length = n := by rw [Za]; show (srtN l _).length = n; rw [Z2U, hl]
 rw [hm]
 simp only [stH] at hr
 have h2 : newsF [(0, ⟨.row, ics (srtI l)⟩)] (.tup []) 1 = [] := rfl
 simp only [focus, AM.apart, List.elem_nil, Bool.not_false, Bool.and_self, if_true, renL, ren, posF, foc, hH, renB, hr, backF, List.length_cons, List.length_nil, Nat.zero_add, h2, baseF, freeL, outF, Nat.lt_one_iff, List.getElem?_cons_zero, List.range_one, List.append_nil, unf, Z4Q, goodB, BS.open_]
 rfl
end Go.AM.Ytfmnoohhhokicaa
end
noncomputable section
namespace Go.AM
theorem ZJa : ∀ {H : AHeap} {k : Nat} {b : Blk}, (k, b) ∈ H → (hget H k).isSome = true
 | (j, c) :: t, k, b, h => by
   rw [Z4Q]
   cases hj : Nat.beq j k with
   | true => rfl
   | false =>
     rcases List.mem_cons.1 h with e | h
     · injection e with e1 e2; subst e1; rw [Nat.beq_refl] at hj; exact absurd hj (by simp)
     · exact ZJa h
theorem loopE {E0 : AHeap} {f : St → XR} (st : Nat → St) (n : Nat) (h : ∀ i, i < n → ∃ s', f (st i) = some (.normal, s') ∧ headA E0 s' = st (i + 1)) (h0 : headA E0 (st 0) = st 0) (hn : n < 1000) {e : Ex} {se : St} (he : f (st n) = some (e, se)) (hne : e ≠ .normal) :
   iterA f (headA E0) 1000 (st 0) = some (e, se) :=
 Z5p st n 1000 0 (st 0) h0 hn (fun i _ hi => h i (by omega)) (by rw [Nat.zero_add]; exact he) hne
end Go.AM
end
noncomputable section
namespace Go.AM
noncomputable section
variable {k : Nat} {c : List AV} {T : AHeap}
theorem Z43 (hc : refsL c = []) : ∀ (n : Nat) (todo seen : List Nat), mark ((k, ⟨.box, c⟩) :: T) n todo seen = mark ((k, ⟨.box, []⟩) :: T) n todo seen
 | 0, _, _ => rfl
 | n + 1, [], _ => rfl
 | n + 1, i :: todo, seen => by
   simp only [mark, Zw]
   by_cases hs : seen.contains i = true
   · rw [if_pos hs, if_pos hs]; exact Z43 hc n todo seen
   · rw [if_neg hs, if_neg hs]
     by_cases e : k = i
     · rw [if_pos e, if_pos e]
       simp only [hc]
       exact Z43 hc n _ _
     · rw [if_neg e, if_neg e]
       cases hget T i with
       | none => exact Z43 hc n _ _
       | some b =>
         obtain ⟨st, cs⟩ := b
         cases st <;> exact Z43 hc n _ _
theorem Z8K (S : AHeap) : ∀ l : List Nat, allHeld ((k, ⟨.box, c⟩) :: S) l = allHeld ((k, ⟨.box, []⟩) :: S) l
 | [] => rfl
 | i :: l => by
   simp only [allHeld, Zw, Z8K S l]
   by_cases e : k = i
   · rw [if_pos e, if_pos e]; rfl
   · rw [if_neg e, if_neg e]
theorem Zad (S : AHeap) : ∀ K : AHeap, closedH ((k, ⟨.box, c⟩) :: S) K = closedH ((k, ⟨.box, []⟩) :: S) K
 | [] => rfl
 | (i, ⟨st, cs⟩) :: K => by
   cases st <;> simp only [closedH, Z8K, Zad S K]
theorem Z5V (hc : refsL c = []) {φ : AFr} {T' : AHeap} (hT : hget T k = none) (h : headA [] (φ, (k, ⟨.box, []⟩) :: T) = (φ, (k, ⟨.box, []⟩) :: T')) : headA [] (φ, (k, ⟨.box, c⟩) :: T) = (φ, (k, ⟨.box, c⟩) :: T') := by
 simp only [headA, Z43 hc] at h ⊢
 generalize mark ((k, ⟨.box, []⟩) :: T) 1000 (refsF φ) [] = keep at *
 simp only [keepB] at h ⊢
 have hno : ∀ b, (k, b) ∉ T := by
   intro b hb
   have := ZJa hb
   rw [hT] at this
   simp at this
 have hsub : ∀ (S : AHeap) (p : Nat × Blk), p ∈ keepB [] keep S → p ∈ S := by
   intro S
   induction S with
   | nil => intro p hp; exact hp
   | cons q S ih =>
     intro p hp
     obtain ⟨i, b⟩ := q
     simp only [keepB] at hp
     cases hcnd : (keep.elem i || (hget [] i).isSome) with
     | true =>
       rw [hcnd, cond_true] at hp
       rcases List.mem_cons.1 hp with e | hp
       · simp [e]
       · exact List.mem_cons_of_mem _ (ih p hp)
     | false =>
       rw [hcnd, cond_false] at hp
       exact List.mem_cons_of_mem _ (ih p hp)
 have hclosed : ∀ S, closedB φ ((k, ⟨.box, c⟩) :: S) = closedB φ ((k, ⟨.box, []⟩) :: S) := by
   intro S
   simp only [closedB, Z8K, closedH, hc, Zad, refsL, allHeld]
 cases hcnd : (keep.elem k || (hget [] k).isSome) with
 | true =>
   rw [hcnd] at h
   simp only [cond_true, gcIf, hclosed] at h ⊢
   cases hcl : closedB φ ((k, ⟨.box, []⟩) :: keepB [] keep T) with
   | true =>
     rw [hcl] at h
     simp only [Prod.mk.injEq, List.cons.injEq, true_and] at h ⊢
     exact h
   | false =>
     rw [hcl] at h
     simp only [Prod.mk.injEq, List.cons.injEq, true_and] at h ⊢
     exact h
 | false =>
   rw [hcnd] at h
   simp only [cond_false, gcIf] at h ⊢
   cases hcl : closedB φ (keepB [] keep T) with
   | true =>
     rw [hcl] at h
     simp only [Prod.mk.injEq, true_and] at h
     exfalso
     exact hno ⟨.box, []⟩ (hsub T _ (by rw [h]; simp))
   | false =>
     rw [hcl] at h
     simp only [Prod.mk.injEq, List.cons.injEq, true_and] at h ⊢
     exact h
end
end Go.AM
end
noncomputable section
namespace Go.AM.Ytfmnoohhhokicaa
open Go Go.AM Go.AM.Rub
def u8s (l : List Int) : List AV := l.map (AV.int .u8)
theorem Zdn (l : List Int) : (u8s l).length = l.length := by simp [u8s]
theorem Zob {l : List Int} {k : Nat} (h : k < l.length) : (u8s l)[k]? = some (.int .u8 (rowF l k)) := by simp [u8s, Z6A h]
theorem Z8W : ∀ l : List Int, refsL (u8s l) = []
 | [] => rfl
 | a :: l => by
   have := Z8W l
   unfold u8s at this ⊢
   simp only [List.map_cons, refsL, refsOf, this, List.append_nil]
structure Pl (zs : List Int) : Prop where
 len : zs.length = 8
 b : ∀ k, k < 8 → 0 ≤ rowF zs k ∧ rowF zs k ≤ 255
theorem Z0m6 {zs : List Int} (h : zs.length = 8 ∧ ∀ (i : Nat) (z : Int), zs[i]? = some z → 0 ≤ z ∧ z ≤ 255) : Pl zs := ⟨h.1, fun k hk => h.2 k _ (Z6A (by rw [h.1]; exact hk))⟩
def mdN (zs : List Int) (m : Int) : Nat := (1 + (rowF zs 0).tmod m).toNat
def mdP (zs : List Int) (t : Int) (i : Nat) : List Int := (List.range i).map fun k => (rowF zs (2 + k)).tmod (1 + (rowF zs 1).tmod t + 1)
theorem Z4U (zs : List Int) (t : Int) (i : Nat) : (mdP zs t i).length = i := by simp [mdP]
theorem ZPO (zs : List Int) (t : Int) (i : Nat) : mdP zs t (i + 1) = mdP zs t i ++ [(rowF zs (2 + i)).tmod (1 + (rowF zs 1).tmod t + 1)] := by simp [mdP, List.range_succ]
theorem Z5N {a b : Int} (ha : 0 ≤ a) (hb : 0 < b) : 0 ≤ a.tmod b ∧ a.tmod b < b := ⟨Int.tmod_nonneg _ ha, Int.tmod_lt_of_pos _ hb⟩
theorem ZG8 {zs : List Int} (h : Pl zs) {m : Int} (h0 : 0 < m) (_ : m ≤ 6) : 0 < mdN zs m ∧ (mdN zs m : Int) ≤ m ∧ (mdN zs m : Int) = 1 + (rowF zs 0).tmod m := by
 have := Z5N (h.b 0 (by omega)).1 h0
 unfold mdN
 omega
theorem ZX7 {zs : List Int} (h : Pl zs) {t : Int} (h0 : 0 < t) {i : Nat} (hi : i ≤ 6) {k : Nat} (hk : k < i) : 0 ≤ rowF (mdP zs t i) k ∧ rowF (mdP zs t i) k ≤ t := by
 have h1 := Z5N (h.b 1 (by omega)).1 h0
 have h2 := Z5N (a := rowF zs (2 + k)) (b := 1 + (rowF zs 1).tmod t + 1) (h.b (2 + k) (by omega)).1 (by omega)
 have e : rowF (mdP zs t i) k = (rowF zs (2 + k)).tmod (1 + (rowF zs 1).tmod t + 1) := by
   simp only [rowF, mdP, List.getD_eq_getElem?_getD, List.getElem?_map]
   rw [List.getElem?_range hk]; rfl
 rw [e]; omega
def mdR (zs : List Int) (m t : Int) : List Int := srtI (mdP zs t (mdN zs m))
theorem ZyA {zs : List Int} (h : Pl zs) {m t : Int} (hm : 0 < m) (h6 : m ≤ 6) (ht : 0 < t) (h8 : t ≤ 8) : Rw (mdN zs m) (mdR zs m t) ∧ ∀ x ∈ mdR zs m t, x ≤ t := by
 obtain ⟨n0, n1, _⟩ := ZG8 h hm h6
 have hl := Z4U zs t (mdN zs m)
 obtain ⟨hp, hd⟩ := Zgr (l := mdP zs t (mdN zs m)) (by omega)
 have hx : ∀ x ∈ srtI (mdP zs t (mdN zs m)), 0 ≤ x ∧ x ≤ t := by
   intro x hx
   have hx := hp.mem_iff.1 hx
   obtain ⟨k, hk, rfl⟩ := List.getElem_of_mem hx
   have := ZX7 h ht (i := mdN zs m) (by omega) (k := k) (by omega)
   rw [show rowF (mdP zs t (mdN zs m)) k = (mdP zs t (mdN zs m))[k] by simp [rowF, hk]] at this
   exact this
 exact ⟨⟨by show (srtI _).length = _; rw [hp.length_eq, hl], Zgs (fun x h => by have := hx x h; omega) hd⟩, fun x h => (hx x h).2⟩
abbrev mdS (zs : List Int) (n : Nat) (t : Int) (i : Nat) : St :=
 ([(19, .int .i64 i), (18, .int .i64 n), (17, .ref 3 2 n 6 8 1 true), (7, oV 35 1 i), (3, .ptr 3 0 8), (2, .int .i64 t)], (3, ⟨.box, u8s zs⟩) :: oH 35 (ics (mdP zs t i)))
theorem Z0lk {C : Callee} {zs : List Int} {n : Nat} {t : Int} (h : Pl zs) (hn : n ≤ 6) (h0 : 0 < t) (h8 : t ≤ 8) (i : Nat) (hi : i < n) :
   ∃ s', (execA E C (fg 56) 0 40 [] 1000000 Z78) (mdS zs n t i) = some (.normal, s') ∧ headA [] s' = mdS zs n t (i + 1) := by
 have hlz : (u8s zs).length = 8 := by rw [Zdn, h.len]
 have hat := Zob (l := zs) (k := 2 + i) (by rw [h.len]; omega)
 have hat1 := Zob (l := zs) (k := 1) (by rw [h.len]; omega)
 have b1 := h.b 1 (by omega)
 have b2 := h.b (2 + i) (by omega)
 have m1 := Z5N b1.1 h0
 have m2 := Z5N (a := rowF zs (2 + i)) (b := 1 + (rowF zs 1).tmod t + 1) b2.1 (by omega)
 have hsn := Z2e (mdP zs t i) ((rowF zs (2 + i)).tmod (1 + (rowF zs 1).tmod t + 1))
 have hrl : (ics (mdP zs t i)).length = i := by rw [Za, Z4U]
 have g1 : (i : Int) < n := by omega
 have t0 : ¬ t = 0 := by omega
 have hz := Z8W zs
 simp only [mdS]
 rw [ZN (show 0 < i + 1 by omega), Zea (l := mdP zs t (i + 1)) (by rw [Z4U]; omega), ZPO, ← hsn]
 have w1 : wrp .i64 (rowF zs (2 + i)) = rowF zs (2 + i) := Zs (by omega)
 have w2 : wrp .i64 (rowF zs 1) = rowF zs 1 := Zs (by omega)
 generalize rowF zs (2 + i) = x at *
 generalize rowF zs 1 = y at *
 generalize u8s zs = Z at *
 generalize hq : y.tmod t = q at *
 have w3 : wrp .i64 (1 + q) = 1 + q := Zs (by omega)
 have w4 : wrp .i64 (1 + q + 1) = 1 + q + 1 := Zs (by omega)
 have q0 : ¬ 1 + q + 1 = 0 := by omega
 rcases Nat.eq_zero_or_pos i with hp | hp
 · subst hp
   have e0 : ics (mdP zs t 0) = [] := rfl
   rw [e0, Z8h]
   have oh0 : oH 35 [] = [] := rfl
   rw [oh0]
   simp (disch := omega) only [ZF, stp, justO, just, Rd.bind, Rd.run, Rd.opt, upds, acells, zeroCells, tsz, elemT, rdCells, fieldOf, Z0E, aLoad, fresh, Z4, aNum, Z3, aBin, aInt, putC, evO, Nat.reduceAdd, Nat.reduceLT, Nat.reduceBEq, Nat.reduceEqDiff, Nat.reduceLeDiff, ↓reduceIte, reduceCtorEq, Z9, Zk, partsOf, fillA, repC, Zm, aAppend, srcOf, window, snaps, aConv, Int.reduceLE, Int.reduceToNat, ZT, F_56, hlz, hat, hat1, t0, q0, hq, w1, w2, w3, w4, cl0, if_pos, Z0M (show 1 ≤ 1000000 by omega)]
   exact ⟨_, rfl, Z5V hz rfl rfl⟩
 · rw [ZN hp, Zea (by rw [Z4U]; exact hp)]
   have htk : List.take i (ics (mdP zs t i)) = ics (mdP zs t i) := List.take_of_length_le (by omega)
   have hno : ¬ i + 1 ≤ i := by omega
   generalize ics (mdP zs t i) = L at *
   simp (disch := omega) only [ZF, stp, justO, just, Rd.bind, Rd.run, Rd.opt, upds, acells, zeroCells, tsz, elemT, rdCells, fieldOf, Z0E, aLoad, fresh, Z4, aNum, Z3, aBin, aInt, putC, evO, Nat.reduceAdd, Nat.reduceLT, Nat.reduceBEq, Nat.reduceEqDiff, Nat.reduceLeDiff, ↓reduceIte, reduceCtorEq, Z9, Zk, partsOf, fillA, repC, Zm, aAppend, srcOf, window, snaps, aConv, ZT, F_56, g1, hlz, hat, hat1, t0, q0, hq, w1, w2, w3, w4, hrl, htk, hno, Z0M (show i + 1 ≤ 1000000 by omega), Zx (show i < 1000000 by omega)]
   exact ⟨_, rfl, Z5V hz rfl rfl⟩
theorem ZRi {d : Nat} {zs : List Int} {m t : Int} (h : Pl zs) (hm : 0 < m) (h6 : m ≤ 6) (h0 : 0 < t) (h8 : t ≤ 8) :
   ∃ H, bodyA E (kF (d + 6)) fg 1000000 56 [.agg (u8s zs), .int .i64 m, .int .i64 t] [] 0 = some (.ref 35 0 (mdN zs m) (mdN zs m) (mdN zs m) 1 false, H) ∧ hget H 35 = some ⟨.row, ics (mdR zs m t)⟩ := by
 obtain ⟨n0, n1, n2⟩ := ZG8 h hm h6
 have hlz : (u8s zs).length = 8 := by rw [Zdn, h.len]
 have hat0 := Zob (l := zs) (k := 0) (by rw [h.len]; omega)
 have b0 := h.b 0 (by omega)
 have hz := Z8W zs
 have hpl := Z4U zs t (mdN zs m)
 have hso := fun B => Z8y (d := d) (B := B) (k := 35) (l := mdP zs t (mdN zs m)) (n := mdN zs m) (H := [(3, ⟨.box, u8s zs⟩), (35, ⟨.row, ics (mdP zs t (mdN zs m))⟩)]) hpl n0 (by omega) (fun k hk => by
   have := ZX7 h h0 (i := mdN zs m) (by omega) (k := k) (by omega)
   omega) rfl
 have hh : ∀ b : Blk, hset [(3, ⟨.box, u8s zs⟩), (35, ⟨.row, ics (mdP zs t (mdN zs m))⟩)] 35 b = [(3, ⟨.box, u8s zs⟩), (35, b)] := fun _ => rfl
 simp only [hh] at hso
 have er : srtI (mdP zs t (mdN zs m)) = mdR zs m t := rfl
 rw [er] at hso
 have hloop := loopM (f := execA E (kF (d + 6)) (fg 56) 0 40 [] 1000000 Z78) (E0 := []) (mdS zs (mdN zs m) t) (mdN zs m) (fun i hi => Z0lk h (by omega) h0 h8 i hi) (Z5V hz rfl rfl) (by omega)
   (e := .exit 0) (se := ([(20, .bool false), (19, .int .i64 (mdN zs m)), (18, .int .i64 (mdN zs m)), (17, .ref 3 2 (mdN zs m) 6 8 1 true), (7, .ref 35 0 (mdN zs m) (mdN zs m) (mdN zs m) 1 false), (3, .ptr 3 0 8), (2, .int .i64 t)], [(3, ⟨.box, u8s zs⟩), (35, ⟨.row, ics (mdP zs t (mdN zs m))⟩)]))
   (by
     simp only [mdS]
     rw [ZN n0, Zea (by rw [hpl]; exact n0)]
     simp (disch := omega) only [ZF, stp, just, Rd.bind, Rd.run, Rd.opt, upds, aBin, aInt, Nat.reduceEqDiff, Nat.reduceLeDiff, ↓reduceIte, F_56]) (by simp)
 have e0 : oH 35 (ics (mdP zs t 0)) = [] := rfl
 simp only [mdS, cl0, e0, Z8h] at hloop
 have w1 : wrp .i64 (rowF zs 0) = rowF zs 0 := Zs (by omega)
 have w2 : wrp .i64 (1 + (rowF zs 0).tmod m) = (mdN zs m : Int) := by rw [← n2]; exact Zs (by omega)
 have hm0 : ¬ m = 0 := by omega
 have sp := fun d => Z5j (u8s zs) (d + 10) (by simp [u8s]) (by rw [hlz]; omega)
 generalize kF (d + 6) = C at *
 generalize mdN zs m = n at *
 generalize mdR zs m t = R at *
 generalize ics (mdP zs t n) = L at *
 generalize rowF zs 0 = x at *
 generalize u8s zs = Z at *
 have g1 : (0 : Int) ≤ n ∧ (n : Int) ≤ 6 := by omega
 simp (disch := omega) only [ZF, Z5, stp, opBox, justO, just, Rd.bind, Rd.run, Rd.opt, upds, acells, tsz, rdCells, fieldOf, Z0E, aLoad, resA, resL, fresh, aNum, aLen, Z3, aBin, aInt, Nat.reduceAdd, Nat.reduceMul, Nat.reduceLT, Nat.reduceBEq, Nat.reduceEqDiff, Nat.reduceLeDiff, ↓reduceIte, reduceCtorEq, mutX, aConv, aSlice, aBounds, bMax, bHigh, bLow, ZT, F_56, hlz, hat0, w1, w2, hm0, g1, hloop, hso, if_pos]
 exact ⟨_, rfl, rfl⟩
theorem ZMA {d : Nat} {site : Nat → Nat} {seen : List Nat} {zs : List Int} {m t : Int} (h : Pl zs) (hm : 0 < m) (h6 : m ≤ 6) (h0 : 0 < t) (h8 : t ≤ 8) : aBack site true seen (thaw (kF (d + 7)) 56 [.agg (u8s zs), .int .i64 m, .int .i64 t] [] 0) =
   Z0t (site 0) seen (fun k => .ref k 0 (mdN zs m) (mdN zs m) (mdN zs m) 1 false) ⟨.row, ics (mdR zs m t)⟩ := by
 obtain ⟨H, h1, h2⟩ := ZRi (d := d) h hm h6 h0 h8
 exact Z2u (by rw [Z15 rfl]; exact h1) h2 (by rw [Za]; exact (ZyA h hm h6 h0 h8).1.len)
end Go.AM.Ytfmnoohhhokicaa
end
noncomputable section
namespace Go.AM.Ytfmnoohhhokicaa
open Go Go.AM Go.AM.Rub
theorem ZFw {l : List Int} {a : AV} (h : IV l a) : aLen E.T 22 a = .pure (.int .i64 (l.length : Int)) := by
 rcases h with ⟨rfl, rfl⟩ | ⟨ex, rfl⟩ <;> (simp only [aLen, T_22] <;> rfl)
def dfE (l m : List Int) (i : Nat) : Int := if rowF l i = rowF m i then 0 else 1
theorem ZqJ {l m : List Int} (hl : l.length = m.length) : fe (dfE l m) 0 l.length = 0 ↔ l = m := by
 rw [Z2F]
 constructor
 · intro h
   refine Z8d hl fun i hi => ?_
   have := h i (by omega) (by omega)
   unfold dfE at this
   split at this
   · assumption
   · exact absurd this (by decide)
 · rintro rfl i _ _
   exact if_pos rfl
abbrev saS (a b : AV) (i : Nat) : St := ([(5, .int .i64 i), (1, b), (0, a)], [])
theorem ZSU {C : Callee} {l m : List Int} {a b : AV} (ha : IV l a) (hb : IV m b) (hl : l.length ≤ 1000) : rsOf (bodyA E C fg 1000000 24 [a, b] [] 0) = some (.bool (decide (l = m))) := by
 have la := ZFw ha
 have lb := ZFw hb
 by_cases hlm : l.length = m.length
 · have g1 : ¬ (l.length : Int) ≠ m.length := by omega
   have g2 : ((l.length : Int) != m.length) = false := by rw [bne_eq_false_iff_eq]; omega
   have g3 : (l.length : Int) = m.length := by omega
   by_cases h0 : l.length = 0
   · have e1 : l = [] := List.length_eq_zero_iff.1 h0
     have e2 : m = [] := List.length_eq_zero_iff.1 (by omega)
     subst e1 e2
     rw [decide_eq_true rfl]
     have hloop := Z4W (f := (execA E C (fg 24) 0 26 [] 1000000 Z58)) (E0 := []) (s0 := saS a b 0) (by rcases ha with ⟨_, rfl⟩ | ⟨_, rfl⟩ <;> rcases hb with ⟨_, rfl⟩ | ⟨_, rfl⟩ <;> rfl) (e := .exit 0) (se := ([(14, .bool false), (5, .int .i64 0), (1, b), (0, a)], []))
       (by simp (disch := omega) only [ZF, stp, just, Rd.bind, Rd.run, Rd.opt, upds, Z3, aBin, aInt, Nat.reduceBEq, Nat.reduceEqDiff, Nat.reduceLeDiff, ↓reduceIte, reduceCtorEq, F_24, la, saS, cl0]) (by simp)
     simp only [saS, cl0] at hloop
     simp (disch := omega) only [ZF, Z5, stp, just, Rd.bind, Rd.run, Rd.opt, upds, resA, resL, Z3, aBin, aInt, Nat.reduceBEq, Nat.reduceEqDiff, Nat.reduceLeDiff, ↓reduceIte, reduceCtorEq, F_24, la, lb, hloop]
   · obtain ⟨ea, rfl⟩ := Z5n ha (by omega)
     obtain ⟨eb, rfl⟩ := Z5n hb (by omega)
     have hlen := Za l
     have hlen2 := Za m
     have hloop := loopE (f := (execA E C (fg 24) 0 26 [] 1000000 Z58)) (e := dfE l m) (R := fun _ H => ([(4, .bool false)], H)) (saS (.imm (ics l) l.length ea) (.imm (ics m) m.length eb)) l.length (E0 := []) rfl (by omega) (x := .exit 0) (se := ([(14, .bool false), (5, .int .i64 l.length), (1, .imm (ics m) m.length eb), (0, .imm (ics l) l.length ea)], [])) (by simp)
       (fun i hi _ he => by
         have a1 := Z01 (l := l) (k := i) hi
         have a2 := Z01 (l := m) (k := i) (by omega)
         have k1 : (i : Int) < l.length := by omega
         have k2 : (i : Int) < m.length := by omega
         have hq : rowF l i = rowF m i := by
           unfold dfE at he
           split at he
           · assumption
           · exact absurd he (by decide)
         rw [hq] at a1
         simp (disch := omega) only [ZF, stp, just, Rd.bind, Rd.run, Rd.opt, upds, tsz, rdCells, aLoad, Z4, aNum, aLen, Z3, aBin, aInt, Nat.reduceAdd, Nat.reduceLT, Nat.reduceBEq, Nat.reduceEqDiff, Nat.reduceLeDiff, ↓reduceIte, reduceCtorEq, stpT, Rd.foot, writing, Zb, Tr.empty, Zc, ZT, F_24, saS, k1, k2, a1, a2, hlen, hlen2, Zx (show i < 1000000 by omega)]
         exact ⟨_, rfl, rfl⟩)
       (fun i hi _ he => by
         have a1 := Z01 (l := l) (k := i) hi
         have a2 := Z01 (l := m) (k := i) (by omega)
         have k1 : (i : Int) < l.length := by omega
         have k2 : (i : Int) < m.length := by omega
         have hq : ¬ rowF l i = rowF m i := fun h => he (if_pos h)
         have hq2 : (rowF l i != rowF m i) = true := by rw [bne_iff_ne]; exact hq
         simp (disch := omega) only [ZF, stp, just, Rd.bind, Rd.run, Rd.opt, upds, tsz, rdCells, aLoad, Z4, aNum, aLen, Z3, aBin, aInt, Nat.reduceAdd, Nat.reduceLT, Nat.reduceBEq, Nat.reduceEqDiff, Nat.reduceLeDiff, ↓reduceIte, reduceCtorEq, stpT, Rd.foot, writing, Zb, Tr.empty, Zc, ZT, F_24, saS, k1, k2, a1, a2, hlen, hlen2, hq2]
         exact ⟨_, rfl⟩)
       (fun _ => by simp (disch := omega) only [ZF, stp, just, Rd.bind, Rd.run, Rd.opt, upds, aLen, Z3, aBin, aInt, Nat.reduceBEq, Nat.reduceEqDiff, Nat.reduceLeDiff, ↓reduceIte, reduceCtorEq, ZT, F_24, saS])
     simp only [saS, cl0] at hloop
     rcases hloop with ⟨hz, hloop⟩ | ⟨hz, H, hloop⟩
     · rw [decide_eq_true ((ZqJ hlm).1 hz)]
       simp (disch := omega) only [ZF, Z5, stp, just, Rd.bind, Rd.run, Rd.opt, upds, resA, resL, aLen, Z3, aBin, aInt, Nat.reduceBEq, Nat.reduceEqDiff, Nat.reduceLeDiff, ↓reduceIte, reduceCtorEq, ZT, F_24, hloop, g3]
     · rw [decide_eq_false fun e => hz ((ZqJ hlm).2 e)]
       simp (disch := omega) only [ZF, Z5, stp, just, Rd.bind, Rd.run, Rd.opt, upds, resA, resL, aLen, Z3, aBin, aInt, Nat.reduceBEq, Nat.reduceEqDiff, Nat.reduceLeDiff, ↓reduceIte, reduceCtorEq, ZT, F_24, hloop, g3]
 · rw [decide_eq_false fun e => hlm (by rw [e])]
   have g1 : (l.length : Int) ≠ m.length := by omega
   have g2 : ((l.length : Int) != m.length) = true := by rw [bne_iff_ne]; omega
   have g3 : ¬ (l.length : Int) = m.length := by omega
   simp (disch := omega) only [ZF, Z5, stp, just, Rd.bind, Rd.run, Rd.opt, upds, resA, resL, Z3, aBin, aInt, Nat.reduceBEq, Nat.reduceEqDiff, Nat.reduceLeDiff, ↓reduceIte, reduceCtorEq, F_24, la, lb, g2]
theorem Z4e {d : Nat} {site : Nat → Nat} {seen : List Nat} {l m : List Int} {a b : AV} (ha : IV l a) (hb : IV m b) (hl : l.length ≤ 1000) : aBack site true seen (thaw (kF (d + 1)) 24 [a, b] [] 0) = .pure (.bool (decide (l = m)), []) :=
 Z0Y (Z0P rfl (ZSU ha hb hl))
end Go.AM.Ytfmnoohhhokicaa
end
end
