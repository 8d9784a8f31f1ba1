/- A part of the proof of rubBounds_holds: RsJ. Own work of this project; texts printed by own programs among it. -/
import Derived.KernelRfl
import Derived.Test.YtfmnoohhhokicaaYvI
set_option maxRecDepth 1000000
set_option maxHeartbeats 16000000
noncomputable section
noncomputable section
namespace Go.AM.Ytfmnoohhhokicaa
open Go Go.AM
variable {C : Callee} {B N : Nat} {E0 : AHeap} (φ : AFr) (H : AHeap) (s : St)
def Zc6 := kBody Proofs.Try.f81
def ZCx := kL Zc6
def ZgK := kO ZCx
def Zxc := opN ZgK 0
theorem Z0gm : XG 81 15 ZCx ZgK [6] := Z1 (by rfl) (by rfl) _
theorem ZXN : ZgK.toList = [Zxc] := nf
theorem ZYo : stepA E C B 15 ZgK Zxc (φ, H) = some (fput φ 6 (.bool false), H) := nf
def Zhz := kR Zc6
def ZDn := kL Zhz
def Z09 := kO ZDn
def ZrT := opN Z09 0
def ZA2 := opN Z09 1
def Zzu := opN Z09 2
def Z59 := opN Z09 3
def ZsF := opN Z09 4
def Zw5 := opN Z09 5
def ZAn := opN Z09 6
def ZwA := opN Z09 7
def ZAH := opN Z09 8
theorem Z0jM : XG 81 15 ZDn Z09 [0, 1, 2, 7, 8, 9, 10, 11, 12, 13, 14] := Z1 (by rfl) (by rfl) _
theorem Z00I : Z09.toList = [ZrT, ZA2, Zzu, Z59, ZsF, Zw5, ZAn, ZwA, ZAH] := nf
theorem Z02G : stepA E C B 15 Z09 ZrT (φ, H) = some (fput φ 7 (fget φ 0), H) := nf
theorem ZYE : stepA E C B 15 Z09 ZA2 (φ, H) = some (fput φ 8 (fget φ 1), H) := nf
theorem Z03E : stepA E C B 15 Z09 Zzu (φ, H) = stp (some 9) φ H (just (aBin E.T .geq 3 (fget φ 7) (fget φ 8))) := nf
theorem Z02A : stepA E C B 15 Z09 Z59 (φ, H) = some (fput φ 10 (fget φ 9), H) := nf
theorem Z01R : stepA E C B 15 Z09 ZsF (φ, H) = gd φ 10 true (fun φ => some (fput φ 11 (.tup []), H)) (fun φ => some (fput φ 11 (fget φ 0), H)) := s_gd (j := 3) (oj := Z59) rfl rfl rfl (fun _ => rfl) (fun _ => rfl)
theorem Z03S : stepA E C B 15 Z09 Zw5 (φ, H) = gd φ 10 true (fun φ => some (fput φ 12 (.tup []), H)) (fun φ => some (fput φ 12 (fget φ 2), H)) := s_gd (j := 3) (oj := Z59) rfl rfl rfl (fun _ => rfl) (fun _ => rfl)
theorem Z03L : stepA E C B 15 Z09 ZAn (φ, H) = gd φ 10 true (fun φ => some (fput φ 13 (.tup []), H)) (fun φ => stp (some 13) φ H (just (aBin E.T .leq 3 (fget φ 11) (fget φ 12)))) := s_gd (j := 3) (oj := Z59) rfl rfl rfl (fun _ => rfl) (fun _ => rfl)
theorem ZUp : stepA E C B 15 Z09 ZwA (φ, H) = stp (some 14) φ H (opPick (fget φ 10) (fget φ 13) (.bool false)) := nf
theorem Z03p : stepA E C B 15 Z09 ZAH (φ, H) = some (fput φ 6 (fget φ 14), H) := nf
def ZRo := kR Zhz
theorem Z0h3 : execA E C (fg 81) B 15 E0 N ZRo s = some (.ret, s) := Zj (by rfl) s
theorem Z0jd : XQ 81 15 Zhz ZDn ZRo := Z0 (by rfl) _
theorem Z0jT : XQ 81 15 Zc6 ZCx Zhz := Z0 (by rfl) _
theorem Z0gH : fInfo E 81 = some ⟨15, #[.tmp 6], Zc6⟩ := nf
theorem b_81 (args : List AV) : bodyA E C fg N 81 args H B = bodyX E [.tmp 6] (execA E C (fg 81) B 15 H N Zc6 (Z4 args 0 [], H)) := Zq Z0gH args H
abbrev F_81 := And.intro (And.intro (And.intro (And.intro @Z0gm @ZXN) (And.intro @ZYo @Z0jM)) (And.intro (And.intro @Z00I @Z02G) (And.intro @ZYE (And.intro @Z03E @Z02A)))) (And.intro (And.intro (And.intro @Z01R @Z03S) (And.intro @Z03L @ZUp)) (And.intro (And.intro @Z03p @Z0h3) (And.intro @Z0jd (And.intro @Z0jT @b_81))))
def ZcM := kBody Proofs.Try.f26
def ZCB := kL ZcM
def Ziq := kO ZCB
def ZuN := opN Ziq 0
theorem Z0jn : XG 26 36 ZCB Ziq [2] := Z1 (by rfl) (by rfl) _
theorem ZX3 : Ziq.toList = [ZuN] := nf
theorem ZYF : stepA E C B 36 Ziq ZuN (φ, H) = some (fput φ 2 (.int .i64 0), H) := nf
def Zgm := kR ZcM
def Zhx := kL Zgm
def ZCS := kL Zhx
def Z4i := kO ZCS
def Zuo := opN Z4i 0
def Zzw := opN Z4i 1
def ZwD := opN Z4i 2
theorem Z0hz : XG 26 36 ZCS Z4i [4, 5] := Z1 (by rfl) (by rfl) _
theorem ZSW : Z4i.toList = [Zuo, Zzw, ZwD] := nf
theorem ZUW : stepA E C B 36 Z4i Zuo (φ, H) = some (fput φ 4 (fget φ 0), H) := nf
theorem ZWN : stepA E C B 36 Z4i Zzw (φ, H) = stp (some 5) φ H (Z2 E.T (B + 5) .len #[22] [(fget φ 4)]) := nf
theorem ZXg : stepA E C B 36 Z4i ZwD (φ, H) = stp (some 6) φ H (just (aBin E.T .eql 3 (fget φ 5) (.int .i64 0))) := nf
def ZgF := kR Zhx
def Zgy := kT ZgF
def ZCW := kL Zgy
def ZhB := kO ZCW
def Zyy := opN ZhB 0
theorem Z0gV : XG 26 36 ZCW ZhB [0, 6] := Z1 (by rfl) (by rfl) _
theorem Z01N : ZhB.toList = [Zyy] := nf
theorem Z01O : stepA E C B 36 ZhB Zyy (φ, H) = some (fput φ 2 (.int .i64 4), H) := nf
def ZRm := kR Zgy
theorem Z0ft : execA E C (fg 26) B 36 E0 N ZRm s = some (.ret, s) := Zj (by rfl) s
theorem Z0jp : XQ 26 36 Zgy ZCW ZRm := Z0 (by rfl) _
def ZRD := kE ZgF
theorem Z0fq : execA E C (fg 26) B 36 E0 N ZRD s = some (.normal, s) := Ze (by rfl) s
theorem Z0gF : XC 26 36 ZgF 6 Zgy ZRD := Zb (by rfl) _
theorem Z0g3 : XQ 26 36 Zhx ZCS ZgF := Z0 (by rfl) _
def Z8B := kR Zgm
def Zad := kL Z8B
def Zqz := kL Zad
def Z4z := kO Zqz
def ZsQ := opN Z4z 0
def Zse := opN Z4z 1
def Ztg := opN Z4z 2
theorem Z0bo : XG 26 36 Zqz Z4z [6, 7, 8] := Z1 (by rfl) (by rfl) _
theorem Z017 : Z4z.toList = [ZsQ, Zse, Ztg] := nf
theorem Z009 : stepA E C B 36 Z4z ZsQ (φ, H) = some (fput φ 7 (fget φ 0), H) := nf
theorem Z04B : stepA E C B 36 Z4z Zse (φ, H) = stp (some 8) φ H (Z2 E.T (B + 8) .len #[22] [(fget φ 7)]) := nf
theorem Z05i : stepA E C B 36 Z4z Ztg (φ, H) = stp (some 9) φ H (just (aBin E.T .gtr 3 (fget φ 8) (.int .i64 6))) := nf
def Z9M := kR Zad
def Z9a := kT Z9M
def Zru := kL Z9a
def ZhQ := kO Zru
def ZwF := opN ZhQ 0
theorem Z0be : XG 26 36 Zru ZhQ [0, 9] := Z1 (by rfl) (by rfl) _
theorem Z00T : ZhQ.toList = [ZwF] := nf
theorem Z03c : stepA E C B 36 ZhQ ZwF (φ, H) = some (fput φ 2 (.int .i64 3), H) := nf
def ZEr := kR Z9a
theorem Z07a : execA E C (fg 26) B 36 E0 N ZEr s = some (.ret, s) := Zj (by rfl) s
theorem Z0cJ : XQ 26 36 Z9a Zru ZEr := Z0 (by rfl) _
def ZEz := kE Z9M
theorem Z0ce : execA E C (fg 26) B 36 E0 N ZEz s = some (.normal, s) := Ze (by rfl) s
theorem Z0bu : XC 26 36 Z9M 9 Z9a ZEz := Zb (by rfl) _
theorem Z0cP : XQ 26 36 Zad Zqz Z9M := Z0 (by rfl) _
def ZbZ := kR Z8B
def ZcG := kL ZbZ
def Zk6 := kL ZcG
def Zim := kO Zk6
def Zsv := opN Zim 0
theorem Z0c6 : XG 26 36 Zk6 Zim [9] := Z1 (by rfl) (by rfl) _
theorem ZSP : Zim.toList = [Zsv] := nf
theorem ZVl : stepA E C B 36 Zim Zsv (φ, H) = some (fput φ 3 (.int .i64 0), H) := nf
def ZoG := kR ZcG
def Zkf := kB ZoG
def Z3J := kB Zkf
def Zbc := kL Z3J
def Zrq := kL Zbc
def Z2s := kO Zrq
def Zth := opN Z2s 0
def ZuP := opN Z2s 1
def Zv0 := opN Z2s 2
def Zx6 := opN Z2s 3
theorem Z08W : XG 26 36 Zrq Z2s [10, 11, 12] := Z1 (by rfl) (by rfl) _
theorem ZXj : Z2s.toList = [Zth, ZuP, Zv0, Zx6] := nf
theorem Z02N : stepA E C B 36 Z2s Zth (φ, H) = some (fput φ 10 (fget φ 3), H) := nf
theorem ZSR : stepA E C B 36 Z2s ZuP (φ, H) = some (fput φ 11 (fget φ 0), H) := nf
theorem ZS8 : stepA E C B 36 Z2s Zv0 (φ, H) = stp (some 12) φ H (Z2 E.T (B + 12) .len #[22] [(fget φ 11)]) := nf
theorem Z005 : stepA E C B 36 Z2s Zx6 (φ, H) = stp (some 13) φ H (just (aBin E.T .lss 3 (fget φ 10) (fget φ 12))) := nf
def Zat := kR Zbc
def ZHQ := kT Zat
theorem Z0bx : execA E C (fg 26) B 36 E0 N ZHQ s = some (.normal, s) := Ze (by rfl) s
def ZEV := kE Zat
theorem Z0bl : execA E C (fg 26) B 36 E0 N ZEV s = some (.exit 0, s) := ZL (by rfl) s
theorem Z07x : XC 26 36 Zat 13 ZHQ ZEV := Zb (by rfl) _
theorem Z082 : XQ 26 36 Zbc Zrq Zat := Z0 (by rfl) _
def Z9G := kR Z3J
def ZjQ := kL Z9G
def Zbx := kB ZjQ
def Z96 := kL Zbx
def ZpM := kL Z96
def Z1d := kO ZpM
def Zwy := opN Z1d 0
def Zur := opN Z1d 1
def ZzO := opN Z1d 2
def ZyD := opN Z1d 3
def ZxV := opN Z1d 4
def Zyq := opN Z1d 5
theorem Z0dW : XG 26 36 ZpM Z1d [13, 16, 17, 18, 19, 20] := Z1 (by rfl) (by rfl) _
theorem Z03X : Z1d.toList = [Zwy, Zur, ZzO, ZyD, ZxV, Zyq] := nf
theorem ZWe : stepA E C B 36 Z1d Zwy (φ, H) = some (fput φ 16 (fget φ 0), H) := nf
theorem ZVk : stepA E C B 36 Z1d Zur (φ, H) = some (fput φ 17 (fget φ 3), H) := nf
theorem ZXX : stepA E C B 36 Z1d ZzO (φ, H) = stp (some 18) φ H (just (Z3 E.T 22 (fget φ 16) (fget φ 17))) := nf
theorem Z00c : stepA E C B 36 Z1d ZyD (φ, H) = stp (some 19) φ H (just (aLoad E.T 3 (fget φ 18))) := nf
theorem Z01V : stepA E C B 36 Z1d ZxV (φ, H) = stp (some 20) φ H (aCall C (fun j => B + j * 36 + 20) true 81 [(fget φ 19), (.int .i64 0), (.int .i64 8)]) := nf
theorem Z05F : stepA E C B 36 Z1d Zyq (φ, H) = stp (some 21) φ H (justO (aUn .not (fget φ 20))) := nf
def ZaY := kR Z96
def Z9c := kT ZaY
def ZiN := kL Z9c
def Zgo := kO ZiN
def ZtA := opN Zgo 0
theorem Z0eQ : XG 26 36 ZiN Zgo [0, 3, 21] := Z1 (by rfl) (by rfl) _
theorem Z02z : Zgo.toList = [ZtA] := nf
theorem ZXM : stepA E C B 36 Zgo ZtA (φ, H) = some (fput φ 2 (.int .i64 1), H) := nf
def ZEN := kR Z9c
theorem Z09C : execA E C (fg 26) B 36 E0 N ZEN s = some (.ret, s) := Zj (by rfl) s
theorem Z09b : XQ 26 36 Z9c ZiN ZEN := Z0 (by rfl) _
def ZFZ := kE ZaY
theorem Z0aP : execA E C (fg 26) B 36 E0 N ZFZ s = some (.normal, s) := Ze (by rfl) s
theorem Z07r : XC 26 36 ZaY 21 Z9c ZFZ := Zb (by rfl) _
theorem Z0at : XQ 26 36 Z96 ZpM ZaY := Z0 (by rfl) _
def ZbM := kR Zbx
def ZlZ := kL ZbM
def Zr := kO ZlZ
def Zpb := opN Zr 0
def Zj1 := opN Zr 1
def Z0e := opN Zr 2
def Zku := opN Zr 3
def ZiC := opN Zr 4
def ZkC := opN Zr 5
def Zle := opN Zr 6
def Zjy := opN Zr 7
def Zl1 := opN Zr 8
def Zjt := opN Zr 9
def Zf7 := opN Zr 10
def Zfm := opN Zr 11
def ZeN := opN Zr 12
def Zep := opN Zr 13
theorem Z08Q : XD 26 36 ZlZ Zr [21, 22, 23, 24, 25, 26, 27, 28, 29, 30, 31, 32, 33, 34] := Z3I (by rfl) (by rfl) _
theorem ZMH : Zr.toList = [Zpb, Zj1, Z0e, Zku, ZiC, ZkC, Zle, Zjy, Zl1, Zjt, Zf7, Zfm, ZeN, Zep] := nf
theorem ZIZ : statOk Zr = true := by kernel_rfl
theorem ZG0 : drawA E C B 36 Zr s = if neat 36 s = true then drX Zr (runT E C B 36 Zr Zr.toList 0 s) else none := Z2e ZIZ s
theorem ZFg (l : List (Nat × Tr)) : dynOk Zr l = (!writing l || Zo [[], [0], [0, 1], [0, 1, 2], [0, 1, 2], [0, 1, 2, 3, 4], [0, 1, 2, 3, 4, 5], [0, 1, 2], [0, 1, 2], [0, 1, 2, 8], [0, 1, 2, 7, 8, 9], [0, 1, 2, 7, 8, 9, 10], [0, 1, 2, 3, 4, 5, 6, 7, 8, 9, 10, 11], [0, 1, 2, 3, 4, 5, 6, 7, 8, 9, 10, 11, 12]] (Zm l)) := Z1P (by kernel_rfl) l
theorem ZLq : stepT E C B 36 Zr Zpb (φ, H) = some ((fput φ 22 (fget φ 3), H), ⟨false, [], []⟩) := Z9 rfl (Zh rfl rfl)
theorem ZNm : stepT E C B 36 Zr Zj1 (φ, H) = stpT (some 23) φ H (just (aBin E.T .gtr 3 (fget φ 22) (.int .i64 0))) := Z9 rfl (Zi rfl rfl)
theorem ZQF : stepT E C B 36 Zr Z0e (φ, H) = some ((fput φ 24 (fget φ 23), H), ⟨false, [], []⟩) := Z9 rfl (Zh rfl rfl)
theorem ZLk : stepT E C B 36 Zr Zku (φ, H) = gdT φ 24 true (fun φ => (some (fput φ 25 (.tup []), H)).map fun s => (s, ⟨false, [], []⟩)) (fun φ => some ((fput φ 25 (fget φ 0), H), ⟨false, [], []⟩)) := Zp (j := 2) (oj := Z0e) rfl rfl rfl (fun _ => rfl) (fun _ => Zh rfl rfl)
theorem ZPv : stepT E C B 36 Zr ZiC (φ, H) = gdT φ 24 true (fun φ => (some (fput φ 26 (.tup []), H)).map fun s => (s, ⟨false, [], []⟩)) (fun φ => some ((fput φ 26 (fget φ 3), H), ⟨false, [], []⟩)) := Zp (j := 2) (oj := Z0e) rfl rfl rfl (fun _ => rfl) (fun _ => Zh rfl rfl)
theorem ZKa : stepT E C B 36 Zr ZkC (φ, H) = gdT φ 24 true (fun φ => (some (fput φ 27 (.tup []), H)).map fun s => (s, ⟨false, [], []⟩)) (fun φ => stpT (some 27) φ H (just (Z3 E.T 22 (fget φ 25) (fget φ 26)))) := Zp (j := 2) (oj := Z0e) rfl rfl rfl (fun _ => rfl) (fun _ => Zi rfl rfl)
theorem ZKd : stepT E C B 36 Zr Zle (φ, H) = gdT φ 24 true (fun φ => (some (fput φ 28 (.tup []), H)).map fun s => (s, ⟨false, [], []⟩)) (fun φ => stpT (some 28) φ H (just (aLoad E.T 3 (fget φ 27)))) := Zp (j := 2) (oj := Z0e) rfl rfl rfl (fun _ => rfl) (fun _ => Zi rfl rfl)
theorem ZOv : stepT E C B 36 Zr Zjy (φ, H) = gdT φ 24 true (fun φ => (some (fput φ 29 (.tup []), H)).map fun s => (s, ⟨false, [], []⟩)) (fun φ => some ((fput φ 29 (fget φ 0), H), ⟨false, [], []⟩)) := Zp (j := 2) (oj := Z0e) rfl rfl rfl (fun _ => rfl) (fun _ => Zh rfl rfl)
theorem ZR7 : stepT E C B 36 Zr Zl1 (φ, H) = gdT φ 24 true (fun φ => (some (fput φ 30 (.tup []), H)).map fun s => (s, ⟨false, [], []⟩)) (fun φ => some ((fput φ 30 (fget φ 3), H), ⟨false, [], []⟩)) := Zp (j := 2) (oj := Z0e) rfl rfl rfl (fun _ => rfl) (fun _ => Zh rfl rfl)
theorem ZKo : stepT E C B 36 Zr Zjt (φ, H) = gdT φ 24 true (fun φ => (some (fput φ 31 (.tup []), H)).map fun s => (s, ⟨false, [], []⟩)) (fun φ => stpT (some 31) φ H (just (aBin E.T .sub 3 (fget φ 30) (.int .i64 1)))) := Zp (j := 2) (oj := Z0e) rfl rfl rfl (fun _ => rfl) (fun _ => Zi rfl rfl)
theorem ZFs : stepT E C B 36 Zr Zf7 (φ, H) = gdT φ 24 true (fun φ => (some (fput φ 32 (.tup []), H)).map fun s => (s, ⟨false, [], []⟩)) (fun φ => stpT (some 32) φ H (just (Z3 E.T 22 (fget φ 29) (fget φ 31)))) := Zp (j := 2) (oj := Z0e) rfl rfl rfl (fun _ => rfl) (fun _ => Zi rfl rfl)
theorem ZIz : stepT E C B 36 Zr Zfm (φ, H) = gdT φ 24 true (fun φ => (some (fput φ 33 (.tup []), H)).map fun s => (s, ⟨false, [], []⟩)) (fun φ => stpT (some 33) φ H (just (aLoad E.T 3 (fget φ 32)))) := Zp (j := 2) (oj := Z0e) rfl rfl rfl (fun _ => rfl) (fun _ => Zi rfl rfl)
theorem ZIe : stepT E C B 36 Zr ZeN (φ, H) = gdT φ 24 true (fun φ => (some (fput φ 34 (.tup []), H)).map fun s => (s, ⟨false, [], []⟩)) (fun φ => stpT (some 34) φ H (just (aBin E.T .gtr 3 (fget φ 28) (fget φ 33)))) := Zp (j := 2) (oj := Z0e) rfl rfl rfl (fun _ => rfl) (fun _ => Zi rfl rfl)
theorem ZEK : stepT E C B 36 Zr Zep (φ, H) = stpT (some 35) φ H (opPick (fget φ 24) (fget φ 34) (.bool false)) := Z9 rfl (Zi rfl rfl)
def Zbj := kR ZbM
def Z9v := kT Zbj
def Zmi := kL Z9v
def ZbL := kO Zmi
def ZpN := opN ZbL 0
theorem Z0cY : XG 26 36 Zmi ZbL [0, 3, 35] := Z1 (by rfl) (by rfl) _
theorem ZN6 : ZbL.toList = [ZpN] := nf
theorem ZP3 : stepA E C B 36 ZbL ZpN (φ, H) = some (fput φ 2 (.int .i64 7), H) := nf
def ZG8 := kR Z9v
theorem Z0fi : execA E C (fg 26) B 36 E0 N ZG8 s = some (.ret, s) := Zj (by rfl) s
theorem Z07f : XQ 26 36 Z9v Zmi ZG8 := Z0 (by rfl) _
def ZI2 := kE Zbj
theorem Z0fl : execA E C (fg 26) B 36 E0 N ZI2 s = some (.normal, s) := Ze (by rfl) s
theorem Z07L : XC 26 36 Zbj 35 Z9v ZI2 := Zb (by rfl) _
theorem Z0cN : XQ 26 36 ZbM ZlZ Zbj := Z0 (by rfl) _
theorem Z09Z : XQ 26 36 Zbx Z96 ZbM := Z0 (by rfl) _
theorem Z0ee : execA E C (fg 26) B 36 E0 N ZjQ s = blockX 1 (fun s => (forget s.1 [35], s.2)) (execA E C (fg 26) B 36 E0 N Zbx s) := Zf (by rfl) (by rfl) s
def ZkO := kR Z9G
def Z40 := kO ZkO
def Zwa := opN Z40 0
def Ztc := opN Z40 1
def Zx3 := opN Z40 2
theorem Z070 : XG 26 36 ZkO Z40 [14, 15] := Z1 (by rfl) (by rfl) _
theorem ZYB : Z40.toList = [Zwa, Ztc, Zx3] := nf
theorem ZUT : stepA E C B 36 Z40 Zwa (φ, H) = some (fput φ 14 (fget φ 3), H) := nf
theorem ZXI : stepA E C B 36 Z40 Ztc (φ, H) = stp (some 15) φ H (just (aBin E.T .add 3 (fget φ 14) (.int .i64 1))) := nf
theorem Z04f : stepA E C B 36 Z40 Zx3 (φ, H) = some (fput φ 3 (fget φ 15), H) := nf
theorem Z0cZ : XQ 26 36 Z9G ZjQ ZkO := Z0 (by rfl) _
theorem Z0d0 : XQ 26 36 Z3J Zbc Z9G := Z0 (by rfl) _
theorem Z09K : execA E C (fg 26) B 36 E0 N Zkf s = iterA (execA E C (fg 26) B 36 E0 N Z3J) (headA E0) N s := ZM (by rfl) s
theorem Z0dD : execA E C (fg 26) B 36 E0 N ZoG s = blockX 0 (fun s => (forget s.1 [0, 3, 13], s.2)) (execA E C (fg 26) B 36 E0 N Zkf s) := Zf (by rfl) (by rfl) s
theorem Z085 : XQ 26 36 ZcG Zk6 ZoG := Z0 (by rfl) _
def Z9Q := kR ZbZ
def Zo4 := kL Z9Q
def ZcA := kO Zo4
def Zn0 := opN ZcA 0
theorem Z0aJ : XG 26 36 Zo4 ZcA [] := Z1 (by rfl) (by rfl) _
theorem ZP8 : ZcA.toList = [Zn0] := nf
theorem ZMr : stepA E C B 36 ZcA Zn0 (φ, H) = some (fput φ 2 (.int .i64 0), H) := nf
def ZIG := kR Z9Q
theorem Z0bC : execA E C (fg 26) B 36 E0 N ZIG s = some (.ret, s) := Zj (by rfl) s
theorem Z0d1 : XQ 26 36 Z9Q Zo4 ZIG := Z0 (by rfl) _
theorem Z0dM : XQ 26 36 ZbZ ZcG Z9Q := Z0 (by rfl) _
theorem Z0ej : XQ 26 36 Z8B Zad ZbZ := Z0 (by rfl) _
theorem Z0i5 : XQ 26 36 Zgm Zhx Z8B := Z0 (by rfl) _
theorem Z0g5 : XQ 26 36 ZcM ZCB Zgm := Z0 (by rfl) _
theorem Z0jh : fInfo E 26 = some ⟨36, #[.tmp 2], ZcM⟩ := nf
theorem b_26 (args : List AV) : bodyA E C fg N 26 args H B = bodyX E [.tmp 2] (execA E C (fg 26) B 36 H N ZcM (Z4 args 0 [], H)) := Zq Z0jh args H
abbrev F_26 := And.intro (And.intro (And.intro (And.intro (And.intro (And.intro @Z0jn (And.intro @ZX3 @ZYF)) (And.intro @Z0hz (And.intro @ZSW @ZUW))) (And.intro (And.intro @ZWN (And.intro @ZXg @Z0gV)) (And.intro (And.intro @Z01N @Z01O) (And.intro @Z0ft @Z0jp)))) (And.intro (And.intro (And.intro @Z0fq (And.intro @Z0gF @Z0g3)) (And.intro @Z0bo (And.intro @Z017 @Z009))) (And.intro (And.intro @Z04B (And.intro @Z05i @Z0be)) (And.intro (And.intro @Z00T @Z03c) (And.intro @Z07a @Z0cJ))))) (And.intro (And.intro (And.intro (And.intro @Z0ce (And.intro @Z0bu @Z0cP)) (And.intro @Z0c6 (And.intro @ZSP @ZVl))) (And.intro (And.intro @Z08W (And.intro @ZXj @Z02N)) (And.intro (And.intro @ZSR @ZS8) (And.intro @Z005 @Z0bx)))) (And.intro (And.intro (And.intro @Z0bl (And.intro @Z07x @Z082)) (And.intro (And.intro @Z0dW @Z03X) (And.intro @ZWe @ZVk))) (And.intro (And.intro @ZXX (And.intro @Z00c @Z01V)) (And.intro (And.intro @Z05F @Z0eQ) (And.intro @Z02z @ZXM)))))) (And.intro (And.intro (And.intro (And.intro (And.intro @Z09C (And.intro @Z09b @Z0aP)) (And.intro @Z07r (And.intro @Z0at @Z08Q))) (And.intro (And.intro @ZMH (And.intro @ZG0 @ZFg)) (And.intro (And.intro @ZLq @ZNm) (And.intro @ZQF @ZLk)))) (And.intro (And.intro (And.intro @ZPv (And.intro @ZKa @ZKd)) (And.intro @ZOv (And.intro @ZR7 @ZKo))) (And.intro (And.intro @ZFs (And.intro @ZIz @ZIe)) (And.intro (And.intro @ZEK @Z0cY) (And.intro @ZN6 @ZP3))))) (And.intro (And.intro (And.intro (And.intro @Z0fi (And.intro @Z07f @Z0fl)) (And.intro @Z07L (And.intro @Z0cN @Z09Z))) (And.intro (And.intro @Z0ee (And.intro @Z070 @ZYB)) (And.intro (And.intro @ZUT @ZXI) (And.intro @Z04f @Z0cZ)))) (And.intro (And.intro (And.intro @Z0d0 (And.intro @Z09K @Z0dD)) (And.intro (And.intro @Z085 @Z0aJ) (And.intro @ZP8 @ZMr))) (And.intro (And.intro @Z0bC (And.intro @Z0d1 @Z0dM)) (And.intro (And.intro @Z0ej @Z0i5) (And.intro @Z0g5 @b_26))))))
def ZaR := kBody Proofs.Try.f80
def ZCT := kL ZaR
def Zgn := kO ZCT
def Zxw := opN Zgn 0
theorem Z0fr : XG 80 18 ZCT Zgn [2] := Z1 (by rfl) (by rfl) _
theorem ZY4 : Zgn.toList = [Zxw] := nf
theorem Z01l : stepA E C B 18 Zgn Zxw (φ, H) = some (fput φ 2 (.int .i64 0), H) := nf
def ZhY := kR ZaR
def ZC5 := kL ZhY
def ZhM := kO ZC5
def ZwH := opN ZhM 0
theorem Z0fG : XG 80 18 ZC5 ZhM [] := Z1 (by rfl) (by rfl) _
theorem ZYO : ZhM.toList = [ZwH] := nf
theorem ZSf : stepA E C B 18 ZhM ZwH (φ, H) = some (fput φ 3 (.int .i64 0), H) := nf
def Zi6 := kR ZhY
def ZhG := kL Zi6
def ZBA := kL ZhG
def Zgv := kO ZBA
def Ztf := opN Zgv 0
theorem Z0gi : XG 80 18 ZBA Zgv [] := Z1 (by rfl) (by rfl) _
theorem ZVA : Zgv.toList = [Ztf] := nf
theorem ZUI : stepA E C B 18 Zgv Ztf (φ, H) = some (fput φ 4 (.int .i64 0), H) := nf
def ZBX := kR ZhG
def ZC9 := kB ZBX
def Z7n := kB ZC9
def ZaN := kL Z7n
def Zof := kL ZaN
def Z2v := kO Zof
def Ztb := opN Z2v 0
def Zul := opN Z2v 1
def ZxN := opN Z2v 2
def Zwl := opN Z2v 3
theorem Z062 : XG 80 18 Zof Z2v [5, 6, 7] := Z1 (by rfl) (by rfl) _
theorem ZSo : Z2v.toList = [Ztb, Zul, ZxN, Zwl] := nf
theorem Z02h : stepA E C B 18 Z2v Ztb (φ, H) = some (fput φ 5 (fget φ 4), H) := nf
theorem ZTQ : stepA E C B 18 Z2v Zul (φ, H) = some (fput φ 6 (fget φ 0), H) := nf
theorem ZZo : stepA E C B 18 Z2v ZxN (φ, H) = stp (some 7) φ H (Z2 E.T (B + 7) .len #[22] [(fget φ 6)]) := nf
theorem ZX5 : stepA E C B 18 Z2v Zwl (φ, H) = stp (some 8) φ H (just (aBin E.T .lss 3 (fget φ 5) (fget φ 7))) := nf
def ZbS := kR ZaN
def ZEo := kT ZbS
theorem Z0eN : execA E C (fg 80) B 18 E0 N ZEo s = some (.normal, s) := Ze (by rfl) s
def ZE8 := kE ZbS
theorem Z0dh : execA E C (fg 80) B 18 E0 N ZE8 s = some (.exit 0, s) := ZL (by rfl) s
theorem Z0em : XC 80 18 ZbS 8 ZEo ZE8 := Zb (by rfl) _
theorem Z0do : XQ 80 18 ZaN Zof ZbS := Z0 (by rfl) _
def Z90 := kR Z7n
def ZjE := kL Z90
def Zqb := kB ZjE
def Z0R := kO Zqb
def Zy3 := opN Z0R 0
def ZtE := opN Z0R 1
def Zxj := opN Z0R 2
def ZyY := opN Z0R 3
def ZA8 := opN Z0R 4
def ZxP := opN Z0R 5
def ZzY := opN Z0R 6
theorem Z09J : XG 80 18 Zqb Z0R [8, 11, 12, 13, 14, 15, 16] := Z1 (by rfl) (by rfl) _
theorem ZSL : Z0R.toList = [Zy3, ZtE, Zxj, ZyY, ZA8, ZxP, ZzY] := nf
theorem ZTi : stepA E C B 18 Z0R Zy3 (φ, H) = some (fput φ 11 (fget φ 3), H) := nf
theorem Z05e : stepA E C B 18 Z0R ZtE (φ, H) = some (fput φ 12 (fget φ 0), H) := nf
theorem ZWl : stepA E C B 18 Z0R Zxj (φ, H) = some (fput φ 13 (fget φ 4), H) := nf
theorem Z03H : stepA E C B 18 Z0R ZyY (φ, H) = stp (some 14) φ H (just (Z3 E.T 22 (fget φ 12) (fget φ 13))) := nf
theorem ZT6 : stepA E C B 18 Z0R ZA8 (φ, H) = stp (some 15) φ H (just (aLoad E.T 3 (fget φ 14))) := nf
theorem Z016 : stepA E C B 18 Z0R ZxP (φ, H) = stp (some 16) φ H (just (aBin E.T .add 3 (fget φ 11) (fget φ 15))) := nf
theorem ZYQ : stepA E C B 18 Z0R ZzY (φ, H) = some (fput φ 3 (fget φ 16), H) := nf
theorem Z06E : execA E C (fg 80) B 18 E0 N ZjE s = blockX 1 (fun s => (forget s.1 [], s.2)) (execA E C (fg 80) B 18 E0 N Zqb s) := Zf (by rfl) (by rfl) s
def ZmD := kR Z90
def Z4j := kO ZmD
def Ztw := opN Z4j 0
def ZrM := opN Z4j 1
def ZuO := opN Z4j 2
theorem Z09l : XG 80 18 ZmD Z4j [9, 10] := Z1 (by rfl) (by rfl) _
theorem Z015 : Z4j.toList = [Ztw, ZrM, ZuO] := nf
theorem ZW2 : stepA E C B 18 Z4j Ztw (φ, H) = some (fput φ 9 (fget φ 4), H) := nf
theorem Z05p : stepA E C B 18 Z4j ZrM (φ, H) = stp (some 10) φ H (just (aBin E.T .add 3 (fget φ 9) (.int .i64 1))) := nf
theorem ZZY : stepA E C B 18 Z4j ZuO (φ, H) = some (fput φ 4 (fget φ 10), H) := nf
theorem Z0cX : XQ 80 18 Z90 ZjE ZmD := Z0 (by rfl) _
theorem Z0k0 : XQ 80 18 Z7n ZaN Z90 := Z0 (by rfl) _
theorem Z0jL : execA E C (fg 80) B 18 E0 N ZC9 s = iterA (execA E C (fg 80) B 18 E0 N Z7n) (headA E0) N s := ZM (by rfl) s
theorem Z0kp : execA E C (fg 80) B 18 E0 N ZBX s = blockX 0 (fun s => (forget s.1 [0, 4, 8], s.2)) (execA E C (fg 80) B 18 E0 N ZC9 s) := Zf (by rfl) (by rfl) s
theorem Z0iE : XQ 80 18 ZhG ZBA ZBX := Z0 (by rfl) _
def Z9J := kR Zi6
def ZqP := kL Z9J
def Z6Q := kO ZqP
def ZAa := opN Z6Q 0
def Zxn := opN Z6Q 1
theorem Z0bN : XG 80 18 ZqP Z6Q [3, 17] := Z1 (by rfl) (by rfl) _
theorem ZVr : Z6Q.toList = [ZAa, Zxn] := nf
theorem ZX4 : stepA E C B 18 Z6Q ZAa (φ, H) = some (fput φ 17 (fget φ 3), H) := nf
theorem ZVb : stepA E C B 18 Z6Q Zxn (φ, H) = some (fput φ 2 (fget φ 17), H) := nf
def ZIJ := kR Z9J
theorem Z06q : execA E C (fg 80) B 18 E0 N ZIJ s = some (.ret, s) := Zj (by rfl) s
theorem Z0cB : XQ 80 18 Z9J ZqP ZIJ := Z0 (by rfl) _
theorem Z0ja : XQ 80 18 Zi6 ZhG Z9J := Z0 (by rfl) _
theorem Z0k3 : XQ 80 18 ZhY ZC5 Zi6 := Z0 (by rfl) _
theorem Z0fK : XQ 80 18 ZaR ZCT ZhY := Z0 (by rfl) _
theorem Z0jS : fInfo E 80 = some ⟨18, #[.tmp 2], ZaR⟩ := nf
theorem b_80 (args : List AV) : bodyA E C fg N 80 args H B = bodyX E [.tmp 2] (execA E C (fg 80) B 18 H N ZaR (Z4 args 0 [], H)) := Zq Z0jS args H
abbrev F_80 := And.intro (And.intro (And.intro (And.intro (And.intro @Z0fr (And.intro @ZY4 @Z01l)) (And.intro @Z0fG (And.intro @ZYO @ZSf))) (And.intro (And.intro @Z0gi (And.intro @ZVA @ZUI)) (And.intro @Z062 (And.intro @ZSo @Z02h)))) (And.intro (And.intro (And.intro @ZTQ (And.intro @ZZo @ZX5)) (And.intro @Z0eN (And.intro @Z0dh @Z0em))) (And.intro (And.intro @Z0do (And.intro @Z09J @ZSL)) (And.intro @ZTi (And.intro @Z05e @ZWl))))) (And.intro (And.intro (And.intro (And.intro @Z03H (And.intro @ZT6 @Z016)) (And.intro @ZYQ (And.intro @Z06E @Z09l))) (And.intro (And.intro @Z015 (And.intro @ZW2 @Z05p)) (And.intro @ZZY (And.intro @Z0cX @Z0k0)))) (And.intro (And.intro (And.intro @Z0jL (And.intro @Z0kp @Z0iE)) (And.intro @Z0bN (And.intro @ZVr @ZX4))) (And.intro (And.intro @ZVb (And.intro @Z06q @Z0cB)) (And.intro (And.intro @Z0ja @Z0k3) (And.intro @Z0fK @b_80)))))
def Z8W := kBody Proofs.Try.f87
def ZBs := kL Z8W
def ZgP := kO ZBs
def ZAF := opN ZgP 0
theorem Z0fD : XG 87 31 ZBs ZgP [4] := Z1 (by rfl) (by rfl) _
theorem Z01i : ZgP.toList = [ZAF] := nf
theorem Z05J : stepA E C B 31 ZgP ZAF (φ, H) = some (fput φ 4 (.int .i64 0), H) := nf
def Zit := kR Z8W
def ZBW := kL Zit
def Z4u := kO ZBW
def Zzh := opN Z4u 0
def ZrP := opN Z4u 1
def Zx1 := opN Z4u 2
theorem Z0j3 : XG 87 31 ZBW Z4u [6, 7] := Z1 (by rfl) (by rfl) _
theorem ZST : Z4u.toList = [Zzh, ZrP, Zx1] := nf
theorem Z00Y : stepA E C B 31 Z4u Zzh (φ, H) = some (fput φ 6 (fget φ 0), H) := nf
theorem Z052 : stepA E C B 31 Z4u ZrP (φ, H) = stp (some 7) φ H (aCall C (fun j => B + j * 31 + 7) true 26 [(fget φ 6)]) := nf
theorem ZWo : stepA E C B 31 Z4u Zx1 (φ, H) = some (fput φ 5 (fget φ 7), H) := nf
def ZgC := kR Zit
def Zip := kL ZgC
def ZBJ := kL Zip
def Z66 := kO ZBJ
def ZzF := opN Z66 0
def ZvI := opN Z66 1
theorem Z0iI : XG 87 31 ZBJ Z66 [8] := Z1 (by rfl) (by rfl) _
theorem Z00i : Z66.toList = [ZzF, ZvI] := nf
theorem ZYP : stepA E C B 31 Z66 ZzF (φ, H) = some (fput φ 8 (fget φ 5), H) := nf
theorem ZVQ : stepA E C B 31 Z66 ZvI (φ, H) = stp (some 9) φ H (just (aBin E.T .eql 24 (fget φ 8) (.int .i64 0))) := nf
def Zgr := kR Zip
def ZC3 := kT Zgr
def Z48 := kO ZC3
def ZtV := opN Z48 0
def Zxh := opN Z48 1
def ZvK := opN Z48 2
theorem Z0iQ : XG 87 31 ZC3 Z48 [9, 10, 11] := Z1 (by rfl) (by rfl) _
theorem ZXC : Z48.toList = [ZtV, Zxh, ZvK] := nf
theorem ZWW : stepA E C B 31 Z48 ZtV (φ, H) = some (fput φ 10 (fget φ 1), H) := nf
theorem ZYb : stepA E C B 31 Z48 Zxh (φ, H) = stp (some 11) φ H (aCall C (fun j => B + j * 31 + 11) true 26 [(fget φ 10)]) := nf
theorem Z04M : stepA E C B 31 Z48 ZvK (φ, H) = some (fput φ 5 (fget φ 11), H) := nf
def ZRt := kE Zgr
theorem Z0k9 : execA E C (fg 87) B 31 E0 N ZRt s = some (.normal, s) := Ze (by rfl) s
theorem Z0hE : XC 87 31 Zgr 9 ZC3 ZRt := Zb (by rfl) _
theorem Z0iZ : XQ 87 31 Zip ZBJ Zgr := Z0 (by rfl) _
def Z9T := kR ZgC
def ZcF := kL Z9T
def Zkr := kL ZcF
def Z0b := kO Zkr
def Zw4 := opN Z0b 0
def Zxf := opN Z0b 1
def Z29 := opN Z0b 2
def Zuk := opN Z0b 3
def ZwK := opN Z0b 4
def Zv7 := opN Z0b 5
def ZwY := opN Z0b 6
def Zvb := opN Z0b 7
def ZsU := opN Z0b 8
theorem Z09u : XG 87 31 Zkr Z0b [9, 12, 13, 14, 15, 16, 17, 18, 19] := Z1 (by rfl) (by rfl) _
theorem Z05t : Z0b.toList = [Zw4, Zxf, Z29, Zuk, ZwK, Zv7, ZwY, Zvb, ZsU] := nf
theorem Z05Y : stepA E C B 31 Z0b Zw4 (φ, H) = some (fput φ 12 (fget φ 5), H) := nf
theorem Z00R : stepA E C B 31 Z0b Zxf (φ, H) = stp (some 13) φ H (just (aBin E.T .eql 24 (fget φ 12) (.int .i64 0))) := nf
theorem Z01B : stepA E C B 31 Z0b Z29 (φ, H) = some (fput φ 14 (fget φ 13), H) := nf
theorem ZYs : stepA E C B 31 Z0b Zuk (φ, H) = gd φ 14 true (fun φ => some (fput φ 15 (.tup []), H)) (fun φ => some (fput φ 15 (fget φ 0), H)) := s_gd (j := 2) (oj := Z29) rfl rfl rfl (fun _ => rfl) (fun _ => rfl)
theorem ZWh : stepA E C B 31 Z0b ZwK (φ, H) = gd φ 14 true (fun φ => some (fput φ 16 (.tup []), H)) (fun φ => stp (some 16) φ H (Z2 E.T (B + 16) .len #[22] [(fget φ 15)])) := s_gd (j := 2) (oj := Z29) rfl rfl rfl (fun _ => rfl) (fun _ => rfl)
theorem ZTW : stepA E C B 31 Z0b Zv7 (φ, H) = gd φ 14 true (fun φ => some (fput φ 17 (.tup []), H)) (fun φ => some (fput φ 17 (fget φ 1), H)) := s_gd (j := 2) (oj := Z29) rfl rfl rfl (fun _ => rfl) (fun _ => rfl)
theorem ZTT : stepA E C B 31 Z0b ZwY (φ, H) = gd φ 14 true (fun φ => some (fput φ 18 (.tup []), H)) (fun φ => stp (some 18) φ H (Z2 E.T (B + 18) .len #[22] [(fget φ 17)])) := s_gd (j := 2) (oj := Z29) rfl rfl rfl (fun _ => rfl) (fun _ => rfl)
theorem ZUr : stepA E C B 31 Z0b Zvb (φ, H) = gd φ 14 true (fun φ => some (fput φ 19 (.tup []), H)) (fun φ => stp (some 19) φ H (just (aBin E.T .neq 3 (fget φ 16) (fget φ 18)))) := s_gd (j := 2) (oj := Z29) rfl rfl rfl (fun _ => rfl) (fun _ => rfl)
theorem Z012 : stepA E C B 31 Z0b ZsU (φ, H) = stp (some 20) φ H (opPick (fget φ 14) (fget φ 19) (.bool false)) := nf
def Z8Q := kR ZcF
def ZnX := kT Z8Q
def Zin := kO ZnX
def Zzg := opN Zin 0
theorem Z0b5 : XG 87 31 ZnX Zin [20] := Z1 (by rfl) (by rfl) _
theorem Z04N : Zin.toList = [Zzg] := nf
theorem ZZq : stepA E C B 31 Zin Zzg (φ, H) = some (fput φ 5 (.int .i64 5), H) := nf
def ZGT := kE Z8Q
theorem Z0c1 : execA E C (fg 87) B 31 E0 N ZGT s = some (.normal, s) := Ze (by rfl) s
theorem Z07U : XC 87 31 Z8Q 20 ZnX ZGT := Zb (by rfl) _
theorem Z09D : XQ 87 31 ZcF Zkr Z8Q := Z0 (by rfl) _
def Zac := kR Z9T
def Zct := kL Zac
def ZpD := kL Zct
def Z0a := kO ZpD
def ZAy := opN Z0a 0
def Zzx := opN Z0a 1
def Z2a := opN Z0a 2
def ZrW := opN Z0a 3
def ZvP := opN Z0a 4
def Ztq := opN Z0a 5
def Zu3 := opN Z0a 6
def Zwe := opN Z0a 7
def ZAq := opN Z0a 8
theorem Z06A : XG 87 31 ZpD Z0a [0, 1, 20, 21, 22, 23, 24, 25, 26, 27, 28] := Z1 (by rfl) (by rfl) _
theorem ZY3 : Z0a.toList = [ZAy, Zzx, Z2a, ZrW, ZvP, Ztq, Zu3, Zwe, ZAq] := nf
theorem Z00E : stepA E C B 31 Z0a ZAy (φ, H) = some (fput φ 21 (fget φ 5), H) := nf
theorem ZRP : stepA E C B 31 Z0a Zzx (φ, H) = stp (some 22) φ H (just (aBin E.T .eql 24 (fget φ 21) (.int .i64 0))) := nf
theorem ZZc : stepA E C B 31 Z0a Z2a (φ, H) = some (fput φ 23 (fget φ 22), H) := nf
theorem Z02s : stepA E C B 31 Z0a ZrW (φ, H) = gd φ 23 true (fun φ => some (fput φ 24 (.tup []), H)) (fun φ => some (fput φ 24 (fget φ 0), H)) := s_gd (j := 2) (oj := Z2a) rfl rfl rfl (fun _ => rfl) (fun _ => rfl)
theorem Z04C : stepA E C B 31 Z0a ZvP (φ, H) = gd φ 23 true (fun φ => some (fput φ 25 (.tup []), H)) (fun φ => stp (some 25) φ H (aCall C (fun j => B + j * 31 + 25) true 80 [(fget φ 24)])) := s_gd (j := 2) (oj := Z2a) rfl rfl rfl (fun _ => rfl) (fun _ => rfl)
theorem ZTF : stepA E C B 31 Z0a Ztq (φ, H) = gd φ 23 true (fun φ => some (fput φ 26 (.tup []), H)) (fun φ => some (fput φ 26 (fget φ 1), H)) := s_gd (j := 2) (oj := Z2a) rfl rfl rfl (fun _ => rfl) (fun _ => rfl)
theorem ZXJ : stepA E C B 31 Z0a Zu3 (φ, H) = gd φ 23 true (fun φ => some (fput φ 27 (.tup []), H)) (fun φ => stp (some 27) φ H (aCall C (fun j => B + j * 31 + 27) true 80 [(fget φ 26)])) := s_gd (j := 2) (oj := Z2a) rfl rfl rfl (fun _ => rfl) (fun _ => rfl)
theorem ZWu : stepA E C B 31 Z0a Zwe (φ, H) = gd φ 23 true (fun φ => some (fput φ 28 (.tup []), H)) (fun φ => stp (some 28) φ H (just (aBin E.T .neq 3 (fget φ 25) (fget φ 27)))) := s_gd (j := 2) (oj := Z2a) rfl rfl rfl (fun _ => rfl) (fun _ => rfl)
theorem Z032 : stepA E C B 31 Z0a ZAq (φ, H) = stp (some 29) φ H (opPick (fget φ 23) (fget φ 28) (.bool false)) := nf
def Zaj := kR Zct
def ZiT := kT Zaj
def ZgM := kO ZiT
def Zza := opN ZgM 0
theorem Z08Y : XG 87 31 ZiT ZgM [29] := Z1 (by rfl) (by rfl) _
theorem Z02Y : ZgM.toList = [Zza] := nf
theorem ZSg : stepA E C B 31 ZgM Zza (φ, H) = some (fput φ 5 (.int .i64 17), H) := nf
def ZJ6 := kE Zaj
theorem Z06d : execA E C (fg 87) B 31 E0 N ZJ6 s = some (.normal, s) := Ze (by rfl) s
theorem Z0fb : XC 87 31 Zaj 29 ZiT ZJ6 := Zb (by rfl) _
theorem Z0b1 : XQ 87 31 Zct ZpD Zaj := Z0 (by rfl) _
def Z9x := kR Zac
def Zli := kL Z9x
def Z72 := kO Zli
def ZsJ := opN Z72 0
def Zz1 := opN Z72 1
theorem Z07Z : XG 87 31 Zli Z72 [5, 29, 30] := Z1 (by rfl) (by rfl) _
theorem ZZI : Z72.toList = [ZsJ, Zz1] := nf
theorem Z00S : stepA E C B 31 Z72 ZsJ (φ, H) = some (fput φ 30 (fget φ 5), H) := nf
theorem ZZp : stepA E C B 31 Z72 Zz1 (φ, H) = some (fput φ 4 (fget φ 30), H) := nf
def ZEM := kR Z9x
theorem Z08j : execA E C (fg 87) B 31 E0 N ZEM s = some (.ret, s) := Zj (by rfl) s
theorem Z0bn : XQ 87 31 Z9x Zli ZEM := Z0 (by rfl) _
theorem Z08n : XQ 87 31 Zac Zct Z9x := Z0 (by rfl) _
theorem Z0eC : XQ 87 31 Z9T ZcF Zac := Z0 (by rfl) _
theorem Z0jk : XQ 87 31 ZgC Zip Z9T := Z0 (by rfl) _
theorem Z0hX : XQ 87 31 Zit ZBW ZgC := Z0 (by rfl) _
theorem Z0go : XQ 87 31 Z8W ZBs Zit := Z0 (by rfl) _
theorem Z0i6 : fInfo E 87 = some ⟨31, #[.tmp 4], Z8W⟩ := nf
theorem b_87 (args : List AV) : bodyA E C fg N 87 args H B = bodyX E [.tmp 4] (execA E C (fg 87) B 31 H N Z8W (Z4 args 0 [], H)) := Zq Z0i6 args H
abbrev F_87 := And.intro (And.intro (And.intro (And.intro (And.intro (And.intro @Z0fD @Z01i) (And.intro @Z05J @Z0j3)) (And.intro (And.intro @ZST @Z00Y) (And.intro @Z052 @ZWo))) (And.intro (And.intro (And.intro @Z0iI @Z00i) (And.intro @ZYP @ZVQ)) (And.intro (And.intro @Z0iQ @ZXC) (And.intro @ZWW @ZYb)))) (And.intro (And.intro (And.intro (And.intro @Z04M @Z0k9) (And.intro @Z0hE @Z0iZ)) (And.intro (And.intro @Z09u @Z05t) (And.intro @Z05Y @Z00R))) (And.intro (And.intro (And.intro @Z01B @ZYs) (And.intro @ZWh @ZTW)) (And.intro (And.intro @ZTT @ZUr) (And.intro @Z012 (And.intro @Z0b5 @Z04N)))))) (And.intro (And.intro (And.intro (And.intro (And.intro @ZZq @Z0c1) (And.intro @Z07U @Z09D)) (And.intro (And.intro @Z06A @ZY3) (And.intro @Z00E @ZRP))) (And.intro (And.intro (And.intro @ZZc @Z02s) (And.intro @Z04C @ZTF)) (And.intro (And.intro @ZXJ @ZWu) (And.intro @Z032 @Z08Y)))) (And.intro (And.intro (And.intro (And.intro @Z02Y @ZSg) (And.intro @Z06d @Z0fb)) (And.intro (And.intro @Z0b1 @Z07Z) (And.intro @ZZI @Z00S))) (And.intro (And.intro (And.intro @ZZp @Z08j) (And.intro @Z0bn @Z08n)) (And.intro (And.intro @Z0eC @Z0jk) (And.intro @Z0hX (And.intro @Z0go @b_87))))))
def ZaG := kBody Proofs.Try.f97
def ZCU := kL ZaG
def Zhi := kO ZCU
def ZAQ := opN Zhi 0
theorem Z0fL : XG 97 47 ZCU Zhi [6] := Z1 (by rfl) (by rfl) _
theorem Z03w : Zhi.toList = [ZAQ] := nf
theorem ZVf : stepA E C B 47 Zhi ZAQ (φ, H) = some (fput φ 6 (.nilsl), H) := nf
def ZgS := kR ZaG
def Zhj := kL ZgS
def ZBv := kL Zhj
def Z78 := kO ZBv
def ZAc := opN Z78 0
def Zzp := opN Z78 1
theorem Z0fS : XG 97 47 ZBv Z78 [11] := Z1 (by rfl) (by rfl) _
theorem Z027 : Z78.toList = [ZAc, Zzp] := nf
theorem ZZG : stepA E C B 47 Z78 ZAc (φ, H) = some (fput φ 11 (fget φ 0), H) := nf
theorem Z00V : stepA E C B 47 Z78 Zzp (φ, H) = stp (some 12) φ H (just (aBin E.T .eql 3 (fget φ 11) (.int .i64 0))) := nf
def ZhD := kR Zhj
def Zhn := kT ZhD
def ZgI := kL Zhn
def ZD7 := kL ZgI
def Z6w := kO ZD7
def ZyG := opN Z6w 0
def Zym := opN Z6w 1
theorem Z0iJ : XG 97 47 ZD7 Z6w [0, 1, 2, 12, 13] := Z1 (by rfl) (by rfl) _
theorem Z011 : Z6w.toList = [ZyG, Zym] := nf
theorem Z00h : stepA E C B 47 Z6w ZyG (φ, H) = some (fput φ 13 (fget φ 1), H) := nf
theorem Z05m : stepA E C B 47 Z6w Zym (φ, H) = stp (some 14) φ H (just (aBin E.T .gtr 3 (fget φ 13) (.int .i64 0))) := nf
def Zhh := kR ZgI
def ZcD := kT Zhh
def ZpV := kL ZcD
def Zir := kO ZpV
def Zy7 := opN Zir 0
theorem Z09q : XG 97 47 ZpV Zir [14] := Z1 (by rfl) (by rfl) _
theorem ZT8 : Zir.toList = [Zy7] := nf
theorem Z023 : stepA E C B 47 Zir Zy7 (φ, H) = some (fput φ 6 (.nilsl), H) := nf
def ZEb := kR ZcD
theorem Z06W : execA E C (fg 97) B 47 E0 N ZEb s = some (.ret, s) := Zj (by rfl) s
theorem Z07k : XQ 97 47 ZcD ZpV ZEb := Z0 (by rfl) _
def ZIs := kE Zhh
theorem Z0aM : execA E C (fg 97) B 47 E0 N ZIs s = some (.normal, s) := Ze (by rfl) s
theorem Z0gO : XC 97 47 Zhh 14 ZcD ZIs := Zb (by rfl) _
theorem Z0jc : XQ 97 47 ZgI ZD7 Zhh := Z0 (by rfl) _
def ZbV := kR Zhn
def ZjJ := kL ZbV
def Z6M := kO ZjJ
def ZsH := opN Z6M 0
def ZAL := opN Z6M 1
theorem Z0cF : XG 97 47 ZjJ Z6M [14, 15] := Z1 (by rfl) (by rfl) _
theorem ZUy : Z6M.toList = [ZsH, ZAL] := nf
theorem Z04o : stepA E C B 47 Z6M ZsH (φ, H) = stp (some 15) φ H (Z8 E.T (B + 15) 39 1 (evO E φ) [(0, Operand.const (Value.slice none 0 0))]) := nf
theorem Z03s : stepA E C B 47 Z6M ZAL (φ, H) = some (fput φ 6 (fget φ 15), H) := nf
def ZHS := kR ZbV
theorem Z08B : execA E C (fg 97) B 47 E0 N ZHS s = some (.ret, s) := Zj (by rfl) s
theorem Z06M : XQ 97 47 ZbV ZjJ ZHS := Z0 (by rfl) _
theorem Z0gB : XQ 97 47 Zhn ZgI ZbV := Z0 (by rfl) _
def ZFC := kE ZhD
theorem Z0aR : execA E C (fg 97) B 47 E0 N ZFC s = some (.normal, s) := Ze (by rfl) s
theorem Z0km : XC 97 47 ZhD 12 Zhn ZFC := Zb (by rfl) _
theorem Z0ht : XQ 97 47 Zhj ZBv ZhD := Z0 (by rfl) _
def Z8T := kR ZgS
def Zp8 := kL Z8T
def ZgE := kO Zp8
def Zsh := opN ZgE 0
theorem Z0f7 : XG 97 47 Zp8 ZgE [12] := Z1 (by rfl) (by rfl) _
theorem ZYC : ZgE.toList = [Zsh] := nf
theorem ZSM : stepA E C B 47 ZgE Zsh (φ, H) = some (fput φ 7 (.nilsl), H) := nf
def Zb1 := kR Z8T
def Zc7 := kL Zb1
def Zml := kL Zc7
def Z2A := kO Zml
def ZAu := opN Z2A 0
def Zwt := opN Z2A 1
def Zuv := opN Z2A 2
def Zus := opN Z2A 3
theorem Z06a : XG 97 47 Zml Z2A [2, 16, 17, 18] := Z1 (by rfl) (by rfl) _
theorem ZTd : Z2A.toList = [ZAu, Zwt, Zuv, Zus] := nf
theorem Z01r : stepA E C B 47 Z2A ZAu (φ, H) = some (fput φ 16 (fget φ 2), H) := nf
theorem ZRO : stepA E C B 47 Z2A Zwt (φ, H) = some (fput φ 17 (fget φ 1), H) := nf
theorem ZZf : stepA E C B 47 Z2A Zuv (φ, H) = stp (some 18) φ H (Z2 E.T (B + 18) .min #[3, 3] [(fget φ 16), (fget φ 17)]) := nf
theorem ZXH : stepA E C B 47 Z2A Zus (φ, H) = some (fput φ 8 (fget φ 18), H) := nf
def ZmQ := kR Zc7
def ZjY := kB ZmQ
def Z4Y := kB ZjY
def Zbh := kL Z4Y
def ZnY := kL Zbh
def Z7D := kO ZnY
def Zzr := opN Z7D 0
def ZA0 := opN Z7D 1
theorem Z0eo : XG 97 47 ZnY Z7D [19] := Z1 (by rfl) (by rfl) _
theorem ZTP : Z7D.toList = [Zzr, ZA0] := nf
theorem Z046 : stepA E C B 47 Z7D Zzr (φ, H) = some (fput φ 19 (fget φ 8), H) := nf
theorem ZWV : stepA E C B 47 Z7D ZA0 (φ, H) = stp (some 20) φ H (just (aBin E.T .geq 3 (fget φ 19) (.int .i64 0))) := nf
def Zc2 := kR Zbh
def ZJi := kT Zc2
theorem Z07H : execA E C (fg 97) B 47 E0 N ZJi s = some (.normal, s) := Ze (by rfl) s
def ZFr := kE Zc2
theorem Z09T : execA E C (fg 97) B 47 E0 N ZFr s = some (.exit 0, s) := ZL (by rfl) s
theorem Z0c0 : XC 97 47 Zc2 20 ZJi ZFr := Zb (by rfl) _
theorem Z06y : XQ 97 47 Zbh ZnY Zc2 := Z0 (by rfl) _
def Zcx := kR Z4Y
def ZoP := kL Zcx
def ZbD := kB ZoP
def Zju := kL ZbD
def Z0p := kO Zju
def ZAo := opN Z0p 0
def Zw3 := opN Z0p 1
def ZzG := opN Z0p 2
def Zto := opN Z0p 3
def ZA9 := opN Z0p 4
def Zvg := opN Z0p 5
def ZrN := opN Z0p 6
def ZzQ := opN Z0p 7
theorem Z0dE : XG 97 47 Zju Z0p [20, 23, 24, 25, 26, 27, 28, 29] := Z1 (by rfl) (by rfl) _
theorem Z00a : Z0p.toList = [ZAo, Zw3, ZzG, Zto, ZA9, Zvg, ZrN, ZzQ] := nf
theorem Z03f : stepA E C B 47 Z0p ZAo (φ, H) = some (fput φ 23 (fget φ 0), H) := nf
theorem ZVH : stepA E C B 47 Z0p Zw3 (φ, H) = stp (some 24) φ H (just (aBin E.T .sub 3 (fget φ 23) (.int .i64 1))) := nf
theorem ZU6 : stepA E C B 47 Z0p ZzG (φ, H) = some (fput φ 25 (fget φ 1), H) := nf
theorem ZVd : stepA E C B 47 Z0p Zto (φ, H) = some (fput φ 26 (fget φ 8), H) := nf
theorem ZYl : stepA E C B 47 Z0p ZA9 (φ, H) = stp (some 27) φ H (just (aBin E.T .sub 3 (fget φ 25) (fget φ 26))) := nf
theorem ZSO : stepA E C B 47 Z0p Zvg (φ, H) = some (fput φ 28 (fget φ 8), H) := nf
theorem ZS3 : stepA E C B 47 Z0p ZrN (φ, H) = stp (some 29) φ H (aCall C (fun j => B + j * 47 + 29) true 97 [(fget φ 24), (fget φ 27), (fget φ 28)]) := nf
theorem ZZk : stepA E C B 47 Z0p ZzQ (φ, H) = some (fput φ 9 (fget φ 29), H) := nf
def Zcw := kR ZbD
def Zq3 := kL Zcw
def Z9F := kO Zq3
def Zjd := opN Z9F 0
theorem Z0dI : XG 97 47 Zq3 Z9F [] := Z1 (by rfl) (by rfl) _
theorem ZQX : Z9F.toList = [Zjd] := nf
theorem ZOw : stepA E C B 47 Z9F Zjd (φ, H) = some (fput φ 10 (.int .i64 0), H) := nf
def ZjC := kR Zcw
def ZmE := kB ZjC
def Z3K := kB ZmE
def ZaD := kL Z3K
def Zq8 := kL ZaD
def Z1C := kO Zq8
def Zny := opN Z1C 0
def ZiB := opN Z1C 1
def Zl8 := opN Z1C 2
def ZoK := opN Z1C 3
theorem Z0f8 : XG 97 47 Zq8 Z1C [30, 31, 32] := Z1 (by rfl) (by rfl) _
theorem ZNZ : Z1C.toList = [Zny, ZiB, Zl8, ZoK] := nf
theorem ZQe : stepA E C B 47 Z1C Zny (φ, H) = some (fput φ 30 (fget φ 10), H) := nf
theorem ZNB : stepA E C B 47 Z1C ZiB (φ, H) = some (fput φ 31 (fget φ 9), H) := nf
theorem ZMA : stepA E C B 47 Z1C Zl8 (φ, H) = stp (some 32) φ H (Z2 E.T (B + 32) .len #[39] [(fget φ 31)]) := nf
theorem ZJT : stepA E C B 47 Z1C ZoK (φ, H) = stp (some 33) φ H (just (aBin E.T .lss 3 (fget φ 30) (fget φ 32))) := nf
def Z8E := kR ZaD
def ZHO := kT Z8E
theorem Z0eh : execA E C (fg 97) B 47 E0 N ZHO s = some (.normal, s) := Ze (by rfl) s
def ZGx := kE Z8E
theorem Z0ch : execA E C (fg 97) B 47 E0 N ZGx s = some (.exit 2, s) := ZL (by rfl) s
theorem Z0eV : XC 97 47 Z8E 33 ZHO ZGx := Zb (by rfl) _
theorem Z08P : XQ 97 47 ZaD Zq8 Z8E := Z0 (by rfl) _
def Zck := kR Z3K
def Zj6 := kL Zck
def Zj9 := kB Zj6
def ZG := kO Zj9
def Zl3 := opN ZG 0
def Zno := opN ZG 1
def ZqE := opN ZG 2
def ZmB := opN ZG 3
def ZqC := opN ZG 4
def Zky := opN ZG 5
def ZlL := opN ZG 6
def ZoL := opN ZG 7
def Zpr := opN ZG 8
def Zlu := opN ZG 9
def Zg4 := opN ZG 10
theorem Z0b3 : XG 97 47 Zj9 ZG [33, 36, 37, 38, 39, 40, 41, 42, 43, 44, 45] := Z1 (by rfl) (by rfl) _
theorem ZNy : ZG.toList = [Zl3, Zno, ZqE, ZmB, ZqC, Zky, ZlL, ZoL, Zpr, Zlu, Zg4] := nf
theorem ZMc : stepA E C B 47 ZG Zl3 (φ, H) = some (fput φ 36 (fget φ 7), H) := nf
theorem ZQR : stepA E C B 47 ZG Zno (φ, H) = some (fput φ 37 (fget φ 8), H) := nf
theorem ZJz : stepA E C B 47 ZG ZqE (φ, H) = stp (some 38) φ H (Z8 E.T (B + 38) 22 1 (evO E φ) [(0, Operand.tmp 37)]) := nf
theorem ZJy : stepA E C B 47 ZG ZmB (φ, H) = some (fput φ 39 (fget φ 9), H) := nf
theorem ZQ1 : stepA E C B 47 ZG ZqC (φ, H) = some (fput φ 40 (fget φ 10), H) := nf
theorem ZKw : stepA E C B 47 ZG Zky (φ, H) = stp (some 41) φ H (just (Z3 E.T 39 (fget φ 39) (fget φ 40))) := nf
theorem ZNT : stepA E C B 47 ZG ZlL (φ, H) = stp (some 42) φ H (just (aLoad E.T 22 (fget φ 41))) := nf
theorem ZLA : stepA E C B 47 ZG ZoL (φ, H) = stp (some 43) φ H (Z2 E.T (B + 43) .append #[22, 22] [(fget φ 38), (fget φ 42)]) := nf
theorem ZPr : stepA E C B 47 ZG Zpr (φ, H) = stp (some 44) φ H (Z8 E.T (B + 44) 39 1 (evO E φ) [(0, Operand.tmp 43)]) := nf
theorem ZNn : stepA E C B 47 ZG Zlu (φ, H) = stp (some 45) φ H (Z2 E.T (B + 45) .append #[39, 39] [(fget φ 36), (fget φ 44)]) := nf
theorem ZDD : stepA E C B 47 ZG Zg4 (φ, H) = some (fput φ 7 (fget φ 45), H) := nf
theorem Z0eS : execA E C (fg 97) B 47 E0 N Zj6 s = blockX 3 (fun s => (forget s.1 [], s.2)) (execA E C (fg 97) B 47 E0 N Zj9 s) := Zf (by rfl) (by rfl) s
def ZlR := kR Zck
def Z2E := kO ZlR
def ZlG := opN Z2E 0
def ZlJ := opN Z2E 1
def Zjj := opN Z2E 2
theorem Z0aQ : XG 97 47 ZlR Z2E [34, 35] := Z1 (by rfl) (by rfl) _
theorem ZOe : Z2E.toList = [ZlG, ZlJ, Zjj] := nf
theorem ZQ3 : stepA E C B 47 Z2E ZlG (φ, H) = some (fput φ 34 (fget φ 10), H) := nf
theorem ZK4 : stepA E C B 47 Z2E ZlJ (φ, H) = stp (some 35) φ H (just (aBin E.T .add 3 (fget φ 34) (.int .i64 1))) := nf
theorem ZKJ : stepA E C B 47 Z2E Zjj (φ, H) = some (fput φ 10 (fget φ 35), H) := nf
theorem Z08N : XQ 97 47 Zck Zj6 ZlR := Z0 (by rfl) _
theorem Z0aq : XQ 97 47 Z3K ZaD Zck := Z0 (by rfl) _
theorem Z09N : execA E C (fg 97) B 47 E0 N ZmE s = iterA (execA E C (fg 97) B 47 E0 N Z3K) (headA E0) N s := ZM (by rfl) s
theorem Z06R : execA E C (fg 97) B 47 E0 N ZjC s = blockX 2 (fun s => (forget s.1 [9, 10, 33], s.2)) (execA E C (fg 97) B 47 E0 N ZmE s) := Zf (by rfl) (by rfl) s
theorem Z0bq : XQ 97 47 Zcw Zq3 ZjC := Z0 (by rfl) _
theorem Z07g : XQ 97 47 ZbD Zju Zcw := Z0 (by rfl) _
theorem Z0aA : execA E C (fg 97) B 47 E0 N ZoP s = blockX 1 (fun s => (forget s.1 [], s.2)) (execA E C (fg 97) B 47 E0 N ZbD s) := Zf (by rfl) (by rfl) s
def Zre := kR Zcx
def Z41 := kO Zre
def Zwj := opN Z41 0
def ZAz := opN Z41 1
def Zvq := opN Z41 2
theorem Z072 : XG 97 47 Zre Z41 [21, 22] := Z1 (by rfl) (by rfl) _
theorem ZTG : Z41.toList = [Zwj, ZAz, Zvq] := nf
theorem Z01D : stepA E C B 47 Z41 Zwj (φ, H) = some (fput φ 21 (fget φ 8), H) := nf
theorem Z042 : stepA E C B 47 Z41 ZAz (φ, H) = stp (some 22) φ H (just (aBin E.T .sub 3 (fget φ 21) (.int .i64 1))) := nf
theorem ZVS : stepA E C B 47 Z41 Zvq (φ, H) = some (fput φ 8 (fget φ 22), H) := nf
theorem Z07z : XQ 97 47 Zcx ZoP Zre := Z0 (by rfl) _
theorem Z0d8 : XQ 97 47 Z4Y Zbh Zcx := Z0 (by rfl) _
theorem Z0cT : execA E C (fg 97) B 47 E0 N ZjY s = iterA (execA E C (fg 97) B 47 E0 N Z4Y) (headA E0) N s := ZM (by rfl) s
theorem Z079 : execA E C (fg 97) B 47 E0 N ZmQ s = blockX 0 (fun s => (forget s.1 [0, 1, 8, 20], s.2)) (execA E C (fg 97) B 47 E0 N ZjY s) := Zf (by rfl) (by rfl) s
theorem Z0b7 : XQ 97 47 Zc7 Zml ZmQ := Z0 (by rfl) _
def ZbB := kR Zb1
def ZlN := kL ZbB
def Z4H := kO ZlN
def Zod := opN Z4H 0
def ZjK := opN Z4H 1
theorem Z0eO : XG 97 47 ZlN Z4H [7, 46] := Z1 (by rfl) (by rfl) _
theorem ZRj : Z4H.toList = [Zod, ZjK] := nf
theorem ZKV : stepA E C B 47 Z4H Zod (φ, H) = some (fput φ 46 (fget φ 7), H) := nf
theorem ZNg : stepA E C B 47 Z4H ZjK (φ, H) = some (fput φ 6 (fget φ 46), H) := nf
def ZIm := kR ZbB
theorem Z093 : execA E C (fg 97) B 47 E0 N ZIm s = some (.ret, s) := Zj (by rfl) s
theorem Z06v : XQ 97 47 ZbB ZlN ZIm := Z0 (by rfl) _
theorem Z0dw : XQ 97 47 Zb1 Zc7 ZbB := Z0 (by rfl) _
theorem Z08p : XQ 97 47 Z8T Zp8 Zb1 := Z0 (by rfl) _
theorem Z0in : XQ 97 47 ZgS Zhj Z8T := Z0 (by rfl) _
theorem Z0ha : XQ 97 47 ZaG ZCU ZgS := Z0 (by rfl) _
theorem Z0je : fInfo E 97 = some ⟨47, #[.tmp 6], ZaG⟩ := nf
theorem b_97 (args : List AV) : bodyA E C fg N 97 args H B = bodyX E [.tmp 6] (execA E C (fg 97) B 47 H N ZaG (Z4 args 0 [], H)) := Zq Z0je args H
abbrev F_97 := And.intro (And.intro (And.intro (And.intro (And.intro (And.intro @Z0fL (And.intro @Z03w @ZVf)) (And.intro (And.intro @Z0fS @Z027) (And.intro @ZZG @Z00V))) (And.intro (And.intro @Z0iJ (And.intro @Z011 @Z00h)) (And.intro (And.intro @Z05m @Z09q) (And.intro @ZT8 @Z023)))) (And.intro (And.intro (And.intro @Z06W (And.intro @Z07k @Z0aM)) (And.intro (And.intro @Z0gO @Z0jc) (And.intro @Z0cF @ZUy))) (And.intro (And.intro (And.intro @Z04o @Z03s) (And.intro @Z08B @Z06M)) (And.intro (And.intro @Z0gB @Z0aR) (And.intro @Z0km @Z0ht))))) (And.intro (And.intro (And.intro (And.intro @Z0f7 (And.intro @ZYC @ZSM)) (And.intro (And.intro @Z06a @ZTd) (And.intro @Z01r @ZRO))) (And.intro (And.intro @ZZf (And.intro @ZXH @Z0eo)) (And.intro (And.intro @ZTP @Z046) (And.intro @ZWV @Z07H)))) (And.intro (And.intro (And.intro @Z09T (And.intro @Z0c0 @Z06y)) (And.intro (And.intro @Z0dE @Z00a) (And.intro @Z03f @ZVH))) (And.intro (And.intro (And.intro @ZU6 @ZVd) (And.intro @ZYl @ZSO)) (And.intro (And.intro @ZS3 @ZZk) (And.intro @Z0dI @ZQX)))))) (And.intro (And.intro (And.intro (And.intro (And.intro @ZOw (And.intro @Z0f8 @ZNZ)) (And.intro (And.intro @ZQe @ZNB) (And.intro @ZMA @ZJT))) (And.intro (And.intro @Z0eh (And.intro @Z0ch @Z0eV)) (And.intro (And.intro @Z08P @Z0b3) (And.intro @ZNy @ZMc)))) (And.intro (And.intro (And.intro @ZQR (And.intro @ZJz @ZJy)) (And.intro (And.intro @ZQ1 @ZKw) (And.intro @ZNT @ZLA))) (And.intro (And.intro (And.intro @ZPr @ZNn) (And.intro @ZDD @Z0eS)) (And.intro (And.intro @Z0aQ @ZOe) (And.intro @ZQ3 @ZK4))))) (And.intro (And.intro (And.intro (And.intro @ZKJ (And.intro @Z08N @Z0aq)) (And.intro (And.intro @Z09N @Z06R) (And.intro @Z0bq @Z07g))) (And.intro (And.intro @Z0aA (And.intro @Z072 @ZTG)) (And.intro (And.intro @Z01D @Z042) (And.intro @ZVS @Z07z)))) (And.intro (And.intro (And.intro @Z0d8 (And.intro @Z0cT @Z079)) (And.intro (And.intro @Z0b7 @Z0eO) (And.intro @ZRj @ZKV))) (And.intro (And.intro (And.intro @ZNg @Z093) (And.intro @Z06v @Z0dw)) (And.intro (And.intro @Z08p @Z0in) (And.intro @Z0ha @b_97))))))
def Z5y := kBody Proofs.Try.f118
def Zpa := kL Z5y
def Z9f := kO Zpa
def Zo8 := opN Z9f 0
theorem Z0da : XG 118 21 Zpa Z9f [4] := Z1 (by rfl) (by rfl) _
theorem ZO7 : Z9f.toList = [Zo8] := nf
theorem ZJO : stepA E C B 21 Z9f Zo8 (φ, H) = some (fput φ 4 (.bool false), H) := nf
def Za5 := kR Z5y
def Z9K := kL Za5
def Zok := kL Z9K
def Zal := kO Zok
def Zlh := opN Zal 0
theorem Z0f0 : XG 118 21 Zok Zal [] := Z1 (by rfl) (by rfl) _
theorem ZN7 : Zal.toList = [Zlh] := nf
theorem ZPX : stepA E C B 21 Zal Zlh (φ, H) = some (fput φ 5 (.int .i64 0), H) := nf
def Zkc := kR Z9K
def ZnC := kB Zkc
def Z5Y := kB ZnC
def Z8R := kL Z5Y
def Zmm := kL Z8R
def Z1G := kO Zmm
def ZkN := opN Z1G 0
def Zmx := opN Z1G 1
def Zl4 := opN Z1G 2
def ZqD := opN Z1G 3
theorem Z08g : XG 118 21 Zmm Z1G [6, 7, 8] := Z1 (by rfl) (by rfl) _
theorem ZPV : Z1G.toList = [ZkN, Zmx, Zl4, ZqD] := nf
theorem ZJq : stepA E C B 21 Z1G ZkN (φ, H) = some (fput φ 6 (fget φ 5), H) := nf
theorem ZL7 : stepA E C B 21 Z1G Zmx (φ, H) = some (fput φ 7 (fget φ 0), H) := nf
theorem ZKt : stepA E C B 21 Z1G Zl4 (φ, H) = stp (some 8) φ H (Z2 E.T (B + 8) .len #[22] [(fget φ 7)]) := nf
theorem ZLo : stepA E C B 21 Z1G ZqD (φ, H) = stp (some 9) φ H (just (aBin E.T .leq 3 (fget φ 6) (fget φ 8))) := nf
def Z6a := kR Z8R
def Zs8 := kT Z6a
theorem ZZZ : execA E C (fg 118) B 21 E0 N Zs8 s = some (.normal, s) := Ze (by rfl) s
def ZyV := kE Z6a
theorem Z019 : execA E C (fg 118) B 21 E0 N ZyV s = some (.exit 0, s) := ZL (by rfl) s
theorem Z043 : XC 118 21 Z6a 9 Zs8 ZyV := Zb (by rfl) _
theorem Z0eR : XQ 118 21 Z8R Zmm Z6a := Z0 (by rfl) _
def Z6A := kR Z5Y
def Zdf := kL Z6A
def Z7r := kB Zdf
def Zd8 := kL Z7r
def ZB := kO Zd8
def Znq := opN ZB 0
def Zqq := opN ZB 1
def Zj4 := opN ZB 2
def Zqc := opN ZB 3
def Zpy := opN ZB 4
def Zkx := opN ZB 5
def Zq7 := opN ZB 6
def ZnL := opN ZB 7
def Zox := opN ZB 8
theorem ZVR : XD 118 21 Zd8 ZB [9, 12, 13, 14, 15, 16, 17, 18, 19] := Z3I (by rfl) (by rfl) _
theorem ZMm : ZB.toList = [Znq, Zqq, Zj4, Zqc, Zpy, Zkx, Zq7, ZnL, Zox] := nf
theorem ZIr : statOk ZB = true := by kernel_rfl
theorem ZHZ : drawA E C B 21 ZB s = if neat 21 s = true then drX ZB (runT E C B 21 ZB ZB.toList 0 s) else none := Z2e ZIr s
theorem ZFM (l : List (Nat × Tr)) : dynOk ZB l = (!writing l || Zo [[], [], [0, 1], [0, 1, 2], [], [], [4, 5], [0, 1, 2, 3, 4, 5, 6], [0, 1, 2, 3, 4, 5, 6, 7]] (Zm l)) := Z1P (by kernel_rfl) l
theorem ZLS : stepT E C B 21 ZB Znq (φ, H) = some ((fput φ 12 (fget φ 0), H), ⟨false, [], []⟩) := Z9 rfl (Zh rfl rfl)
theorem ZOE : stepT E C B 21 ZB Zqq (φ, H) = some ((fput φ 13 (fget φ 5), H), ⟨false, [], []⟩) := Z9 rfl (Zh rfl rfl)
theorem ZRf : stepT E C B 21 ZB Zj4 (φ, H) = stpT (some 14) φ H (just (aSlice E.T 22 (fget φ 12) none (some (fget φ 13)) none)) := Z9 rfl (Zi rfl rfl)
theorem ZNC : stepT E C B 21 ZB Zqc (φ, H) = stpT (some 15) φ H (aCall C (fun j => B + j * 21 + 15) true 80 [(fget φ 14)]) := Z9 rfl (Zi rfl rfl)
theorem ZKb : stepT E C B 21 ZB Zpy (φ, H) = some ((fput φ 16 (fget φ 1), H), ⟨false, [], []⟩) := Z9 rfl (Zh rfl rfl)
theorem ZLw : stepT E C B 21 ZB Zkx (φ, H) = some ((fput φ 17 (fget φ 5), H), ⟨false, [], []⟩) := Z9 rfl (Zh rfl rfl)
theorem ZJI : stepT E C B 21 ZB Zq7 (φ, H) = stpT (some 18) φ H (just (aSlice E.T 22 (fget φ 16) none (some (fget φ 17)) none)) := Z9 rfl (Zi rfl rfl)
theorem ZQW : stepT E C B 21 ZB ZnL (φ, H) = stpT (some 19) φ H (aCall C (fun j => B + j * 21 + 19) true 80 [(fget φ 18)]) := Z9 rfl (Zi rfl rfl)
theorem ZQh : stepT E C B 21 ZB Zox (φ, H) = stpT (some 20) φ H (just (aBin E.T .lss 3 (fget φ 15) (fget φ 19))) := Z9 rfl (Zi rfl rfl)
def Z7o := kR Z7r
def Z7F := kT Z7o
def Zdu := kL Z7F
def ZaL := kO Zdu
def ZnK := opN ZaL 0
theorem ZTu : XG 118 21 Zdu ZaL [0, 1, 5, 20] := Z1 (by rfl) (by rfl) _
theorem ZJR : ZaL.toList = [ZnK] := nf
theorem ZMq : stepA E C B 21 ZaL ZnK (φ, H) = some (fput φ 4 (.bool false), H) := nf
def Zy2 := kR Z7F
theorem ZSN : execA E C (fg 118) B 21 E0 N Zy2 s = some (.ret, s) := Zj (by rfl) s
theorem Z05O : XQ 118 21 Z7F Zdu Zy2 := Z0 (by rfl) _
def ZrI := kE Z7o
theorem ZZ5 : execA E C (fg 118) B 21 E0 N ZrI s = some (.normal, s) := Ze (by rfl) s
theorem Z04G : XC 118 21 Z7o 20 Z7F ZrI := Zb (by rfl) _
theorem ZVT : XQ 118 21 Z7r Zd8 Z7o := Z0 (by rfl) _
theorem Z03Q : execA E C (fg 118) B 21 E0 N Zdf s = blockX 1 (fun s => (forget s.1 [20], s.2)) (execA E C (fg 118) B 21 E0 N Z7r s) := Zf (by rfl) (by rfl) s
def ZdN := kR Z6A
def Z32 := kO ZdN
def Zmg := opN Z32 0
def Znp := opN Z32 1
def Zpj := opN Z32 2
theorem Z02i : XG 118 21 ZdN Z32 [10, 11] := Z1 (by rfl) (by rfl) _
theorem ZLf : Z32.toList = [Zmg, Znp, Zpj] := nf
theorem ZOt : stepA E C B 21 Z32 Zmg (φ, H) = some (fput φ 10 (fget φ 5), H) := nf
theorem ZKp : stepA E C B 21 Z32 Znp (φ, H) = stp (some 11) φ H (just (aBin E.T .add 3 (fget φ 10) (.int .i64 1))) := nf
theorem ZND : stepA E C B 21 Z32 Zpj (φ, H) = some (fput φ 5 (fget φ 11), H) := nf
theorem ZXR : XQ 118 21 Z6A Zdf ZdN := Z0 (by rfl) _
theorem Z0eJ : XQ 118 21 Z5Y Z8R Z6A := Z0 (by rfl) _
theorem Z0bi : execA E C (fg 118) B 21 E0 N ZnC s = iterA (execA E C (fg 118) B 21 E0 N Z5Y) (headA E0) N s := ZM (by rfl) s
theorem Z0c4 : execA E C (fg 118) B 21 E0 N Zkc s = blockX 0 (fun s => (forget s.1 [0, 1, 5, 9], s.2)) (execA E C (fg 118) B 21 E0 N ZnC s) := Zf (by rfl) (by rfl) s
theorem Z09P : XQ 118 21 Z9K Zok Zkc := Z0 (by rfl) _
def Z7t := kR Za5
def Zdc := kL Z7t
def Zbu := kO Zdc
def ZmU := opN Zbu 0
theorem Z02q : XG 118 21 Zdc Zbu [] := Z1 (by rfl) (by rfl) _
theorem ZKv : Zbu.toList = [ZmU] := nf
theorem ZJL : stepA E C B 21 Zbu ZmU (φ, H) = some (fput φ 4 (.bool true), H) := nf
def ZyI := kR Z7t
theorem ZVi : execA E C (fg 118) B 21 E0 N ZyI s = some (.ret, s) := Zj (by rfl) s
theorem Z03t : XQ 118 21 Z7t Zdc ZyI := Z0 (by rfl) _
theorem Z0co : XQ 118 21 Za5 Z9K Z7t := Z0 (by rfl) _
theorem Z06r : XQ 118 21 Z5y Zpa Za5 := Z0 (by rfl) _
theorem Z0bY : fInfo E 118 = some ⟨21, #[.tmp 4], Z5y⟩ := nf
theorem Z0hI (args : List AV) : bodyA E C fg N 118 args H B = bodyX E [.tmp 4] (execA E C (fg 118) B 21 H N Z5y (Z4 args 0 [], H)) := Zq Z0bY args H
abbrev Z9q := And.intro (And.intro (And.intro (And.intro (And.intro @Z0da (And.intro @ZO7 @ZJO)) (And.intro (And.intro @Z0f0 @ZN7) (And.intro @ZPX @Z08g))) (And.intro (And.intro @ZPV (And.intro @ZJq @ZL7)) (And.intro (And.intro @ZKt @ZLo) (And.intro @ZZZ @Z019)))) (And.intro (And.intro (And.intro @Z043 (And.intro @Z0eR @ZVR)) (And.intro (And.intro @ZMm @ZHZ) (And.intro @ZFM @ZLS))) (And.intro (And.intro @ZOE (And.intro @ZRf @ZNC)) (And.intro (And.intro @ZKb @ZLw) (And.intro @ZJI @ZQW))))) (And.intro (And.intro (And.intro (And.intro @ZQh (And.intro @ZTu @ZJR)) (And.intro (And.intro @ZMq @ZSN) (And.intro @Z05O @ZZ5))) (And.intro (And.intro @Z04G (And.intro @ZVT @Z03Q)) (And.intro (And.intro @Z02i @ZLf) (And.intro @ZOt @ZKp)))) (And.intro (And.intro (And.intro @ZND (And.intro @ZXR @Z0eJ)) (And.intro (And.intro @Z0bi @Z0c4) (And.intro @Z09P @Z02q))) (And.intro (And.intro @ZKv (And.intro @ZJL @ZVi)) (And.intro (And.intro @Z03t @Z0co) (And.intro @Z06r @Z0hI)))))
def ZbK := kBody Proofs.Try.f47
def ZBy := kL ZbK
def Z65 := kO ZBy
def Zyp := opN Z65 0
def ZzM := opN Z65 1
theorem Z0jC : XG 47 11 ZBy Z65 [4, 5] := Z1 (by rfl) (by rfl) _
theorem ZSY : Z65.toList = [Zyp, ZzM] := nf
theorem Z05b : stepA E C B 11 Z65 Zyp (φ, H) = some (fput φ 4 (.nilsl), H) := nf
theorem Z04q : stepA E C B 11 Z65 ZzM (φ, H) = some (fput φ 5 (.int .i64 0), H) := nf
def Zhd := kR ZbK
def ZCC := kL Zhd
def Z0H := kO ZCC
def Zy1 := opN Z0H 0
def Zw2 := opN Z0H 1
def Zsp := opN Z0H 2
def Zu5 := opN Z0H 3
def Zz9 := opN Z0H 4
def ZvG := opN Z0H 5
def Zsi := opN Z0H 6
theorem Z0gT : XG 47 11 ZCC Z0H [0, 1, 6, 7, 8, 9, 10] := Z1 (by rfl) (by rfl) _
theorem ZXS : Z0H.toList = [Zy1, Zw2, Zsp, Zu5, Zz9, ZvG, Zsi] := nf
theorem ZYX : stepA E C B 11 Z0H Zy1 (φ, H) = some (fput φ 6 (fget φ 0), H) := nf
theorem Z03d : stepA E C B 11 Z0H Zw2 (φ, H) = some (fput φ 7 (fget φ 1), H) := nf
theorem Z00d : stepA E C B 11 Z0H Zsp (φ, H) = stp (some 8) φ H (aCall C (fun j => B + j * 11 + 8) true 102 [(fget φ 6), (fget φ 7), (.bool true)]) := nf
theorem Z05g : stepA E C B 11 Z0H Zu5 (φ, H) = stp (some 9) φ H (Zc (fget φ 8) 0) := nf
theorem ZU3 : stepA E C B 11 Z0H Zz9 (φ, H) = stp (some 10) φ H (Zc (fget φ 8) 1) := nf
theorem Z00j : stepA E C B 11 Z0H ZvG (φ, H) = some (fput φ 4 (fget φ 9), H) := nf
theorem Z00H : stepA E C B 11 Z0H Zsi (φ, H) = some (fput φ 5 (fget φ 10), H) := nf
def ZRp := kR Zhd
theorem Z0fT : execA E C (fg 47) B 11 E0 N ZRp s = some (.ret, s) := Zj (by rfl) s
theorem Z0gZ : XQ 47 11 Zhd ZCC ZRp := Z0 (by rfl) _
theorem Z0jJ : XQ 47 11 ZbK ZBy Zhd := Z0 (by rfl) _
theorem Z0kd : fInfo E 47 = some ⟨11, #[.tmp 4, .tmp 5], ZbK⟩ := nf
theorem b_47 (args : List AV) : bodyA E C fg N 47 args H B = bodyX E [.tmp 4, .tmp 5] (execA E C (fg 47) B 11 H N ZbK (Z4 args 0 [], H)) := Zq Z0kd args H
abbrev F_47 := And.intro (And.intro (And.intro (And.intro @Z0jC @ZSY) (And.intro @Z05b @Z04q)) (And.intro (And.intro @Z0gT @ZXS) (And.intro @ZYX @Z03d))) (And.intro (And.intro (And.intro @Z00d @Z05g) (And.intro @ZU3 @Z00j)) (And.intro (And.intro @Z00H @Z0fT) (And.intro @Z0gZ (And.intro @Z0jJ @b_47))))
def ZaV := kBody Proofs.Try.f49
def ZD5 := kL ZaV
def Z7u := kO ZD5
def ZAC := opN Z7u 0
def Zte := opN Z7u 1
theorem Z0iG : XG 49 11 ZD5 Z7u [4, 5] := Z1 (by rfl) (by rfl) _
theorem ZSn : Z7u.toList = [ZAC, Zte] := nf
theorem Z003 : stepA E C B 11 Z7u ZAC (φ, H) = some (fput φ 4 (.nilsl), H) := nf
theorem Z00q : stepA E C B 11 Z7u Zte (φ, H) = some (fput φ 5 (.int .i64 0), H) := nf
def ZhZ := kR ZaV
def ZDl := kL ZhZ
def Z0G := kO ZDl
def ZuB := opN Z0G 0
def Zud := opN Z0G 1
def Zu1 := opN Z0G 2
def ZAE := opN Z0G 3
def ZrR := opN Z0G 4
def Ztm := opN Z0G 5
def ZwW := opN Z0G 6
theorem Z0ir : XG 49 11 ZDl Z0G [0, 1, 6, 7, 8, 9, 10] := Z1 (by rfl) (by rfl) _
theorem ZYc : Z0G.toList = [ZuB, Zud, Zu1, ZAE, ZrR, Ztm, ZwW] := nf
theorem ZWk : stepA E C B 11 Z0G ZuB (φ, H) = some (fput φ 6 (fget φ 0), H) := nf
theorem ZTb : stepA E C B 11 Z0G Zud (φ, H) = some (fput φ 7 (fget φ 1), H) := nf
theorem ZSV : stepA E C B 11 Z0G Zu1 (φ, H) = stp (some 8) φ H (aCall C (fun j => B + j * 11 + 8) true 102 [(fget φ 6), (fget φ 7), (.bool false)]) := nf
theorem ZZb : stepA E C B 11 Z0G ZAE (φ, H) = stp (some 9) φ H (Zc (fget φ 8) 0) := nf
theorem ZZ1 : stepA E C B 11 Z0G ZrR (φ, H) = stp (some 10) φ H (Zc (fget φ 8) 1) := nf
theorem Z00P : stepA E C B 11 Z0G Ztm (φ, H) = some (fput φ 4 (fget φ 9), H) := nf
theorem ZSK : stepA E C B 11 Z0G ZwW (φ, H) = some (fput φ 5 (fget φ 10), H) := nf
def ZRC := kR ZhZ
theorem Z0fO : execA E C (fg 49) B 11 E0 N ZRC s = some (.ret, s) := Zj (by rfl) s
theorem Z0k5 : XQ 49 11 ZhZ ZDl ZRC := Z0 (by rfl) _
theorem Z0im : XQ 49 11 ZaV ZD5 ZhZ := Z0 (by rfl) _
theorem Z0i9 : fInfo E 49 = some ⟨11, #[.tmp 4, .tmp 5], ZaV⟩ := nf
theorem b_49 (args : List AV) : bodyA E C fg N 49 args H B = bodyX E [.tmp 4, .tmp 5] (execA E C (fg 49) B 11 H N ZaV (Z4 args 0 [], H)) := Zq Z0i9 args H
abbrev F_49 := And.intro (And.intro (And.intro (And.intro @Z0iG @ZSn) (And.intro @Z003 @Z00q)) (And.intro (And.intro @Z0ir @ZYc) (And.intro @ZWk @ZTb))) (And.intro (And.intro (And.intro @ZSV @ZZb) (And.intro @ZZ1 @Z00P)) (And.intro (And.intro @ZSK @Z0fO) (And.intro @Z0k5 (And.intro @Z0im @b_49))))
def Z5Q := kBody Proofs.Try.f102
def ZpY := kL Z5Q
def Z4Q := kO ZpY
def ZkT := opN Z4Q 0
def ZqJ := opN Z4Q 1
theorem Z0e2 : XG 102 123 ZpY Z4Q [6, 7] := Z1 (by rfl) (by rfl) _
theorem ZOx : Z4Q.toList = [ZkT, ZqJ] := nf
theorem ZQG : stepA E C B 123 Z4Q ZkT (φ, H) = some (fput φ 6 (.nilsl), H) := nf
theorem ZKs : stepA E C B 123 Z4Q ZqJ (φ, H) = some (fput φ 7 (.int .i64 0), H) := nf
def Zay := kR Z5Q
def Znj := kL Zay
def Z1y := kO Znj
def ZmC := opN Z1y 0
def Zlv := opN Z1y 1
def Zoi := opN Z1y 2
def Znc := opN Z1y 3
theorem Z0et : XG 102 123 Znj Z1y [15, 16, 17] := Z1 (by rfl) (by rfl) _
theorem ZOP : Z1y.toList = [ZmC, Zlv, Zoi, Znc] := nf
theorem ZNr : stepA E C B 123 Z1y ZmC (φ, H) = some (fput φ 15 (fget φ 0), H) := nf
theorem ZK3 : stepA E C B 123 Z1y Zlv (φ, H) = some (fput φ 16 (fget φ 1), H) := nf
theorem ZNV : stepA E C B 123 Z1y Zoi (φ, H) = stp (some 17) φ H (aCall C (fun j => B + j * 123 + 17) true 87 [(fget φ 15), (fget φ 16)]) := nf
theorem ZK0 : stepA E C B 123 Z1y Znc (φ, H) = some (fput φ 8 (fget φ 17), H) := nf
def Zbr := kR Zay
def Zb7 := kL Zbr
def ZpG := kL Zb7
def Z4K := kO ZpG
def Zmo := opN Z4K 0
def Zlg := opN Z4K 1
theorem Z0f6 : XG 102 123 ZpG Z4K [18] := Z1 (by rfl) (by rfl) _
theorem ZNl : Z4K.toList = [Zmo, Zlg] := nf
theorem ZLi : stepA E C B 123 Z4K Zmo (φ, H) = some (fput φ 18 (fget φ 8), H) := nf
theorem ZKT : stepA E C B 123 Z4K Zlg (φ, H) = stp (some 19) φ H (just (aBin E.T .neq 24 (fget φ 18) (.int .i64 0))) := nf
def ZcP := kR Zb7
def ZaA := kT ZcP
def Zj7 := kL ZaA
def Z2Z := kO Zj7
def Zk2 := opN Z2Z 0
def ZnN := opN Z2Z 1
def Zjz := opN Z2Z 2
theorem Z0fa : XG 102 123 Zj7 Z2Z [0, 1, 2, 8, 19, 20] := Z1 (by rfl) (by rfl) _
theorem ZPp : Z2Z.toList = [Zk2, ZnN, Zjz] := nf
theorem ZKX : stepA E C B 123 Z2Z Zk2 (φ, H) = some (fput φ 20 (fget φ 8), H) := nf
theorem ZPS : stepA E C B 123 Z2Z ZnN (φ, H) = some (fput φ 6 (.nilsl), H) := nf
theorem ZLM : stepA E C B 123 Z2Z Zjz (φ, H) = some (fput φ 7 (fget φ 20), H) := nf
def Zs7 := kR ZaA
theorem ZXA : execA E C (fg 102) B 123 E0 N Zs7 s = some (.ret, s) := Zj (by rfl) s
theorem Z0b2 : XQ 102 123 ZaA Zj7 Zs7 := Z0 (by rfl) _
def ZuT := kE ZcP
theorem Z02t : execA E C (fg 102) B 123 E0 N ZuT s = some (.normal, s) := Ze (by rfl) s
theorem Z0dK : XC 102 123 ZcP 19 ZaA ZuT := Zb (by rfl) _
theorem Z09F : XQ 102 123 Zb7 ZpG ZcP := Z0 (by rfl) _
def Z7E := kR Zbr
def Ze7 := kL Z7E
def Z0z := kO Ze7
def Zoh := opN Z0z 0
def Zja := opN Z0z 1
def ZpJ := opN Z0z 2
def Zrf := opN Z0z 3
def Zk0 := opN Z0z 4
def Zjm := opN Z0z 5
theorem Z04D : XG 102 123 Ze7 Z0z [8, 19, 21, 22, 23, 24, 25] := Z1 (by rfl) (by rfl) _
theorem ZPw : Z0z.toList = [Zoh, Zja, ZpJ, Zrf, Zk0, Zjm] := nf
theorem ZOp : stepA E C B 123 Z0z Zoh (φ, H) = some (fput φ 21 (fget φ 0), H) := nf
theorem ZME : stepA E C B 123 Z0z Zja (φ, H) = stp (some 22) φ H (Z2 E.T (B + 22) .len #[22] [(fget φ 21)]) := nf
theorem ZMS : stepA E C B 123 Z0z ZpJ (φ, H) = some (fput φ 23 (fget φ 0), H) := nf
theorem ZNo : stepA E C B 123 Z0z Zrf (φ, H) = stp (some 24) φ H (aCall C (fun j => B + j * 123 + 24) true 80 [(fget φ 23)]) := nf
theorem ZPH : stepA E C B 123 Z0z Zk0 (φ, H) = stp (some 25) φ H (aCall C (fun j => B + j * 123 + 25) true 97 [(fget φ 22), (fget φ 24), (.int .i64 8)]) := nf
theorem ZPg : stepA E C B 123 Z0z Zjm (φ, H) = some (fput φ 9 (fget φ 25), H) := nf
def Z6S := kR Z7E
def Zd9 := kL Z6S
def Z8S := kO Zd9
def Zpn := opN Z8S 0
theorem Z01n : XG 102 123 Zd9 Z8S [] := Z1 (by rfl) (by rfl) _
theorem ZQy : Z8S.toList = [Zpn] := nf
theorem ZP4 : stepA E C B 123 Z8S Zpn (φ, H) = some (fput φ 10 (.nilsl), H) := nf
def Z6d := kR Z6S
def Z6U := kL Z6d
def Zde := kL Z6U
def Z8t := kO Zde
def Zo7 := opN Z8t 0
theorem Z025 : XG 102 123 Zde Z8t [] := Z1 (by rfl) (by rfl) _
theorem ZPu : Z8t.toList = [Zo7] := nf
theorem ZNq : stepA E C B 123 Z8t Zo7 (φ, H) = some (fput φ 11 (.int .i64 0), H) := nf
def ZdD := kR Z6U
def Ze6 := kB ZdD
def Z3r := kB Ze6
def Z6J := kL Z3r
def ZcX := kL Z6J
def Z1w := kO ZcX
def Zps := opN Z1w 0
def Zj2 := opN Z1w 1
def Zmy := opN Z1w 2
def ZmM := opN Z1w 3
theorem ZWj : XG 102 123 ZcX Z1w [26, 27, 28] := Z1 (by rfl) (by rfl) _
theorem ZPY : Z1w.toList = [Zps, Zj2, Zmy, ZmM] := nf
theorem ZOD : stepA E C B 123 Z1w Zps (φ, H) = some (fput φ 26 (fget φ 11), H) := nf
theorem ZJr : stepA E C B 123 Z1w Zj2 (φ, H) = some (fput φ 27 (fget φ 9), H) := nf
theorem ZL0 : stepA E C B 123 Z1w Zmy (φ, H) = stp (some 28) φ H (Z2 E.T (B + 28) .len #[39] [(fget φ 27)]) := nf
theorem ZM1 : stepA E C B 123 Z1w ZmM (φ, H) = stp (some 29) φ H (just (aBin E.T .lss 3 (fget φ 26) (fget φ 28))) := nf
def Z64 := kR Z6J
def Zyt := kT Z64
theorem ZSB : execA E C (fg 102) B 123 E0 N Zyt s = some (.normal, s) := Ze (by rfl) s
def ZAv := kE Z64
theorem ZTY : execA E C (fg 102) B 123 E0 N ZAv s = some (.exit 0, s) := ZL (by rfl) s
theorem ZSu : XC 102 123 Z64 29 Zyt ZAv := Zb (by rfl) _
theorem ZUu : XQ 102 123 Z6J ZcX Z64 := Z0 (by rfl) _
def Z73 := kR Z3r
def Zdq := kL Z73
def Z6o := kB Zdq
def ZcV := kL Z6o
def Z7 := kO ZcV
def Zqn := opN Z7 0
def Z1i := opN Z7 1
def ZlV := opN Z7 2
def Zl7 := opN Z7 3
def ZmW := opN Z7 4
def Zms := opN Z7 5
def Zks := opN Z7 6
def ZoB := opN Z7 7
def Zmw := opN Z7 8
def Z1h := opN Z7 9
def ZfV := opN Z7 10
def Zer := opN Z7 11
def Zfu := opN Z7 12
def Zew := opN Z7 13
def Zef := opN Z7 14
def ZeJ := opN Z7 15
def Zfy := opN Z7 16
def Z0V := opN Z7 17
def ZfU := opN Z7 18
def ZeA := opN Z7 19
def Z0Y := opN Z7 20
def ZfE := opN Z7 21
def Zex := opN Z7 22
def Zf9 := opN Z7 23
def Zfs := opN Z7 24
def ZeR := opN Z7 25
def Zev := opN Z7 26
def ZeW := opN Z7 27
def Z0T := opN Z7 28
def ZfH := opN Z7 29
def Zfn := opN Z7 30
def ZfQ := opN Z7 31
def ZeL := opN Z7 32
def ZeD := opN Z7 33
def Zfj := opN Z7 34
def Zgb := opN Z7 35
def Zfp := opN Z7 36
theorem Z04L : XG 102 123 ZcV Z7 [29, 32, 33, 34, 35, 36, 37, 38, 39, 40, 41, 42, 43, 44, 45, 46, 47, 48, 49, 50, 51, 52, 53, 54, 55, 56, 57, 58, 59, 60, 61, 62, 63, 64, 65, 66, 67] := Z1 (by rfl) (by rfl) _
theorem ZMf : Z7.toList = [Zqn, Z1i, ZlV, Zl7, ZmW, Zms, Zks, ZoB, Zmw, Z1h, ZfV, Zer, Zfu, Zew, Zef, ZeJ, Zfy, Z0V, ZfU, ZeA, Z0Y, ZfE, Zex, Zf9, Zfs, ZeR, Zev, ZeW, Z0T, ZfH, Zfn, ZfQ, ZeL, ZeD, Zfj, Zgb, Zfp] := nf
theorem ZKq : stepA E C B 123 Z7 Zqn (φ, H) = some (fput φ 32 (fget φ 2), H) := nf
theorem ZQr : stepA E C B 123 Z7 Z1i (φ, H) = some (fput φ 33 (fget φ 32), H) := nf
theorem ZLC : stepA E C B 123 Z7 ZlV (φ, H) = gd φ 33 true (fun φ => some (fput φ 34 (.tup []), H)) (fun φ => some (fput φ 34 (fget φ 0), H)) := s_gd (j := 1) (oj := Z1i) rfl rfl rfl (fun _ => rfl) (fun _ => rfl)
theorem ZPq : stepA E C B 123 Z7 Zl7 (φ, H) = gd φ 33 true (fun φ => some (fput φ 35 (.tup []), H)) (fun φ => some (fput φ 35 (fget φ 9), H)) := s_gd (j := 1) (oj := Z1i) rfl rfl rfl (fun _ => rfl) (fun _ => rfl)
theorem ZPR : stepA E C B 123 Z7 ZmW (φ, H) = gd φ 33 true (fun φ => some (fput φ 36 (.tup []), H)) (fun φ => some (fput φ 36 (fget φ 11), H)) := s_gd (j := 1) (oj := Z1i) rfl rfl rfl (fun _ => rfl) (fun _ => rfl)
theorem ZMR : stepA E C B 123 Z7 Zms (φ, H) = gd φ 33 true (fun φ => some (fput φ 37 (.tup []), H)) (fun φ => stp (some 37) φ H (just (Z3 E.T 39 (fget φ 35) (fget φ 36)))) := s_gd (j := 1) (oj := Z1i) rfl rfl rfl (fun _ => rfl) (fun _ => rfl)
theorem ZP2 : stepA E C B 123 Z7 Zks (φ, H) = gd φ 33 true (fun φ => some (fput φ 38 (.tup []), H)) (fun φ => stp (some 38) φ H (just (aLoad E.T 22 (fget φ 37)))) := s_gd (j := 1) (oj := Z1i) rfl rfl rfl (fun _ => rfl) (fun _ => rfl)
theorem ZMB : stepA E C B 123 Z7 ZoB (φ, H) = gd φ 33 true (fun φ => some (fput φ 39 (.tup []), H)) (fun φ => stp (some 39) φ H (aCall C (fun j => B + j * 123 + 39) true 118 [(fget φ 34), (fget φ 38)])) := s_gd (j := 1) (oj := Z1i) rfl rfl rfl (fun _ => rfl) (fun _ => rfl)
theorem ZPE : stepA E C B 123 Z7 Zmw (φ, H) = stp (some 40) φ H (opPick (fget φ 33) (fget φ 39) (.bool false)) := nf
theorem ZQs : stepA E C B 123 Z7 Z1h (φ, H) = some (fput φ 41 (fget φ 40), H) := nf
theorem ZEc : stepA E C B 123 Z7 ZfV (φ, H) = gd φ 41 true (fun φ => some (fput φ 42 (.tup []), H)) (fun φ => some (fput φ 42 (fget φ 1), H)) := s_gd (j := 9) (oj := Z1h) rfl rfl rfl (fun _ => rfl) (fun _ => rfl)
theorem ZJa : stepA E C B 123 Z7 Zer (φ, H) = gd φ 41 true (fun φ => some (fput φ 43 (.tup []), H)) (fun φ => some (fput φ 43 (fget φ 9), H)) := s_gd (j := 9) (oj := Z1h) rfl rfl rfl (fun _ => rfl) (fun _ => rfl)
theorem ZG9 : stepA E C B 123 Z7 Zfu (φ, H) = gd φ 41 true (fun φ => some (fput φ 44 (.tup []), H)) (fun φ => some (fput φ 44 (fget φ 11), H)) := s_gd (j := 9) (oj := Z1h) rfl rfl rfl (fun _ => rfl) (fun _ => rfl)
theorem ZDI : stepA E C B 123 Z7 Zew (φ, H) = gd φ 41 true (fun φ => some (fput φ 45 (.tup []), H)) (fun φ => stp (some 45) φ H (just (Z3 E.T 39 (fget φ 43) (fget φ 44)))) := s_gd (j := 9) (oj := Z1h) rfl rfl rfl (fun _ => rfl) (fun _ => rfl)
theorem ZI3 : stepA E C B 123 Z7 Zef (φ, H) = gd φ 41 true (fun φ => some (fput φ 46 (.tup []), H)) (fun φ => stp (some 46) φ H (just (aLoad E.T 22 (fget φ 45)))) := s_gd (j := 9) (oj := Z1h) rfl rfl rfl (fun _ => rfl) (fun _ => rfl)
theorem ZEQ : stepA E C B 123 Z7 ZeJ (φ, H) = gd φ 41 true (fun φ => some (fput φ 47 (.tup []), H)) (fun φ => stp (some 47) φ H (aCall C (fun j => B + j * 123 + 47) true 118 [(fget φ 42), (fget φ 46)])) := s_gd (j := 9) (oj := Z1h) rfl rfl rfl (fun _ => rfl) (fun _ => rfl)
theorem ZIR : stepA E C B 123 Z7 Zfy (φ, H) = stp (some 48) φ H (opPick (fget φ 41) (fget φ 47) (.bool false)) := nf
theorem ZE1 : stepA E C B 123 Z7 Z0V (φ, H) = some (fput φ 49 (fget φ 48), H) := nf
theorem ZGl : stepA E C B 123 Z7 ZfU (φ, H) = gd φ 49 false (fun φ => some (fput φ 50 (.tup []), H)) (fun φ => some (fput φ 50 (fget φ 2), H)) := s_gd (j := 17) (oj := Z0V) rfl rfl rfl (fun _ => rfl) (fun _ => rfl)
theorem ZIl : stepA E C B 123 Z7 ZeA (φ, H) = gd φ 49 false (fun φ => some (fput φ 51 (.tup []), H)) (fun φ => stp (some 51) φ H (justO (aUn .not (fget φ 50)))) := s_gd (j := 17) (oj := Z0V) rfl rfl rfl (fun _ => rfl) (fun _ => rfl)
theorem ZHJ : stepA E C B 123 Z7 Z0Y (φ, H) = gd φ 49 false (fun φ => some (fput φ 52 (.tup []), H)) (fun φ => some (fput φ 52 (fget φ 51), H)) := s_gd (j := 17) (oj := Z0V) rfl rfl rfl (fun _ => rfl) (fun _ => rfl)
theorem ZHI : stepA E C B 123 Z7 ZfE (φ, H) = gd φ 52 true (fun φ => some (fput φ 53 (.tup []), H)) (fun φ => some (fput φ 53 (fget φ 9), H)) := s_gd (j := 20) (oj := Z0Y) rfl rfl rfl (fun _ => rfl) (fun _ => rfl)
theorem ZE2 : stepA E C B 123 Z7 Zex (φ, H) = gd φ 52 true (fun φ => some (fput φ 54 (.tup []), H)) (fun φ => some (fput φ 54 (fget φ 11), H)) := s_gd (j := 20) (oj := Z0Y) rfl rfl rfl (fun _ => rfl) (fun _ => rfl)
theorem ZIg : stepA E C B 123 Z7 Zf9 (φ, H) = gd φ 52 true (fun φ => some (fput φ 55 (.tup []), H)) (fun φ => stp (some 55) φ H (just (Z3 E.T 39 (fget φ 53) (fget φ 54)))) := s_gd (j := 20) (oj := Z0Y) rfl rfl rfl (fun _ => rfl) (fun _ => rfl)
theorem ZFI : stepA E C B 123 Z7 Zfs (φ, H) = gd φ 52 true (fun φ => some (fput φ 56 (.tup []), H)) (fun φ => stp (some 56) φ H (just (aLoad E.T 22 (fget φ 55)))) := s_gd (j := 20) (oj := Z0Y) rfl rfl rfl (fun _ => rfl) (fun _ => rfl)
theorem ZFT : stepA E C B 123 Z7 ZeR (φ, H) = gd φ 52 true (fun φ => some (fput φ 57 (.tup []), H)) (fun φ => some (fput φ 57 (fget φ 0), H)) := s_gd (j := 20) (oj := Z0Y) rfl rfl rfl (fun _ => rfl) (fun _ => rfl)
theorem ZDW : stepA E C B 123 Z7 Zev (φ, H) = gd φ 52 true (fun φ => some (fput φ 58 (.tup []), H)) (fun φ => stp (some 58) φ H (aCall C (fun j => B + j * 123 + 58) true 118 [(fget φ 56), (fget φ 57)])) := s_gd (j := 20) (oj := Z0Y) rfl rfl rfl (fun _ => rfl) (fun _ => rfl)
theorem ZEZ : stepA E C B 123 Z7 ZeW (φ, H) = gd φ 49 false (fun φ => some (fput φ 59 (.tup []), H)) (fun φ => stp (some 59) φ H (opPick (fget φ 52) (fget φ 58) (.bool false))) := s_gd (j := 17) (oj := Z0V) rfl rfl rfl (fun _ => rfl) (fun _ => rfl)
theorem ZGq : stepA E C B 123 Z7 Z0T (φ, H) = gd φ 49 false (fun φ => some (fput φ 60 (.tup []), H)) (fun φ => some (fput φ 60 (fget φ 59), H)) := s_gd (j := 17) (oj := Z0V) rfl rfl rfl (fun _ => rfl) (fun _ => rfl)
theorem ZED : stepA E C B 123 Z7 ZfH (φ, H) = gd φ 60 true (fun φ => some (fput φ 61 (.tup []), H)) (fun φ => some (fput φ 61 (fget φ 9), H)) := s_gd (j := 28) (oj := Z0T) rfl rfl rfl (fun _ => rfl) (fun _ => rfl)
theorem ZIq : stepA E C B 123 Z7 Zfn (φ, H) = gd φ 60 true (fun φ => some (fput φ 62 (.tup []), H)) (fun φ => some (fput φ 62 (fget φ 11), H)) := s_gd (j := 28) (oj := Z0T) rfl rfl rfl (fun _ => rfl) (fun _ => rfl)
theorem ZIv : stepA E C B 123 Z7 ZfQ (φ, H) = gd φ 60 true (fun φ => some (fput φ 63 (.tup []), H)) (fun φ => stp (some 63) φ H (just (Z3 E.T 39 (fget φ 61) (fget φ 62)))) := s_gd (j := 28) (oj := Z0T) rfl rfl rfl (fun _ => rfl) (fun _ => rfl)
theorem ZGJ : stepA E C B 123 Z7 ZeL (φ, H) = gd φ 60 true (fun φ => some (fput φ 64 (.tup []), H)) (fun φ => stp (some 64) φ H (just (aLoad E.T 22 (fget φ 63)))) := s_gd (j := 28) (oj := Z0T) rfl rfl rfl (fun _ => rfl) (fun _ => rfl)
theorem ZIA : stepA E C B 123 Z7 ZeD (φ, H) = gd φ 60 true (fun φ => some (fput φ 65 (.tup []), H)) (fun φ => some (fput φ 65 (fget φ 1), H)) := s_gd (j := 28) (oj := Z0T) rfl rfl rfl (fun _ => rfl) (fun _ => rfl)
theorem ZIh : stepA E C B 123 Z7 Zfj (φ, H) = gd φ 60 true (fun φ => some (fput φ 66 (.tup []), H)) (fun φ => stp (some 66) φ H (aCall C (fun j => B + j * 123 + 66) true 118 [(fget φ 64), (fget φ 65)])) := s_gd (j := 28) (oj := Z0T) rfl rfl rfl (fun _ => rfl) (fun _ => rfl)
theorem ZFe : stepA E C B 123 Z7 Zgb (φ, H) = gd φ 49 false (fun φ => some (fput φ 67 (.tup []), H)) (fun φ => stp (some 67) φ H (opPick (fget φ 60) (fget φ 66) (.bool false))) := s_gd (j := 17) (oj := Z0V) rfl rfl rfl (fun _ => rfl) (fun _ => rfl)
theorem ZFv : stepA E C B 123 Z7 Zfp (φ, H) = stp (some 68) φ H (opPick (fget φ 49) (.bool true) (fget φ 67)) := nf
def Z6q := kR Z6o
def ZdJ := kT Z6q
def ZQ := kO ZdJ
def Zel := opN ZQ 0
def Zga := opN ZQ 1
def Zg6 := opN ZQ 2
def Zea := opN ZQ 3
def ZeH := opN ZQ 4
def Zf1 := opN ZQ 5
def ZeC := opN ZQ 6
def Zge := opN ZQ 7
theorem Z00F : XG 102 123 ZdJ ZQ [68, 69, 70, 71, 72, 73, 74, 75] := Z1 (by rfl) (by rfl) _
theorem ZH8 : ZQ.toList = [Zel, Zga, Zg6, Zea, ZeH, Zf1, ZeC, Zge] := nf
theorem ZFc : stepA E C B 123 ZQ Zel (φ, H) = some (fput φ 69 (fget φ 10), H) := nf
theorem ZDX : stepA E C B 123 ZQ Zga (φ, H) = some (fput φ 70 (fget φ 9), H) := nf
theorem ZFy : stepA E C B 123 ZQ Zg6 (φ, H) = some (fput φ 71 (fget φ 11), H) := nf
theorem ZIj : stepA E C B 123 ZQ Zea (φ, H) = stp (some 72) φ H (just (Z3 E.T 39 (fget φ 70) (fget φ 71))) := nf
theorem ZGg : stepA E C B 123 ZQ ZeH (φ, H) = stp (some 73) φ H (just (aLoad E.T 22 (fget φ 72))) := nf
theorem ZEP : stepA E C B 123 ZQ Zf1 (φ, H) = stp (some 74) φ H (Z8 E.T (B + 74) 39 1 (evO E φ) [(0, Operand.tmp 73)]) := nf
theorem ZIx : stepA E C B 123 ZQ ZeC (φ, H) = stp (some 75) φ H (Z2 E.T (B + 75) .append #[39, 39] [(fget φ 69), (fget φ 74)]) := nf
theorem ZHy : stepA E C B 123 ZQ Zge (φ, H) = some (fput φ 10 (fget φ 75), H) := nf
def ZvH := kE Z6q
theorem Z03A : execA E C (fg 102) B 123 E0 N ZvH s = some (.normal, s) := Ze (by rfl) s
theorem Z04k : XC 102 123 Z6q 68 ZdJ ZvH := Zb (by rfl) _
theorem Z04b : XQ 102 123 Z6o ZcV Z6q := Z0 (by rfl) _
theorem Z01z : execA E C (fg 102) B 123 E0 N Zdq s = blockX 1 (fun s => (forget s.1 [68], s.2)) (execA E C (fg 102) B 123 E0 N Z6o s) := Zf (by rfl) (by rfl) s
def ZdO := kR Z73
def Z2G := kO ZdO
def Zlq := opN Z2G 0
def Zm1 := opN Z2G 1
def ZiZ := opN Z2G 2
theorem ZUK : XG 102 123 ZdO Z2G [30, 31] := Z1 (by rfl) (by rfl) _
theorem ZNA : Z2G.toList = [Zlq, Zm1, ZiZ] := nf
theorem ZMn : stepA E C B 123 Z2G Zlq (φ, H) = some (fput φ 30 (fget φ 11), H) := nf
theorem ZM3 : stepA E C B 123 Z2G Zm1 (φ, H) = stp (some 31) φ H (just (aBin E.T .add 3 (fget φ 30) (.int .i64 1))) := nf
theorem ZLR : stepA E C B 123 Z2G ZiZ (φ, H) = some (fput φ 11 (fget φ 31), H) := nf
theorem Z00Q : XQ 102 123 Z73 Zdq ZdO := Z0 (by rfl) _
theorem Z05w : XQ 102 123 Z3r Z6J Z73 := Z0 (by rfl) _
theorem ZWT : execA E C (fg 102) B 123 E0 N Ze6 s = iterA (execA E C (fg 102) B 123 E0 N Z3r) (headA E0) N s := ZM (by rfl) s
theorem ZY5 : execA E C (fg 102) B 123 E0 N ZdD s = blockX 0 (fun s => (forget s.1 [0, 1, 9, 11, 29], s.2)) (execA E C (fg 102) B 123 E0 N Ze6 s) := Zf (by rfl) (by rfl) s
theorem ZUA : XQ 102 123 Z6U Zde ZdD := Z0 (by rfl) _
def Z6p := kR Z6d
def Z6B := kL Z6p
def ZdL := kL Z6B
def Z60 := kO ZdL
def Zfw := opN Z60 0
theorem ZX2 : XG 102 123 ZdL Z60 [] := Z1 (by rfl) (by rfl) _
theorem ZFJ : Z60.toList = [Zfw] := nf
theorem ZHd : stepA E C B 123 Z60 Zfw (φ, H) = some (fput φ 12 (.int .i64 0), H) := nf
def ZcU := kR Z6B
def Ze5 := kB ZcU
def Z2h := kB Ze5
def Z7m := kL Z2h
def ZdY := kL Z7m
def Z1a := kO ZdY
def ZeY := opN Z1a 0
def Zgd := opN Z1a 1
def Zf4 := opN Z1a 2
def Zg2 := opN Z1a 3
theorem ZZB : XG 102 123 ZdY Z1a [76, 77, 78] := Z1 (by rfl) (by rfl) _
theorem ZJ8 : Z1a.toList = [ZeY, Zgd, Zf4, Zg2] := nf
theorem ZIC : stepA E C B 123 Z1a ZeY (φ, H) = some (fput φ 76 (fget φ 12), H) := nf
theorem ZJe : stepA E C B 123 Z1a Zgd (φ, H) = some (fput φ 77 (fget φ 10), H) := nf
theorem ZEn : stepA E C B 123 Z1a Zf4 (φ, H) = stp (some 78) φ H (Z2 E.T (B + 78) .len #[39] [(fget φ 77)]) := nf
theorem ZFL : stepA E C B 123 Z1a Zg2 (φ, H) = stp (some 79) φ H (just (aBin E.T .lss 3 (fget φ 76) (fget φ 78))) := nf
def Z6j := kR Z7m
def Zx9 := kT Z6j
theorem ZUV : execA E C (fg 102) B 123 E0 N Zx9 s = some (.normal, s) := Ze (by rfl) s
def Zy4 := kE Z6j
theorem ZTJ : execA E C (fg 102) B 123 E0 N Zy4 s = some (.exit 2, s) := ZL (by rfl) s
theorem ZTA : XC 102 123 Z6j 79 Zx9 Zy4 := Zb (by rfl) _
theorem ZVK : XQ 102 123 Z7m ZdY Z6j := Z0 (by rfl) _
def Z7e := kR Z2h
def Zdy := kL Z7e
def Z6l := kB Zdy
def Zdo := kL Z6l
def Z6c := kO Zdo
def Zfh := opN Z6c 0
theorem Z00b : XG 102 123 Zdo Z6c [79] := Z1 (by rfl) (by rfl) _
theorem ZEJ : Z6c.toList = [Zfh] := nf
theorem ZFX : stepA E C B 123 Z6c Zfh (φ, H) = some (fput φ 13 (.bool true), H) := nf
def Z7H := kR Z6l
def Z7q := kL Z7H
def ZdW := kL Z7q
def Z7b := kO ZdW
def ZeZ := opN Z7b 0
theorem Z04U : XG 102 123 ZdW Z7b [] := Z1 (by rfl) (by rfl) _
theorem ZJd : Z7b.toList = [ZeZ] := nf
theorem ZHT : stepA E C B 123 Z7b ZeZ (φ, H) = some (fput φ 14 (.int .i64 0), H) := nf
def ZdC := kR Z7q
def Zd4 := kB ZdC
def Z2c := kB Zd4
def Z7x := kL Z2c
def ZdT := kL Z7x
def Z18 := kO ZdT
def Zg5 := opN Z18 0
def ZeB := opN Z18 1
def ZfR := opN Z18 2
def Zeu := opN Z18 3
theorem ZU9 : XG 102 123 ZdT Z18 [82, 83, 84] := Z1 (by rfl) (by rfl) _
theorem ZJh : Z18.toList = [Zg5, ZeB, ZfR, Zeu] := nf
theorem ZGk : stepA E C B 123 Z18 Zg5 (φ, H) = some (fput φ 82 (fget φ 14), H) := nf
theorem ZJl : stepA E C B 123 Z18 ZeB (φ, H) = some (fput φ 83 (fget φ 10), H) := nf
theorem ZDM : stepA E C B 123 Z18 ZfR (φ, H) = stp (some 84) φ H (Z2 E.T (B + 84) .len #[39] [(fget φ 83)]) := nf
theorem ZGu : stepA E C B 123 Z18 Zeu (φ, H) = stp (some 85) φ H (just (aBin E.T .lss 3 (fget φ 82) (fget φ 84))) := nf
def Z6H := kR Z7x
def Zwb := kT Z6H
theorem ZWU : execA E C (fg 102) B 123 E0 N Zwb s = some (.normal, s) := Ze (by rfl) s
def Zwv := kE Z6H
theorem ZTM : execA E C (fg 102) B 123 E0 N Zwv s = some (.exit 4, s) := ZL (by rfl) s
theorem Z01Q : XC 102 123 Z6H 85 Zwb Zwv := Zb (by rfl) _
theorem Z04Y : XQ 102 123 Z7x ZdT Z6H := Z0 (by rfl) _
def Z6W := kR Z2c
def Zdw := kL Z6W
def ZcZ := kB Zdw
def Z6 := kO ZcZ
def Zgc := opN Z6 0
def Z1j := opN Z6 1
def Zfo := opN Z6 2
def Z08 := opN Z6 3
def ZeV := opN Z6 4
def ZeT := opN Z6 5
def Zfg := opN Z6 6
def ZfZ := opN Z6 7
def ZfM := opN Z6 8
def Zeh := opN Z6 9
def Z8F := opN Z6 10
def Zax := opN Z6 11
def Zaf := opN Z6 12
def Zai := opN Z6 13
def Z1r := opN Z6 14
def Zbl := opN Z6 15
def ZbO := opN Z6 16
def ZY := opN Z6 17
def Z9l := opN Z6 18
def ZcQ := opN Z6 19
def Z94 := opN Z6 20
def ZbE := opN Z6 21
def ZaQ := opN Z6 22
def Zb4 := opN Z6 23
def Z9j := opN Z6 24
def Z8Y := opN Z6 25
def Z95 := opN Z6 26
def ZcE := opN Z6 27
def Z9m := opN Z6 28
def Zc9 := opN Z6 29
def Z8V := opN Z6 30
theorem Z05s : XD 102 123 ZcZ Z6 [85, 88, 89, 90, 91, 92, 93, 94, 95, 96, 97, 98, 99, 100, 101, 102, 103, 104, 105, 106, 107, 108, 109, 110, 111, 112, 113, 114, 115, 116, 117] := Z3I (by rfl) (by rfl) _
theorem ZIQ : Z6.toList = [Zgc, Z1j, Zfo, Z08, ZeV, ZeT, Zfg, ZfZ, ZfM, Zeh, Z8F, Zax, Zaf, Zai, Z1r, Zbl, ZbO, ZY, Z9l, ZcQ, Z94, ZbE, ZaQ, Zb4, Z9j, Z8Y, Z95, ZcE, Z9m, Zc9, Z8V] := nf
theorem ZBK : statOk Z6 = true := by kernel_rfl
theorem ZBM : drawA E C B 123 Z6 s = if neat 123 s = true then drX Z6 (runT E C B 123 Z6 Z6.toList 0 s) else none := Z2e ZBK s
theorem ZCF (l : List (Nat × Tr)) : dynOk Z6 l = (!writing l || Zo [[], [0], [0, 1], [0, 1, 2], [0, 1, 2, 3], [0, 1, 2, 3], [0, 1, 2, 3, 4, 5], [0, 1, 2, 3, 4, 5, 6], [0, 1, 2, 3], [0, 1, 2, 3], [0, 1, 2, 3, 8, 9], [0, 1, 2, 3, 8, 9, 10], [0, 1, 2, 3, 4, 5, 6, 7, 8, 9, 10, 11], [0, 1, 2, 3, 4, 5, 6, 7, 8, 9, 10, 11, 12], [0, 1, 2, 3, 4, 5, 6, 7, 8, 9, 10, 11, 12, 13], [0, 1, 2, 3, 4, 5, 6, 7, 8, 9, 10, 11, 12, 13, 14], [0, 1, 2, 3, 4, 5, 6, 7, 8, 9, 10, 11, 12, 13, 14, 15], [0, 1, 2, 3, 4, 5, 6, 7, 8, 9, 10, 11, 12, 13, 14, 15, 16], [0, 1, 2, 3, 4, 5, 6, 7, 8, 9, 10, 11, 12, 13, 14, 15, 16, 17], [0, 1, 2, 3, 4, 5, 6, 7, 8, 9, 10, 11, 12, 13, 14, 15, 16, 17], [0, 1, 2, 3, 4, 5, 6, 7, 8, 9, 10, 11, 12, 13, 14, 15, 16, 17, 18, 19], [0, 1, 2, 3, 4, 5, 6, 7, 8, 9, 10, 11, 12, 13, 14, 15, 16, 17, 18, 19, 20], [0, 1, 2, 3, 4, 5, 6, 7, 8, 9, 10, 11, 12, 13, 14, 15, 16, 17], [0, 1, 2, 3, 4, 5, 6, 7, 8, 9, 10, 11, 12, 13, 14, 15, 16, 17], [0, 1, 2, 3, 4, 5, 6, 7, 8, 9, 10, 11, 12, 13, 14, 15, 16, 17, 22, 23], [0, 1, 2, 3, 4, 5, 6, 7, 8, 9, 10, 11, 12, 13, 14, 15, 16, 17, 22, 23, 24], [0, 1, 2, 3, 4, 5, 6, 7, 8, 9, 10, 11, 12, 13, 14, 15, 16, 17, 18, 19, 20, 21, 22, 23, 24, 25], [0, 1, 2, 3, 4, 5, 6, 7, 8, 9, 10, 11, 12, 13, 14, 15, 16, 17, 18, 19, 20, 21, 22, 23, 24, 25, 26], [0, 1, 2, 3, 4, 5, 6, 7, 8, 9, 10, 11, 12, 13, 14, 15, 16, 17, 18, 19, 20, 21, 22, 23, 24, 25, 26, 27], [0, 1, 2, 3, 4, 5, 6, 7, 8, 9, 10, 11, 12, 13, 14, 15, 16, 17, 18, 19, 20, 21, 22, 23, 24, 25, 26, 27, 28], [0, 1, 2, 3, 4, 5, 6, 7, 8, 9, 10, 11, 12, 13, 14, 15, 16, 17, 18, 19, 20, 21, 22, 23, 24, 25, 26, 27, 28, 29]] (Zm l)) := Z1P (by kernel_rfl) l
theorem ZHw : stepT E C B 123 Z6 Zgc (φ, H) = some ((fput φ 88 (fget φ 13), H), ⟨false, [], []⟩) := Z9 rfl (Zh rfl rfl)
theorem ZHk : stepT E C B 123 Z6 Z1j (φ, H) = some ((fput φ 89 (fget φ 88), H), ⟨false, [], []⟩) := Z9 rfl (Zh rfl rfl)
theorem ZEt : stepT E C B 123 Z6 Zfo (φ, H) = gdT φ 89 true (fun φ => (some (fput φ 90 (.tup []), H)).map fun s => (s, ⟨false, [], []⟩)) (fun φ => some ((fput φ 90 (fget φ 2), H), ⟨false, [], []⟩)) := Zp (j := 1) (oj := Z1j) rfl rfl rfl (fun _ => rfl) (fun _ => Zh rfl rfl)
theorem ZGY : stepT E C B 123 Z6 Z08 (φ, H) = gdT φ 89 true (fun φ => (some (fput φ 91 (.tup []), H)).map fun s => (s, ⟨false, [], []⟩)) (fun φ => some ((fput φ 91 (fget φ 90), H), ⟨false, [], []⟩)) := Zp (j := 1) (oj := Z1j) rfl rfl rfl (fun _ => rfl) (fun _ => Zh rfl rfl)
theorem ZEC : stepT E C B 123 Z6 ZeV (φ, H) = gdT φ 91 true (fun φ => (some (fput φ 92 (.tup []), H)).map fun s => (s, ⟨false, [], []⟩)) (fun φ => some ((fput φ 92 (fget φ 10), H), ⟨false, [], []⟩)) := Zp (j := 3) (oj := Z08) rfl rfl rfl (fun _ => rfl) (fun _ => Zh rfl rfl)
theorem ZF1 : stepT E C B 123 Z6 ZeT (φ, H) = gdT φ 91 true (fun φ => (some (fput φ 93 (.tup []), H)).map fun s => (s, ⟨false, [], []⟩)) (fun φ => some ((fput φ 93 (fget φ 12), H), ⟨false, [], []⟩)) := Zp (j := 3) (oj := Z08) rfl rfl rfl (fun _ => rfl) (fun _ => Zh rfl rfl)
theorem ZHF : stepT E C B 123 Z6 Zfg (φ, H) = gdT φ 91 true (fun φ => (some (fput φ 94 (.tup []), H)).map fun s => (s, ⟨false, [], []⟩)) (fun φ => stpT (some 94) φ H (just (Z3 E.T 39 (fget φ 92) (fget φ 93)))) := Zp (j := 3) (oj := Z08) rfl rfl rfl (fun _ => rfl) (fun _ => Zi rfl rfl)
theorem ZHL : stepT E C B 123 Z6 ZfZ (φ, H) = gdT φ 91 true (fun φ => (some (fput φ 95 (.tup []), H)).map fun s => (s, ⟨false, [], []⟩)) (fun φ => stpT (some 95) φ H (just (aLoad E.T 22 (fget φ 94)))) := Zp (j := 3) (oj := Z08) rfl rfl rfl (fun _ => rfl) (fun _ => Zi rfl rfl)
theorem ZFw : stepT E C B 123 Z6 ZfM (φ, H) = gdT φ 91 true (fun φ => (some (fput φ 96 (.tup []), H)).map fun s => (s, ⟨false, [], []⟩)) (fun φ => some ((fput φ 96 (fget φ 10), H), ⟨false, [], []⟩)) := Zp (j := 3) (oj := Z08) rfl rfl rfl (fun _ => rfl) (fun _ => Zh rfl rfl)
theorem ZFb : stepT E C B 123 Z6 Zeh (φ, H) = gdT φ 91 true (fun φ => (some (fput φ 97 (.tup []), H)).map fun s => (s, ⟨false, [], []⟩)) (fun φ => some ((fput φ 97 (fget φ 14), H), ⟨false, [], []⟩)) := Zp (j := 3) (oj := Z08) rfl rfl rfl (fun _ => rfl) (fun _ => Zh rfl rfl)
theorem ZCg : stepT E C B 123 Z6 Z8F (φ, H) = gdT φ 91 true (fun φ => (some (fput φ 98 (.tup []), H)).map fun s => (s, ⟨false, [], []⟩)) (fun φ => stpT (some 98) φ H (just (Z3 E.T 39 (fget φ 96) (fget φ 97)))) := Zp (j := 3) (oj := Z08) rfl rfl rfl (fun _ => rfl) (fun _ => Zi rfl rfl)
theorem ZBP : stepT E C B 123 Z6 Zax (φ, H) = gdT φ 91 true (fun φ => (some (fput φ 99 (.tup []), H)).map fun s => (s, ⟨false, [], []⟩)) (fun φ => stpT (some 99) φ H (just (aLoad E.T 22 (fget φ 98)))) := Zp (j := 3) (oj := Z08) rfl rfl rfl (fun _ => rfl) (fun _ => Zi rfl rfl)
theorem ZBB : stepT E C B 123 Z6 Zaf (φ, H) = gdT φ 91 true (fun φ => (some (fput φ 100 (.tup []), H)).map fun s => (s, ⟨false, [], []⟩)) (fun φ => stpT (some 100) φ H (aCall C (fun j => B + j * 123 + 100) true 118 [(fget φ 95), (fget φ 99)])) := Zp (j := 3) (oj := Z08) rfl rfl rfl (fun _ => rfl) (fun _ => Zi rfl rfl)
theorem ZBE : stepT E C B 123 Z6 Zai (φ, H) = gdT φ 89 true (fun φ => (some (fput φ 101 (.tup []), H)).map fun s => (s, ⟨false, [], []⟩)) (fun φ => stpT (some 101) φ H (opPick (fget φ 91) (fget φ 100) (.bool false))) := Zp (j := 1) (oj := Z1j) rfl rfl rfl (fun _ => rfl) (fun _ => Zi rfl rfl)
theorem ZBz : stepT E C B 123 Z6 Z1r (φ, H) = gdT φ 89 true (fun φ => (some (fput φ 102 (.tup []), H)).map fun s => (s, ⟨false, [], []⟩)) (fun φ => some ((fput φ 102 (fget φ 101), H), ⟨false, [], []⟩)) := Zp (j := 1) (oj := Z1j) rfl rfl rfl (fun _ => rfl) (fun _ => Zh rfl rfl)
theorem ZBH : stepT E C B 123 Z6 Zbl (φ, H) = gdT φ 102 false (fun φ => (some (fput φ 103 (.tup []), H)).map fun s => (s, ⟨false, [], []⟩)) (fun φ => some ((fput φ 103 (fget φ 2), H), ⟨false, [], []⟩)) := Zp (j := 14) (oj := Z1r) rfl rfl rfl (fun _ => rfl) (fun _ => Zh rfl rfl)
theorem ZBV : stepT E C B 123 Z6 ZbO (φ, H) = gdT φ 102 false (fun φ => (some (fput φ 104 (.tup []), H)).map fun s => (s, ⟨false, [], []⟩)) (fun φ => stpT (some 104) φ H (justO (aUn .not (fget φ 103)))) := Zp (j := 14) (oj := Z1r) rfl rfl rfl (fun _ => rfl) (fun _ => Zi rfl rfl)
theorem ZDv : stepT E C B 123 Z6 ZY (φ, H) = gdT φ 102 false (fun φ => (some (fput φ 105 (.tup []), H)).map fun s => (s, ⟨false, [], []⟩)) (fun φ => some ((fput φ 105 (fget φ 104), H), ⟨false, [], []⟩)) := Zp (j := 14) (oj := Z1r) rfl rfl rfl (fun _ => rfl) (fun _ => Zh rfl rfl)
theorem ZCP : stepT E C B 123 Z6 Z9l (φ, H) = gdT φ 105 true (fun φ => (some (fput φ 106 (.tup []), H)).map fun s => (s, ⟨false, [], []⟩)) (fun φ => some ((fput φ 106 (fget φ 10), H), ⟨false, [], []⟩)) := Zp (j := 17) (oj := ZY) rfl rfl rfl (fun _ => rfl) (fun _ => Zh rfl rfl)
theorem ZDj : stepT E C B 123 Z6 ZcQ (φ, H) = gdT φ 105 true (fun φ => (some (fput φ 107 (.tup []), H)).map fun s => (s, ⟨false, [], []⟩)) (fun φ => some ((fput φ 107 (fget φ 14), H), ⟨false, [], []⟩)) := Zp (j := 17) (oj := ZY) rfl rfl rfl (fun _ => rfl) (fun _ => Zh rfl rfl)
theorem ZBk : stepT E C B 123 Z6 Z94 (φ, H) = gdT φ 105 true (fun φ => (some (fput φ 108 (.tup []), H)).map fun s => (s, ⟨false, [], []⟩)) (fun φ => stpT (some 108) φ H (just (Z3 E.T 39 (fget φ 106) (fget φ 107)))) := Zp (j := 17) (oj := ZY) rfl rfl rfl (fun _ => rfl) (fun _ => Zi rfl rfl)
theorem ZCO : stepT E C B 123 Z6 ZbE (φ, H) = gdT φ 105 true (fun φ => (some (fput φ 109 (.tup []), H)).map fun s => (s, ⟨false, [], []⟩)) (fun φ => stpT (some 109) φ H (just (aLoad E.T 22 (fget φ 108)))) := Zp (j := 17) (oj := ZY) rfl rfl rfl (fun _ => rfl) (fun _ => Zi rfl rfl)
theorem ZCm : stepT E C B 123 Z6 ZaQ (φ, H) = gdT φ 105 true (fun φ => (some (fput φ 110 (.tup []), H)).map fun s => (s, ⟨false, [], []⟩)) (fun φ => some ((fput φ 110 (fget φ 10), H), ⟨false, [], []⟩)) := Zp (j := 17) (oj := ZY) rfl rfl rfl (fun _ => rfl) (fun _ => Zh rfl rfl)
theorem ZCQ : stepT E C B 123 Z6 Zb4 (φ, H) = gdT φ 105 true (fun φ => (some (fput φ 111 (.tup []), H)).map fun s => (s, ⟨false, [], []⟩)) (fun φ => some ((fput φ 111 (fget φ 12), H), ⟨false, [], []⟩)) := Zp (j := 17) (oj := ZY) rfl rfl rfl (fun _ => rfl) (fun _ => Zh rfl rfl)
theorem ZDt : stepT E C B 123 Z6 Z9j (φ, H) = gdT φ 105 true (fun φ => (some (fput φ 112 (.tup []), H)).map fun s => (s, ⟨false, [], []⟩)) (fun φ => stpT (some 112) φ H (just (Z3 E.T 39 (fget φ 110) (fget φ 111)))) := Zp (j := 17) (oj := ZY) rfl rfl rfl (fun _ => rfl) (fun _ => Zi rfl rfl)
theorem ZDs : stepT E C B 123 Z6 Z8Y (φ, H) = gdT φ 105 true (fun φ => (some (fput φ 113 (.tup []), H)).map fun s => (s, ⟨false, [], []⟩)) (fun φ => stpT (some 113) φ H (just (aLoad E.T 22 (fget φ 112)))) := Zp (j := 17) (oj := ZY) rfl rfl rfl (fun _ => rfl) (fun _ => Zi rfl rfl)
theorem ZCj : stepT E C B 123 Z6 Z95 (φ, H) = gdT φ 105 true (fun φ => (some (fput φ 114 (.tup []), H)).map fun s => (s, ⟨false, [], []⟩)) (fun φ => stpT (some 114) φ H (aCall C (fun j => B + j * 123 + 114) true 118 [(fget φ 109), (fget φ 113)])) := Zp (j := 17) (oj := ZY) rfl rfl rfl (fun _ => rfl) (fun _ => Zi rfl rfl)
theorem ZBI : stepT E C B 123 Z6 ZcE (φ, H) = gdT φ 102 false (fun φ => (some (fput φ 115 (.tup []), H)).map fun s => (s, ⟨false, [], []⟩)) (fun φ => stpT (some 115) φ H (opPick (fget φ 105) (fget φ 114) (.bool false))) := Zp (j := 14) (oj := Z1r) rfl rfl rfl (fun _ => rfl) (fun _ => Zi rfl rfl)
theorem ZCb : stepT E C B 123 Z6 Z9m (φ, H) = gdT φ 89 true (fun φ => (some (fput φ 116 (.tup []), H)).map fun s => (s, ⟨false, [], []⟩)) (fun φ => stpT (some 116) φ H (opPick (fget φ 102) (.bool true) (fget φ 115))) := Zp (j := 1) (oj := Z1j) rfl rfl rfl (fun _ => rfl) (fun _ => Zi rfl rfl)
theorem ZBC : stepT E C B 123 Z6 Zc9 (φ, H) = stpT (some 117) φ H (opPick (fget φ 89) (fget φ 116) (.bool false)) := Z9 rfl (Zi rfl rfl)
theorem ZCK : stepT E C B 123 Z6 Z8V (φ, H) = some ((fput φ 13 (fget φ 117), H), ⟨false, [], []⟩) := Z9 rfl (Zh rfl rfl)
theorem ZUZ : execA E C (fg 102) B 123 E0 N Zdw s = blockX 5 (fun s => (forget s.1 [], s.2)) (execA E C (fg 102) B 123 E0 N ZcZ s) := Zf (by rfl) (by rfl) s
def Zd3 := kR Z6W
def Z1Z := kO Zd3
def Zfi := opN Z1Z 0
def Zfz := opN Z1Z 1
def ZeU := opN Z1Z 2
theorem ZVJ : XG 102 123 Zd3 Z1Z [86, 87] := Z1 (by rfl) (by rfl) _
theorem ZGz : Z1Z.toList = [Zfi, Zfz, ZeU] := nf
theorem ZGj : stepA E C B 123 Z1Z Zfi (φ, H) = some (fput φ 86 (fget φ 14), H) := nf
theorem ZGc : stepA E C B 123 Z1Z Zfz (φ, H) = stp (some 87) φ H (just (aBin E.T .add 3 (fget φ 86) (.int .i64 1))) := nf
theorem ZGi : stepA E C B 123 Z1Z ZeU (φ, H) = some (fput φ 14 (fget φ 87), H) := nf
theorem ZV8 : XQ 102 123 Z6W Zdw Zd3 := Z0 (by rfl) _
theorem Z01X : XQ 102 123 Z2c Z7x Z6W := Z0 (by rfl) _
theorem ZWB : execA E C (fg 102) B 123 E0 N Zd4 s = iterA (execA E C (fg 102) B 123 E0 N Z2c) (headA E0) N s := ZM (by rfl) s
theorem ZUl : execA E C (fg 102) B 123 E0 N ZdC s = blockX 4 (fun s => (forget s.1 [14, 85], s.2)) (execA E C (fg 102) B 123 E0 N Zd4 s) := Zf (by rfl) (by rfl) s
theorem ZUS : XQ 102 123 Z7q ZdW ZdC := Z0 (by rfl) _
def Z7y := kR Z7H
def Zdl := kL Z7y
def Z6O := kO Zdl
def ZfB := opN Z6O 0
theorem ZSh : XG 102 123 Zdl Z6O [13] := Z1 (by rfl) (by rfl) _
theorem ZHu : Z6O.toList = [ZfB] := nf
theorem ZI4 : stepA E C B 123 Z6O ZfB (φ, H) = some (fput φ 118 (fget φ 13), H) := nf
def Z7k := kR Z7y
def Z6I := kT Z7k
def Zdg := kL Z6I
def Z0c := kO Zdg
def ZfF := opN Z0c 0
def Zg7 := opN Z0c 1
def ZeE := opN Z0c 2
def ZfI := opN Z0c 3
def ZfA := opN Z0c 4
def ZfC := opN Z0c 5
theorem Z00w : XG 102 123 Zdg Z0c [2, 10, 12, 118, 119, 120, 121, 122] := Z1 (by rfl) (by rfl) _
theorem ZJ3 : Z0c.toList = [ZfF, Zg7, ZeE, ZfI, ZfA, ZfC] := nf
theorem ZGR : stepA E C B 123 Z0c ZfF (φ, H) = some (fput φ 119 (fget φ 10), H) := nf
theorem ZHl : stepA E C B 123 Z0c Zg7 (φ, H) = some (fput φ 120 (fget φ 12), H) := nf
theorem ZG5 : stepA E C B 123 Z0c ZeE (φ, H) = stp (some 121) φ H (just (Z3 E.T 39 (fget φ 119) (fget φ 120))) := nf
theorem ZFa : stepA E C B 123 Z0c ZfI (φ, H) = stp (some 122) φ H (just (aLoad E.T 22 (fget φ 121))) := nf
theorem ZHG : stepA E C B 123 Z0c ZfA (φ, H) = some (fput φ 6 (fget φ 122), H) := nf
theorem ZHp : stepA E C B 123 Z0c ZfC (φ, H) = some (fput φ 7 (.int .i64 0), H) := nf
def ZvZ := kR Z6I
theorem ZUz : execA E C (fg 102) B 123 E0 N ZvZ s = some (.ret, s) := Zj (by rfl) s
theorem ZTU : XQ 102 123 Z6I Zdg ZvZ := Z0 (by rfl) _
def ZB1 := kE Z7k
theorem Z02M : execA E C (fg 102) B 123 E0 N ZB1 s = some (.normal, s) := Ze (by rfl) s
theorem ZSr : XC 102 123 Z7k 118 Z6I ZB1 := Zb (by rfl) _
theorem Z03n : XQ 102 123 Z7y Zdl Z7k := Z0 (by rfl) _
theorem Z02P : XQ 102 123 Z7H Z7q Z7y := Z0 (by rfl) _
theorem Z00O : XQ 102 123 Z6l Zdo Z7H := Z0 (by rfl) _
theorem Z049 : execA E C (fg 102) B 123 E0 N Zdy s = blockX 3 (fun s => (forget s.1 [118], s.2)) (execA E C (fg 102) B 123 E0 N Z6l s) := Zf (by rfl) (by rfl) s
def ZdZ := kR Z7e
def Z20 := kO ZdZ
def ZfT := opN Z20 0
def Zet := opN Z20 1
def Zes := opN Z20 2
theorem Z01x : XG 102 123 ZdZ Z20 [80, 81] := Z1 (by rfl) (by rfl) _
theorem ZIS : Z20.toList = [ZfT, Zet, Zes] := nf
theorem ZEI : stepA E C B 123 Z20 ZfT (φ, H) = some (fput φ 80 (fget φ 12), H) := nf
theorem ZHY : stepA E C B 123 Z20 Zet (φ, H) = stp (some 81) φ H (just (aBin E.T .add 3 (fget φ 80) (.int .i64 1))) := nf
theorem ZGm : stepA E C B 123 Z20 Zes (φ, H) = some (fput φ 12 (fget φ 81), H) := nf
theorem ZZT : XQ 102 123 Z7e Zdy ZdZ := Z0 (by rfl) _
theorem Z02l : XQ 102 123 Z2h Z7m Z7e := Z0 (by rfl) _
theorem Z05q : execA E C (fg 102) B 123 E0 N Ze5 s = iterA (execA E C (fg 102) B 123 E0 N Z2h) (headA E0) N s := ZM (by rfl) s
theorem Z04F : execA E C (fg 102) B 123 E0 N ZcU s = blockX 2 (fun s => (forget s.1 [2, 10, 12, 79], s.2)) (execA E C (fg 102) B 123 E0 N Ze5 s) := Zf (by rfl) (by rfl) s
theorem ZZt : XQ 102 123 Z6B ZdL ZcU := Z0 (by rfl) _
def Z7d := kR Z6p
def ZdX := kL Z7d
def Z3w := kO ZdX
def Zeq := opN Z3w 0
def Zfa := opN Z3w 1
theorem ZXl : XG 102 123 ZdX Z3w [] := Z1 (by rfl) (by rfl) _
theorem ZGF : Z3w.toList = [Zeq, Zfa] := nf
theorem ZEx : stepA E C B 123 Z3w Zeq (φ, H) = some (fput φ 6 (.nilsl), H) := nf
theorem ZGv : stepA E C B 123 Z3w Zfa (φ, H) = some (fput φ 7 (.int .i64 0), H) := nf
def Zv3 := kR Z7d
theorem ZUL : execA E C (fg 102) B 123 E0 N Zv3 s = some (.ret, s) := Zj (by rfl) s
theorem ZWE : XQ 102 123 Z7d ZdX Zv3 := Z0 (by rfl) _
theorem Z000 : XQ 102 123 Z6p Z6B Z7d := Z0 (by rfl) _
theorem ZY6 : XQ 102 123 Z6d Z6U Z6p := Z0 (by rfl) _
theorem Z03B : XQ 102 123 Z6S Zd9 Z6d := Z0 (by rfl) _
theorem Z00L : XQ 102 123 Z7E Ze7 Z6S := Z0 (by rfl) _
theorem Z0fe : XQ 102 123 Zbr Zb7 Z7E := Z0 (by rfl) _
theorem Z09H : XQ 102 123 Zay Znj Zbr := Z0 (by rfl) _
theorem Z0dG : XQ 102 123 Z5Q ZpY Zay := Z0 (by rfl) _
theorem Z0dF : fInfo E 102 = some ⟨123, #[.tmp 6, .tmp 7], Z5Q⟩ := nf
theorem Z0i3 (args : List AV) : bodyA E C fg N 102 args H B = bodyX E [.tmp 6, .tmp 7] (execA E C (fg 102) B 123 H N Z5Q (Z4 args 0 [], H)) := Zq Z0dF args H
abbrev Z0P := And.intro (And.intro (And.intro (And.intro (And.intro (And.intro (And.intro @Z0e2 (And.intro @ZOx @ZQG)) (And.intro (And.intro @ZKs @Z0et) (And.intro @ZOP @ZNr))) (And.intro (And.intro @ZK3 (And.intro @ZNV @ZK0)) (And.intro (And.intro @Z0f6 @ZNl) (And.intro @ZLi @ZKT)))) (And.intro (And.intro (And.intro @Z0fa (And.intro @ZPp @ZKX)) (And.intro (And.intro @ZPS @ZLM) (And.intro @ZXA @Z0b2))) (And.intro (And.intro @Z02t (And.intro @Z0dK @Z09F)) (And.intro (And.intro @Z04D @ZPw) (And.intro @ZOp @ZME))))) (And.intro (And.intro (And.intro (And.intro @ZMS (And.intro @ZNo @ZPH)) (And.intro (And.intro @ZPg @Z01n) (And.intro @ZQy @ZP4))) (And.intro (And.intro @Z025 (And.intro @ZPu @ZNq)) (And.intro (And.intro @ZWj @ZPY) (And.intro @ZOD @ZJr)))) (And.intro (And.intro (And.intro @ZL0 (And.intro @ZM1 @ZSB)) (And.intro (And.intro @ZTY @ZSu) (And.intro @ZUu @Z04L))) (And.intro (And.intro (And.intro @ZMf @ZKq) (And.intro @ZQr @ZLC)) (And.intro (And.intro @ZPq @ZPR) (And.intro @ZMR @ZP2)))))) (And.intro (And.intro (And.intro (And.intro (And.intro @ZMB (And.intro @ZPE @ZQs)) (And.intro (And.intro @ZEc @ZJa) (And.intro @ZG9 @ZDI))) (And.intro (And.intro @ZI3 (And.intro @ZEQ @ZIR)) (And.intro (And.intro @ZE1 @ZGl) (And.intro @ZIl @ZHJ)))) (And.intro (And.intro (And.intro @ZHI (And.intro @ZE2 @ZIg)) (And.intro (And.intro @ZFI @ZFT) (And.intro @ZDW @ZEZ))) (And.intro (And.intro @ZGq (And.intro @ZED @ZIq)) (And.intro (And.intro @ZIv @ZGJ) (And.intro @ZIA @ZIh))))) (And.intro (And.intro (And.intro (And.intro @ZFe (And.intro @ZFv @Z00F)) (And.intro (And.intro @ZH8 @ZFc) (And.intro @ZDX @ZFy))) (And.intro (And.intro @ZIj (And.intro @ZGg @ZEP)) (And.intro (And.intro @ZIx @ZHy) (And.intro @Z03A @Z04k)))) (And.intro (And.intro (And.intro @Z04b (And.intro @Z01z @ZUK)) (And.intro (And.intro @ZNA @ZMn) (And.intro @ZM3 @ZLR))) (And.intro (And.intro (And.intro @Z00Q @Z05w) (And.intro @ZWT @ZY5)) (And.intro (And.intro @ZUA @ZX2) (And.intro @ZFJ @ZHd))))))) (And.intro (And.intro (And.intro (And.intro (And.intro (And.intro @ZZB (And.intro @ZJ8 @ZIC)) (And.intro (And.intro @ZJe @ZEn) (And.intro @ZFL @ZUV))) (And.intro (And.intro @ZTJ (And.intro @ZTA @ZVK)) (And.intro (And.intro @Z00b @ZEJ) (And.intro @ZFX @Z04U)))) (And.intro (And.intro (And.intro @ZJd (And.intro @ZHT @ZU9)) (And.intro (And.intro @ZJh @ZGk) (And.intro @ZJl @ZDM))) (And.intro (And.intro @ZGu (And.intro @ZWU @ZTM)) (And.intro (And.intro @Z01Q @Z04Y) (And.intro @Z05s @ZIQ))))) (And.intro (And.intro (And.intro (And.intro @ZBM (And.intro @ZCF @ZHw)) (And.intro (And.intro @ZHk @ZEt) (And.intro @ZGY @ZEC))) (And.intro (And.intro @ZF1 (And.intro @ZHF @ZHL)) (And.intro (And.intro @ZFw @ZFb) (And.intro @ZCg @ZBP)))) (And.intro (And.intro (And.intro @ZBB (And.intro @ZBE @ZBz)) (And.intro (And.intro @ZBH @ZBV) (And.intro @ZDv @ZCP))) (And.intro (And.intro (And.intro @ZDj @ZBk) (And.intro @ZCO @ZCm)) (And.intro (And.intro @ZCQ @ZDt) (And.intro @ZDs @ZCj)))))) (And.intro (And.intro (And.intro (And.intro (And.intro @ZBI (And.intro @ZCb @ZBC)) (And.intro (And.intro @ZCK @ZUZ) (And.intro @ZVJ @ZGz))) (And.intro (And.intro @ZGj (And.intro @ZGc @ZGi)) (And.intro (And.intro @ZV8 @Z01X) (And.intro @ZWB @ZUl)))) (And.intro (And.intro (And.intro @ZUS (And.intro @ZSh @ZHu)) (And.intro (And.intro @ZI4 @Z00w) (And.intro @ZJ3 @ZGR))) (And.intro (And.intro (And.intro @ZHl @ZG5) (And.intro @ZFa @ZHG)) (And.intro (And.intro @ZHp @ZUz) (And.intro @ZTU @Z02M))))) (And.intro (And.intro (And.intro (And.intro @ZSr (And.intro @Z03n @Z02P)) (And.intro (And.intro @Z00O @Z049) (And.intro @Z01x @ZIS))) (And.intro (And.intro @ZEI (And.intro @ZHY @ZGm)) (And.intro (And.intro @ZZT @Z02l) (And.intro @Z05q @Z04F)))) (And.intro (And.intro (And.intro @ZZt (And.intro @ZXl @ZGF)) (And.intro (And.intro @ZEx @ZGv) (And.intro @ZUL @ZWE))) (And.intro (And.intro (And.intro @Z000 @ZY6) (And.intro @Z03B @Z00L)) (And.intro (And.intro @Z0fe @Z09H) (And.intro @Z0dG @Z0i3)))))))
def ZcJ := kBody Proofs.Try.f51
def ZCz := kL ZcJ
def Z7g := kO ZCz
def Zwz := opN Z7g 0
def ZyC := opN Z7g 1
theorem Z0h6 : XG 51 20 ZCz Z7g [4, 5] := Z1 (by rfl) (by rfl) _
theorem Z033 : Z7g.toList = [Zwz, ZyC] := nf
theorem Z01s : stepA E C B 20 Z7g Zwz (φ, H) = some (fput φ 4 (.int .i64 0), H) := nf
theorem ZZ6 : stepA E C B 20 Z7g ZyC (φ, H) = some (fput φ 5 (.int .i64 0), H) := nf
def Zh9 := kR ZcJ
def ZhN := kL Zh9
def ZD1 := kL ZhN
def Z02 := kO ZD1
def ZwM := opN Z02 0
def Zz2 := opN Z02 1
def ZzH := opN Z02 2
def Z2m := opN Z02 3
def ZvW := opN Z02 4
def Zsg := opN Z02 5
def ZzC := opN Z02 6
def Zxx := opN Z02 7
def Zu7 := opN Z02 8
def ZtP := opN Z02 9
theorem Z0kj : XG 51 20 ZD1 Z02 [6, 7, 8, 9, 10, 11, 12, 13, 14] := Z1 (by rfl) (by rfl) _
theorem Z05o : Z02.toList = [ZwM, Zz2, ZzH, Z2m, ZvW, Zsg, ZzC, Zxx, Zu7, ZtP] := nf
theorem Z05f : stepA E C B 20 Z02 ZwM (φ, H) = some (fput φ 6 (fget φ 0), H) := nf
theorem ZXD : stepA E C B 20 Z02 Zz2 (φ, H) = stp (some 7) φ H (aCall C (fun j => B + j * 20 + 7) true 81 [(fget φ 6), (.int .i64 1), (.int .i64 6)]) := nf
theorem ZUB : stepA E C B 20 Z02 ZzH (φ, H) = stp (some 8) φ H (justO (aUn .not (fget φ 7))) := nf
theorem ZXF : stepA E C B 20 Z02 Z2m (φ, H) = some (fput φ 9 (fget φ 8), H) := nf
theorem Z01I : stepA E C B 20 Z02 ZvW (φ, H) = gd φ 9 false (fun φ => some (fput φ 10 (.tup []), H)) (fun φ => some (fput φ 10 (fget φ 1), H)) := s_gd (j := 3) (oj := Z2m) rfl rfl rfl (fun _ => rfl) (fun _ => rfl)
theorem Z02v : stepA E C B 20 Z02 Zsg (φ, H) = gd φ 9 false (fun φ => some (fput φ 11 (.tup []), H)) (fun φ => some (fput φ 11 (fget φ 0), H)) := s_gd (j := 3) (oj := Z2m) rfl rfl rfl (fun _ => rfl) (fun _ => rfl)
theorem Z045 : stepA E C B 20 Z02 ZzC (φ, H) = gd φ 9 false (fun φ => some (fput φ 12 (.tup []), H)) (fun φ => stp (some 12) φ H (just (aBin E.T .mul 3 (fget φ 11) (.int .i64 8)))) := s_gd (j := 3) (oj := Z2m) rfl rfl rfl (fun _ => rfl) (fun _ => rfl)
theorem Z03z : stepA E C B 20 Z02 Zxx (φ, H) = gd φ 9 false (fun φ => some (fput φ 13 (.tup []), H)) (fun φ => stp (some 13) φ H (aCall C (fun j => B + j * 20 + 13) true 81 [(fget φ 10), (.int .i64 0), (fget φ 12)])) := s_gd (j := 3) (oj := Z2m) rfl rfl rfl (fun _ => rfl) (fun _ => rfl)
theorem ZYZ : stepA E C B 20 Z02 Zu7 (φ, H) = gd φ 9 false (fun φ => some (fput φ 14 (.tup []), H)) (fun φ => stp (some 14) φ H (justO (aUn .not (fget φ 13)))) := s_gd (j := 3) (oj := Z2m) rfl rfl rfl (fun _ => rfl) (fun _ => rfl)
theorem ZVL : stepA E C B 20 Z02 ZtP (φ, H) = stp (some 15) φ H (opPick (fget φ 9) (.bool true) (fget φ 14)) := nf
def ZhX := kR ZhN
def Zi1 := kT ZhX
def ZCM := kL Zi1
def Z63 := kO ZCM
def Zxl := opN Z63 0
def Zvy := opN Z63 1
theorem Z0iR : XG 51 20 ZCM Z63 [0, 1, 15] := Z1 (by rfl) (by rfl) _
theorem Z02R : Z63.toList = [Zxl, Zvy] := nf
theorem Z04z : stepA E C B 20 Z63 Zxl (φ, H) = some (fput φ 4 (.int .i64 0), H) := nf
theorem ZRZ : stepA E C B 20 Z63 Zvy (φ, H) = some (fput φ 5 (.int .i64 1), H) := nf
def ZRv := kR Zi1
theorem Z0kg : execA E C (fg 51) B 20 E0 N ZRv s = some (.ret, s) := Zj (by rfl) s
theorem Z0fZ : XQ 51 20 Zi1 ZCM ZRv := Z0 (by rfl) _
def ZRk := kE ZhX
theorem Z0fP : execA E C (fg 51) B 20 E0 N ZRk s = some (.normal, s) := Ze (by rfl) s
theorem Z0iz : XC 51 20 ZhX 15 Zi1 ZRk := Zb (by rfl) _
theorem Z0i0 : XQ 51 20 ZhN ZD1 ZhX := Z0 (by rfl) _
def Z8H := kR Zh9
def ZnW := kL Z8H
def Z1f := kO ZnW
def ZzS := opN Z1f 0
def ZvY := opN Z1f 1
def ZtL := opN Z1f 2
def ZrU := opN Z1f 3
def ZwR := opN Z1f 4
def ZAM := opN Z1f 5
theorem Z0d2 : XG 51 20 ZnW Z1f [0, 1, 15, 16, 17, 18, 19] := Z1 (by rfl) (by rfl) _
theorem Z02j : Z1f.toList = [ZzS, ZvY, ZtL, ZrU, ZwR, ZAM] := nf
theorem Z01p : stepA E C B 20 Z1f ZzS (φ, H) = some (fput φ 16 (fget φ 0), H) := nf
theorem Z05X : stepA E C B 20 Z1f ZvY (φ, H) = some (fput φ 17 (fget φ 1), H) := nf
theorem Z05K : stepA E C B 20 Z1f ZtL (φ, H) = stp (some 18) φ H (aCall C (fun j => B + j * 20 + 18) true 97 [(fget φ 16), (fget φ 17), (.int .i64 8)]) := nf
theorem Z01t : stepA E C B 20 Z1f ZrU (φ, H) = stp (some 19) φ H (Z2 E.T (B + 19) .len #[39] [(fget φ 18)]) := nf
theorem Z051 : stepA E C B 20 Z1f ZwR (φ, H) = some (fput φ 4 (fget φ 19), H) := nf
theorem ZY2 : stepA E C B 20 Z1f ZAM (φ, H) = some (fput φ 5 (.int .i64 0), H) := nf
def ZDA := kR Z8H
theorem Z0aw : execA E C (fg 51) B 20 E0 N ZDA s = some (.ret, s) := Zj (by rfl) s
theorem Z0ar : XQ 51 20 Z8H ZnW ZDA := Z0 (by rfl) _
theorem Z0hV : XQ 51 20 Zh9 ZhN Z8H := Z0 (by rfl) _
theorem Z0kh : XQ 51 20 ZcJ ZCz Zh9 := Z0 (by rfl) _
theorem Z0fy : fInfo E 51 = some ⟨20, #[.tmp 4, .tmp 5], ZcJ⟩ := nf
theorem b_51 (args : List AV) : bodyA E C fg N 51 args H B = bodyX E [.tmp 4, .tmp 5] (execA E C (fg 51) B 20 H N ZcJ (Z4 args 0 [], H)) := Zq Z0fy args H
abbrev F_51 := And.intro (And.intro (And.intro (And.intro (And.intro @Z0h6 @Z033) (And.intro @Z01s @ZZ6)) (And.intro (And.intro @Z0kj @Z05o) (And.intro @Z05f (And.intro @ZXD @ZUB)))) (And.intro (And.intro (And.intro @ZXF @Z01I) (And.intro @Z02v (And.intro @Z045 @Z03z))) (And.intro (And.intro @ZYZ @ZVL) (And.intro @Z0iR (And.intro @Z02R @Z04z))))) (And.intro (And.intro (And.intro (And.intro @ZRZ @Z0kg) (And.intro @Z0fZ @Z0fP)) (And.intro (And.intro @Z0iz @Z0i0) (And.intro @Z0d2 (And.intro @Z02j @Z01p)))) (And.intro (And.intro (And.intro @Z05X @Z05K) (And.intro @Z01t (And.intro @Z051 @ZY2))) (And.intro (And.intro @Z0aw @Z0ar) (And.intro @Z0hV (And.intro @Z0kh @b_51)))))
def Zb6 := kBody Proofs.Try.f53
def ZDq := kL Zb6
def Z6E := kO ZDq
def ZxS := opN Z6E 0
def Zs3 := opN Z6E 1
theorem Z0j7 : XG 53 56 ZDq Z6E [2, 3] := Z1 (by rfl) (by rfl) _
theorem ZVm : Z6E.toList = [ZxS, Zs3] := nf
theorem ZTz : stepA E C B 56 Z6E ZxS (φ, H) = some (fput φ 2 (.nilsl), H) := nf
theorem ZW1 : stepA E C B 56 Z6E Zs3 (φ, H) = some (fput φ 3 (.int .i64 0), H) := nf
def Zhy := kR Zb6
def ZCE := kL Zhy
def Z4v := kO ZCE
def ZsO := opN Z4v 0
def ZuV := opN Z4v 1
def ZwQ := opN Z4v 2
theorem Z0gb : XG 53 56 ZCE Z4v [9, 10] := Z1 (by rfl) (by rfl) _
theorem ZTc : Z4v.toList = [ZsO, ZuV, ZwQ] := nf
theorem ZRW : stepA E C B 56 Z4v ZsO (φ, H) = some (fput φ 9 (fget φ 0), H) := nf
theorem Z05M : stepA E C B 56 Z4v ZuV (φ, H) = stp (some 10) φ H (aCall C (fun j => B + j * 56 + 10) true 26 [(fget φ 9)]) := nf
theorem Z02X : stepA E C B 56 Z4v ZwQ (φ, H) = some (fput φ 4 (fget φ 10), H) := nf
def Zi2 := kR Zhy
def Zio := kL Zi2
def ZBx := kL Zio
def Z0r := kO ZBx
def ZAm := opN Z0r 0
def Zsc := opN Z0r 1
def Z3s := opN Z0r 2
def Zss := opN Z0r 3
def ZrV := opN Z0r 4
def Zt1 := opN Z0r 5
def ZAO := opN Z0r 6
def ZyK := opN Z0r 7
theorem Z0iA : XG 53 56 ZBx Z0r [11, 12, 13, 14, 15, 16, 17] := Z1 (by rfl) (by rfl) _
theorem ZWc : Z0r.toList = [ZAm, Zsc, Z3s, Zss, ZrV, Zt1, ZAO, ZyK] := nf
theorem Z00K : stepA E C B 56 Z0r ZAm (φ, H) = some (fput φ 11 (fget φ 4), H) := nf
theorem ZXd : stepA E C B 56 Z0r Zsc (φ, H) = stp (some 12) φ H (just (aBin E.T .eql 24 (fget φ 11) (.int .i64 0))) := nf
theorem ZYv : stepA E C B 56 Z0r Z3s (φ, H) = some (fput φ 13 (fget φ 12), H) := nf
theorem ZXx : stepA E C B 56 Z0r Zss (φ, H) = gd φ 13 true (fun φ => some (fput φ 14 (.tup []), H)) (fun φ => some (fput φ 14 (fget φ 0), H)) := s_gd (j := 2) (oj := Z3s) rfl rfl rfl (fun _ => rfl) (fun _ => rfl)
theorem Z02I : stepA E C B 56 Z0r ZrV (φ, H) = gd φ 13 true (fun φ => some (fput φ 15 (.tup []), H)) (fun φ => stp (some 15) φ H (just (Z3 E.T 22 (fget φ 14) (.int .i64 0)))) := s_gd (j := 2) (oj := Z3s) rfl rfl rfl (fun _ => rfl) (fun _ => rfl)
theorem ZVa : stepA E C B 56 Z0r Zt1 (φ, H) = gd φ 13 true (fun φ => some (fput φ 16 (.tup []), H)) (fun φ => stp (some 16) φ H (just (aLoad E.T 3 (fget φ 15)))) := s_gd (j := 2) (oj := Z3s) rfl rfl rfl (fun _ => rfl) (fun _ => rfl)
theorem Z00f : stepA E C B 56 Z0r ZAO (φ, H) = gd φ 13 true (fun φ => some (fput φ 17 (.tup []), H)) (fun φ => stp (some 17) φ H (just (aBin E.T .eql 3 (fget φ 16) (.int .i64 0)))) := s_gd (j := 2) (oj := Z3s) rfl rfl rfl (fun _ => rfl) (fun _ => rfl)
theorem ZZx : stepA E C B 56 Z0r ZyK (φ, H) = stp (some 18) φ H (opPick (fget φ 13) (fget φ 17) (.bool false)) := nf
def Zht := kR Zio
def ZC4 := kT Zht
def ZhK := kO ZC4
def Zt0 := opN ZhK 0
theorem Z0ju : XG 53 56 ZC4 ZhK [18] := Z1 (by rfl) (by rfl) _
theorem ZU2 : ZhK.toList = [Zt0] := nf
theorem Z05T : stepA E C B 56 ZhK Zt0 (φ, H) = some (fput φ 4 (.int .i64 21), H) := nf
def ZRB := kE Zht
theorem Z0fF : execA E C (fg 53) B 56 E0 N ZRB s = some (.normal, s) := Ze (by rfl) s
theorem Z0jF : XC 53 56 Zht 18 ZC4 ZRB := Zb (by rfl) _
theorem Z0hl : XQ 53 56 Zio ZBx Zht := Z0 (by rfl) _
def ZcL := kR Zi2
def Zah := kL ZcL
def ZnT := kL Zah
def Z0u := kO ZnT
def Zwn := opN Z0u 0
def ZAx := opN Z0u 1
def Z3m := opN Z0u 2
def ZvX := opN Z0u 3
def ZvO := opN Z0u 4
def ZtS := opN Z0u 5
def ZxK := opN Z0u 6
def Zzz := opN Z0u 7
theorem Z08q : XG 53 56 ZnT Z0u [18, 19, 20, 21, 22, 23, 24, 25] := Z1 (by rfl) (by rfl) _
theorem ZTp : Z0u.toList = [Zwn, ZAx, Z3m, ZvX, ZvO, ZtS, ZxK, Zzz] := nf
theorem ZWs : stepA E C B 56 Z0u Zwn (φ, H) = some (fput φ 19 (fget φ 4), H) := nf
theorem Z01A : stepA E C B 56 Z0u ZAx (φ, H) = stp (some 20) φ H (just (aBin E.T .eql 24 (fget φ 19) (.int .i64 0))) := nf
theorem ZW5 : stepA E C B 56 Z0u Z3m (φ, H) = some (fput φ 21 (fget φ 20), H) := nf
theorem ZWv : stepA E C B 56 Z0u ZvX (φ, H) = gd φ 21 true (fun φ => some (fput φ 22 (.tup []), H)) (fun φ => some (fput φ 22 (fget φ 0), H)) := s_gd (j := 2) (oj := Z3m) rfl rfl rfl (fun _ => rfl) (fun _ => rfl)
theorem ZRS : stepA E C B 56 Z0u ZvO (φ, H) = gd φ 21 true (fun φ => some (fput φ 23 (.tup []), H)) (fun φ => stp (some 23) φ H (just (Z3 E.T 22 (fget φ 22) (.int .i64 0)))) := s_gd (j := 2) (oj := Z3m) rfl rfl rfl (fun _ => rfl) (fun _ => rfl)
theorem ZTt : stepA E C B 56 Z0u ZtS (φ, H) = gd φ 21 true (fun φ => some (fput φ 24 (.tup []), H)) (fun φ => stp (some 24) φ H (just (aLoad E.T 3 (fget φ 23)))) := s_gd (j := 2) (oj := Z3m) rfl rfl rfl (fun _ => rfl) (fun _ => rfl)
theorem Z01E : stepA E C B 56 Z0u ZxK (φ, H) = gd φ 21 true (fun φ => some (fput φ 25 (.tup []), H)) (fun φ => stp (some 25) φ H (just (aBin E.T .gtr 3 (fget φ 24) (.int .i64 6)))) := s_gd (j := 2) (oj := Z3m) rfl rfl rfl (fun _ => rfl) (fun _ => rfl)
theorem ZRJ : stepA E C B 56 Z0u Zzz (φ, H) = stp (some 26) φ H (opPick (fget φ 21) (fget φ 25) (.bool false)) := nf
def Z8m := kR Zah
def Zkq := kT Z8m
def Zhp := kO Zkq
def Zt8 := opN Zhp 0
theorem Z06T : XG 53 56 Zkq Zhp [26] := Z1 (by rfl) (by rfl) _
theorem ZYI : Zhp.toList = [Zt8] := nf
theorem Z02U : stepA E C B 56 Zhp Zt8 (φ, H) = some (fput φ 4 (.int .i64 3), H) := nf
def ZEq := kE Z8m
theorem Z0dr : execA E C (fg 53) B 56 E0 N ZEq s = some (.normal, s) := Ze (by rfl) s
theorem Z06j : XC 53 56 Z8m 26 Zkq ZEq := Zb (by rfl) _
theorem Z0bz : XQ 53 56 Zah ZnT Z8m := Z0 (by rfl) _
def Z8D := kR ZcL
def ZaJ := kL Z8D
def Zj0 := kL ZaJ
def Z6v := kO Zj0
def ZwO := opN Z6v 0
def Zxo := opN Z6v 1
theorem Z06o : XG 53 56 Zj0 Z6v [26, 27] := Z1 (by rfl) (by rfl) _
theorem Z01M : Z6v.toList = [ZwO, Zxo] := nf
theorem ZVP : stepA E C B 56 Z6v ZwO (φ, H) = some (fput φ 27 (fget φ 4), H) := nf
theorem ZVW : stepA E C B 56 Z6v Zxo (φ, H) = stp (some 28) φ H (just (aBin E.T .neq 24 (fget φ 27) (.int .i64 0))) := nf
def Z9C := kR ZaJ
def ZaE := kT Z9C
def Zpk := kL ZaE
def Z4b := kO Zpk
def ZAt := opN Z4b 0
def Zww := opN Z4b 1
def Zzs := opN Z4b 2
theorem Z0cU : XG 53 56 Zpk Z4b [0, 4, 28, 29] := Z1 (by rfl) (by rfl) _
theorem ZRG : Z4b.toList = [ZAt, Zww, Zzs] := nf
theorem ZZE : stepA E C B 56 Z4b ZAt (φ, H) = some (fput φ 29 (fget φ 4), H) := nf
theorem Z057 : stepA E C B 56 Z4b Zww (φ, H) = some (fput φ 2 (.nilsl), H) := nf
theorem ZWx : stepA E C B 56 Z4b Zzs (φ, H) = some (fput φ 3 (fget φ 29), H) := nf
def ZIE := kR ZaE
theorem Z0eB : execA E C (fg 53) B 56 E0 N ZIE s = some (.ret, s) := Zj (by rfl) s
theorem Z0eF : XQ 53 56 ZaE Zpk ZIE := Z0 (by rfl) _
def ZHt := kE Z9C
theorem Z07v : execA E C (fg 53) B 56 E0 N ZHt s = some (.normal, s) := Ze (by rfl) s
theorem Z09k : XC 53 56 Z9C 28 ZaE ZHt := Zb (by rfl) _
theorem Z0aa : XQ 53 56 ZaJ Zj0 Z9C := Z0 (by rfl) _
def Z8M := kR Z8D
def Zkh := kL Z8M
def Zgs := kO Zkh
def Zt9 := opN Zgs 0
theorem Z0dP : XG 53 56 Zkh Zgs [4, 28] := Z1 (by rfl) (by rfl) _
theorem Z013 : Zgs.toList = [Zt9] := nf
theorem Z028 : stepA E C B 56 Zgs Zt9 (φ, H) = some (fput φ 5 (.nilsl), H) := nf
def Zci := kR Z8M
def Z8X := kL Zci
def ZlW := kL Z8X
def ZhV := kO ZlW
def Zz5 := opN ZhV 0
theorem Z09M : XG 53 56 ZlW ZhV [] := Z1 (by rfl) (by rfl) _
theorem ZWp : ZhV.toList = [Zz5] := nf
theorem ZUc : stepA E C B 56 ZhV Zz5 (φ, H) = some (fput φ 6 (.int .i64 0), H) := nf
def ZkQ := kR Z8X
def ZjT := kB ZkQ
def Z4R := kB ZjT
def Za1 := kL Z4R
def ZqN := kL Za1
def Z13 := kO ZqN
def Zrn := opN Z13 0
def Zlf := opN Z13 1
def Znh := opN Z13 2
def Zoe := opN Z13 3
def Zo9 := opN Z13 4
theorem Z08o : XG 53 56 ZqN Z13 [30, 31, 32, 33] := Z1 (by rfl) (by rfl) _
theorem ZK8 : Z13.toList = [Zrn, Zlf, Znh, Zoe, Zo9] := nf
theorem ZJH : stepA E C B 56 Z13 Zrn (φ, H) = some (fput φ 30 (fget φ 6), H) := nf
theorem ZJF : stepA E C B 56 Z13 Zlf (φ, H) = some (fput φ 31 (fget φ 0), H) := nf
theorem ZLz : stepA E C B 56 Z13 Znh (φ, H) = stp (some 32) φ H (just (Z3 E.T 22 (fget φ 31) (.int .i64 0))) := nf
theorem ZOa : stepA E C B 56 Z13 Zoe (φ, H) = stp (some 33) φ H (just (aLoad E.T 3 (fget φ 32))) := nf
theorem ZNO : stepA E C B 56 Z13 Zo9 (φ, H) = stp (some 34) φ H (just (aBin E.T .lss 3 (fget φ 30) (fget φ 33))) := nf
def Z9i := kR Za1
def ZFS := kT Z9i
theorem Z0fg : execA E C (fg 53) B 56 E0 N ZFS s = some (.normal, s) := Ze (by rfl) s
def ZEv := kE Z9i
theorem Z0aG : execA E C (fg 53) B 56 E0 N ZEv s = some (.exit 0, s) := ZL (by rfl) s
theorem Z0e4 : XC 53 56 Z9i 34 ZFS ZEv := Zb (by rfl) _
theorem Z0eD : XQ 53 56 Za1 ZqN Z9i := Z0 (by rfl) _
def Zch := kR Z4R
def ZlP := kL Zch
def Zbi := kB ZlP
def Znw := kL Zbi
def Z9A := kO Znw
def Zl9 := opN Z9A 0
theorem Z063 : XG 53 56 Znw Z9A [34] := Z1 (by rfl) (by rfl) _
theorem ZPz : Z9A.toList = [Zl9] := nf
theorem ZMs : stepA E C B 56 Z9A Zl9 (φ, H) = some (fput φ 7 (.int .i64 0), H) := nf
def Zbw := kR Zbi
def Z9P := kL Zbw
def ZnS := kL Z9P
def Zbt := kO ZnS
def Zr9 := opN Zbt 0
theorem Z0bG : XG 53 56 ZnS Zbt [] := Z1 (by rfl) (by rfl) _
theorem ZM6 : Zbt.toList = [Zr9] := nf
theorem ZQw : stepA E C B 56 Zbt Zr9 (φ, H) = some (fput φ 8 (.int .i64 0), H) := nf
def ZpA := kR Z9P
def Zqf := kB ZpA
def Z52 := kB Zqf
def Zcg := kL Z52
def Zlm := kL Zcg
def Z1D := kO Zlm
def Znd := opN Z1D 0
def Zlr := opN Z1D 1
def Zj5 := opN Z1D 2
def Zon := opN Z1D 3
theorem Z0c5 : XG 53 56 Zlm Z1D [37, 38, 39] := Z1 (by rfl) (by rfl) _
theorem ZNp : Z1D.toList = [Znd, Zlr, Zj5, Zon] := nf
theorem ZQZ : stepA E C B 56 Z1D Znd (φ, H) = some (fput φ 37 (fget φ 8), H) := nf
theorem ZLB : stepA E C B 56 Z1D Zlr (φ, H) = some (fput φ 38 (fget φ 0), H) := nf
theorem ZQf : stepA E C B 56 Z1D Zj5 (φ, H) = stp (some 39) φ H (Z2 E.T (B + 39) .len #[22] [(fget φ 38)]) := nf
theorem ZPb : stepA E C B 56 Z1D Zon (φ, H) = stp (some 40) φ H (just (aBin E.T .lss 3 (fget φ 37) (fget φ 39))) := nf
def Z8y := kR Zcg
def ZIM := kT Z8y
theorem Z0aF : execA E C (fg 53) B 56 E0 N ZIM s = some (.normal, s) := Ze (by rfl) s
def ZHi := kE Z8y
theorem Z09A : execA E C (fg 53) B 56 E0 N ZHi s = some (.exit 2, s) := ZL (by rfl) s
theorem Z0dR : XC 53 56 Z8y 40 ZIM ZHi := Zb (by rfl) _
theorem Z09I : XQ 53 56 Zcg Zlm Z8y := Z0 (by rfl) _
def ZbQ := kR Z52
def ZnV := kL ZbQ
def Z8n := kB ZnV
def Znr := kL Z8n
def Z0y := kO Znr
def Zp9 := opN Z0y 0
def Zq1 := opN Z0y 1
def ZpZ := opN Z0y 2
def Zrg := opN Z0y 3
def ZnA := opN Z0y 4
def Zmp := opN Z0y 5
theorem Z07M : XG 53 56 Znr Z0y [40, 43, 44, 45, 46, 47] := Z1 (by rfl) (by rfl) _
theorem ZQJ : Z0y.toList = [Zp9, Zq1, ZpZ, Zrg, ZnA, Zmp] := nf
theorem ZPP : stepA E C B 56 Z0y Zp9 (φ, H) = some (fput φ 43 (fget φ 0), H) := nf
theorem ZPe : stepA E C B 56 Z0y Zq1 (φ, H) = some (fput φ 44 (fget φ 8), H) := nf
theorem ZQb : stepA E C B 56 Z0y ZpZ (φ, H) = stp (some 45) φ H (just (Z3 E.T 22 (fget φ 43) (fget φ 44))) := nf
theorem ZK5 : stepA E C B 56 Z0y Zrg (φ, H) = stp (some 46) φ H (just (aLoad E.T 3 (fget φ 45))) := nf
theorem ZOW : stepA E C B 56 Z0y ZnA (φ, H) = some (fput φ 47 (fget φ 6), H) := nf
theorem ZQT : stepA E C B 56 Z0y Zmp (φ, H) = stp (some 48) φ H (just (aBin E.T .gtr 3 (fget φ 46) (fget φ 47))) := nf
def ZcB := kR Z8n
def ZjF := kT ZcB
def Z2T := kO ZjF
def Zqy := opN Z2T 0
def Zjs := opN Z2T 1
def Zn4 := opN Z2T 2
theorem Z0dn : XG 53 56 ZjF Z2T [48, 49, 50] := Z1 (by rfl) (by rfl) _
theorem ZO3 : Z2T.toList = [Zqy, Zjs, Zn4] := nf
theorem ZLG : stepA E C B 56 Z2T Zqy (φ, H) = some (fput φ 49 (fget φ 7), H) := nf
theorem ZLp : stepA E C B 56 Z2T Zjs (φ, H) = stp (some 50) φ H (just (aBin E.T .add 3 (fget φ 49) (.int .i64 1))) := nf
theorem ZPK : stepA E C B 56 Z2T Zn4 (φ, H) = some (fput φ 7 (fget φ 50), H) := nf
def ZDz := kE ZcB
theorem Z0ck : execA E C (fg 53) B 56 E0 N ZDz s = some (.normal, s) := Ze (by rfl) s
theorem Z0br : XC 53 56 ZcB 48 ZjF ZDz := Zb (by rfl) _
theorem Z0e6 : XQ 53 56 Z8n Znr ZcB := Z0 (by rfl) _
theorem Z07T : execA E C (fg 53) B 56 E0 N ZnV s = blockX 3 (fun s => (forget s.1 [48], s.2)) (execA E C (fg 53) B 56 E0 N Z8n s) := Zf (by rfl) (by rfl) s
def Zmq := kR ZbQ
def Z2M := kO Zmq
def Zqj := opN Z2M 0
def ZjN := opN Z2M 1
def Zr4 := opN Z2M 2
theorem Z08L : XG 53 56 Zmq Z2M [41, 42] := Z1 (by rfl) (by rfl) _
theorem ZQV : Z2M.toList = [Zqj, ZjN, Zr4] := nf
theorem ZKe : stepA E C B 56 Z2M Zqj (φ, H) = some (fput φ 41 (fget φ 8), H) := nf
theorem ZL4 : stepA E C B 56 Z2M ZjN (φ, H) = stp (some 42) φ H (just (aBin E.T .add 3 (fget φ 41) (.int .i64 1))) := nf
theorem ZKC : stepA E C B 56 Z2M Zr4 (φ, H) = some (fput φ 8 (fget φ 42), H) := nf
theorem Z0ak : XQ 53 56 ZbQ ZnV Zmq := Z0 (by rfl) _
theorem Z09j : XQ 53 56 Z52 Zcg ZbQ := Z0 (by rfl) _
theorem Z06h : execA E C (fg 53) B 56 E0 N Zqf s = iterA (execA E C (fg 53) B 56 E0 N Z52) (headA E0) N s := ZM (by rfl) s
theorem Z094 : execA E C (fg 53) B 56 E0 N ZpA s = blockX 2 (fun s => (forget s.1 [8, 40], s.2)) (execA E C (fg 53) B 56 E0 N Zqf s) := Zf (by rfl) (by rfl) s
theorem Z07O : XQ 53 56 Z9P ZnS ZpA := Z0 (by rfl) _
def Ziv := kR Zbw
def Z15 := kO Ziv
def Zp7 := opN Z15 0
def Zkp := opN Z15 1
def Zpq := opN Z15 2
def ZlM := opN Z15 3
def ZmK := opN Z15 4
theorem Z0aU : XG 53 56 Ziv Z15 [7, 51, 52, 53, 54] := Z1 (by rfl) (by rfl) _
theorem ZLU : Z15.toList = [Zp7, Zkp, Zpq, ZlM, ZmK] := nf
theorem ZLO : stepA E C B 56 Z15 Zp7 (φ, H) = some (fput φ 51 (fget φ 5), H) := nf
theorem ZMV : stepA E C B 56 Z15 Zkp (φ, H) = some (fput φ 52 (fget φ 7), H) := nf
theorem ZLP : stepA E C B 56 Z15 Zpq (φ, H) = stp (some 53) φ H (Z8 E.T (B + 53) 22 1 (evO E φ) [(0, Operand.tmp 52)]) := nf
theorem ZQz : stepA E C B 56 Z15 ZlM (φ, H) = stp (some 54) φ H (Z2 E.T (B + 54) .append #[22, 22] [(fget φ 51), (fget φ 53)]) := nf
theorem ZKL : stepA E C B 56 Z15 ZmK (φ, H) = some (fput φ 5 (fget φ 54), H) := nf
theorem Z0fc : XQ 53 56 Zbw Z9P Ziv := Z0 (by rfl) _
theorem Z08F : XQ 53 56 Zbi Znw Zbw := Z0 (by rfl) _
theorem Z0aj : execA E C (fg 53) B 56 E0 N ZlP s = blockX 1 (fun s => (forget s.1 [], s.2)) (execA E C (fg 53) B 56 E0 N Zbi s) := Zf (by rfl) (by rfl) s
def ZoI := kR Zch
def Z2N := kO ZoI
def Znv := opN Z2N 0
def Zm6 := opN Z2N 1
def Zq9 := opN Z2N 2
theorem Z09a : XG 53 56 ZoI Z2N [35, 36] := Z1 (by rfl) (by rfl) _
theorem ZMe : Z2N.toList = [Znv, Zm6, Zq9] := nf
theorem ZL3 : stepA E C B 56 Z2N Znv (φ, H) = some (fput φ 35 (fget φ 6), H) := nf
theorem ZO1 : stepA E C B 56 Z2N Zm6 (φ, H) = stp (some 36) φ H (just (aBin E.T .add 3 (fget φ 35) (.int .i64 1))) := nf
theorem ZPt : stepA E C B 56 Z2N Zq9 (φ, H) = some (fput φ 6 (fget φ 36), H) := nf
theorem Z0ec : XQ 53 56 Zch ZlP ZoI := Z0 (by rfl) _
theorem Z08i : XQ 53 56 Z4R Za1 Zch := Z0 (by rfl) _
theorem Z0bs : execA E C (fg 53) B 56 E0 N ZjT s = iterA (execA E C (fg 53) B 56 E0 N Z4R) (headA E0) N s := ZM (by rfl) s
theorem Z0e7 : execA E C (fg 53) B 56 E0 N ZkQ s = blockX 0 (fun s => (forget s.1 [0, 6, 34], s.2)) (execA E C (fg 53) B 56 E0 N ZjT s) := Zf (by rfl) (by rfl) s
theorem Z0e9 : XQ 53 56 Z8X ZlW ZkQ := Z0 (by rfl) _
def Zbe := kR Zci
def Zns := kL Zbe
def Z2F := kO Zns
def ZjX := opN Z2F 0
def Zjq := opN Z2F 1
def Zll := opN Z2F 2
theorem Z06m : XG 53 56 Zns Z2F [5, 55] := Z1 (by rfl) (by rfl) _
theorem ZKR : Z2F.toList = [ZjX, Zjq, Zll] := nf
theorem ZNP : stepA E C B 56 Z2F ZjX (φ, H) = some (fput φ 55 (fget φ 5), H) := nf
theorem ZNU : stepA E C B 56 Z2F Zjq (φ, H) = some (fput φ 2 (fget φ 55), H) := nf
theorem ZR4 : stepA E C B 56 Z2F Zll (φ, H) = some (fput φ 3 (.int .i64 0), H) := nf
def ZGX := kR Zbe
theorem Z0eG : execA E C (fg 53) B 56 E0 N ZGX s = some (.ret, s) := Zj (by rfl) s
theorem Z07q : XQ 53 56 Zbe Zns ZGX := Z0 (by rfl) _
theorem Z09L : XQ 53 56 Zci Z8X Zbe := Z0 (by rfl) _
theorem Z0eg : XQ 53 56 Z8M Zkh Zci := Z0 (by rfl) _
theorem Z0dc : XQ 53 56 Z8D ZaJ Z8M := Z0 (by rfl) _
theorem Z077 : XQ 53 56 ZcL Zah Z8D := Z0 (by rfl) _
theorem Z0gn : XQ 53 56 Zi2 Zio ZcL := Z0 (by rfl) _
theorem Z0jV : XQ 53 56 Zhy ZCE Zi2 := Z0 (by rfl) _
theorem Z0h4 : XQ 53 56 Zb6 ZDq Zhy := Z0 (by rfl) _
theorem Z0fW : fInfo E 53 = some ⟨56, #[.tmp 2, .tmp 3], Zb6⟩ := nf
theorem b_53 (args : List AV) : bodyA E C fg N 53 args H B = bodyX E [.tmp 2, .tmp 3] (execA E C (fg 53) B 56 H N Zb6 (Z4 args 0 [], H)) := Zq Z0fW args H
abbrev F_53 := And.intro (And.intro (And.intro (And.intro (And.intro (And.intro (And.intro @Z0j7 @ZVm) (And.intro @ZTz @ZW1)) (And.intro (And.intro @Z0gb @ZTc) (And.intro @ZRW (And.intro @Z05M @Z02X)))) (And.intro (And.intro (And.intro @Z0iA @ZWc) (And.intro @Z00K @ZXd)) (And.intro (And.intro @ZYv @ZXx) (And.intro @Z02I (And.intro @ZVa @Z00f))))) (And.intro (And.intro (And.intro (And.intro @ZZx @Z0ju) (And.intro @ZU2 @Z05T)) (And.intro (And.intro @Z0fF @Z0jF) (And.intro @Z0hl (And.intro @Z08q @ZTp)))) (And.intro (And.intro (And.intro @ZWs @Z01A) (And.intro @ZW5 (And.intro @ZWv @ZRS))) (And.intro (And.intro @ZTt @Z01E) (And.intro @ZRJ (And.intro @Z06T @ZYI)))))) (And.intro (And.intro (And.intro (And.intro (And.intro @Z02U @Z0dr) (And.intro @Z06j @Z0bz)) (And.intro (And.intro @Z06o @Z01M) (And.intro @ZVP (And.intro @ZVW @Z0cU)))) (And.intro (And.intro (And.intro @ZRG @ZZE) (And.intro @Z057 (And.intro @ZWx @Z0eB))) (And.intro (And.intro @Z0eF @Z07v) (And.intro @Z09k (And.intro @Z0aa @Z0dP))))) (And.intro (And.intro (And.intro (And.intro @Z013 @Z028) (And.intro @Z09M @ZWp)) (And.intro (And.intro @ZUc @Z08o) (And.intro @ZK8 (And.intro @ZJH @ZJF)))) (And.intro (And.intro (And.intro @ZLz @ZOa) (And.intro @ZNO (And.intro @Z0fg @Z0aG))) (And.intro (And.intro @Z0e4 @Z0eD) (And.intro @Z063 (And.intro @ZPz @ZMs))))))) (And.intro (And.intro (And.intro (And.intro (And.intro (And.intro @Z0bG @ZM6) (And.intro @ZQw @Z0c5)) (And.intro (And.intro @ZNp @ZQZ) (And.intro @ZLB (And.intro @ZQf @ZPb)))) (And.intro (And.intro (And.intro @Z0aF @Z09A) (And.intro @Z0dR @Z09I)) (And.intro (And.intro @Z07M @ZQJ) (And.intro @ZPP (And.intro @ZPe @ZQb))))) (And.intro (And.intro (And.intro (And.intro @ZK5 @ZOW) (And.intro @ZQT @Z0dn)) (And.intro (And.intro @ZO3 @ZLG) (And.intro @ZLp (And.intro @ZPK @Z0ck)))) (And.intro (And.intro (And.intro @Z0br @Z0e6) (And.intro @Z07T (And.intro @Z08L @ZQV))) (And.intro (And.intro @ZKe @ZL4) (And.intro @ZKC (And.intro @Z0ak @Z09j)))))) (And.intro (And.intro (And.intro (And.intro (And.intro @Z06h @Z094) (And.intro @Z07O @Z0aU)) (And.intro (And.intro @ZLU @ZLO) (And.intro @ZMV (And.intro @ZLP @ZQz)))) (And.intro (And.intro (And.intro @ZKL @Z0fc) (And.intro @Z08F (And.intro @Z0aj @Z09a))) (And.intro (And.intro @ZMe @ZL3) (And.intro @ZO1 (And.intro @ZPt @Z0ec))))) (And.intro (And.intro (And.intro (And.intro @Z08i @Z0bs) (And.intro @Z0e7 @Z0e9)) (And.intro (And.intro @Z06m @ZKR) (And.intro @ZNP (And.intro @ZNU @ZR4)))) (And.intro (And.intro (And.intro @Z0eG @Z07q) (And.intro @Z09L (And.intro @Z0eg @Z0dc))) (And.intro (And.intro @Z077 @Z0gn) (And.intro @Z0jV (And.intro @Z0h4 @b_53)))))))
def Z8K := kBody Proofs.Try.f55
def ZBc := kL Z8K
def Z61 := kO ZBc
def ZAI := opN Z61 0
def Zs5 := opN Z61 1
theorem Z0gr : XG 55 44 ZBc Z61 [4, 5] := Z1 (by rfl) (by rfl) _
theorem ZYA : Z61.toList = [ZAI, Zs5] := nf
theorem Z05x : stepA E C B 44 Z61 ZAI (φ, H) = some (fput φ 4 (.int .i64 0), H) := nf
theorem ZVz : stepA E C B 44 Z61 Zs5 (φ, H) = some (fput φ 5 (.int .i64 0), H) := nf
def Zi4 := kR Z8K
def ZCc := kL Zi4
def Z4w := kO ZCc
def ZwZ := opN Z4w 0
def Zta := opN Z4w 1
def ZtG := opN Z4w 2
theorem Z0g6 : XG 55 44 ZCc Z4w [11, 12] := Z1 (by rfl) (by rfl) _
theorem ZVv : Z4w.toList = [ZwZ, Zta, ZtG] := nf
theorem Z02E : stepA E C B 44 Z4w ZwZ (φ, H) = some (fput φ 11 (fget φ 0), H) := nf
theorem ZSQ : stepA E C B 44 Z4w Zta (φ, H) = stp (some 12) φ H (aCall C (fun j => B + j * 44 + 12) true 26 [(fget φ 11)]) := nf
theorem Z004 : stepA E C B 44 Z4w ZtG (φ, H) = some (fput φ 6 (fget φ 12), H) := nf
def ZgO := kR Zi4
def ZhS := kL ZgO
def ZCh := kL ZhS
def Z0F := kO ZCh
def Zu4 := opN Z0F 0
def ZyF := opN Z0F 1
def Z4M := opN Z0F 2
def ZrL := opN Z0F 3
def Zvt := opN Z0F 4
def ZuS := opN Z0F 5
def Zxs := opN Z0F 6
theorem Z0jB : XG 55 44 ZCh Z0F [13, 14, 15, 16, 17, 18] := Z1 (by rfl) (by rfl) _
theorem Z01q : Z0F.toList = [Zu4, ZyF, Z4M, ZrL, Zvt, ZuS, Zxs] := nf
theorem Z03C : stepA E C B 44 Z0F Zu4 (φ, H) = some (fput φ 13 (fget φ 6), H) := nf
theorem ZZv : stepA E C B 44 Z0F ZyF (φ, H) = stp (some 14) φ H (just (aBin E.T .eql 24 (fget φ 13) (.int .i64 0))) := nf
theorem ZRK : stepA E C B 44 Z0F Z4M (φ, H) = some (fput φ 15 (fget φ 14), H) := nf
theorem Z05H : stepA E C B 44 Z0F ZrL (φ, H) = gd φ 15 true (fun φ => some (fput φ 16 (.tup []), H)) (fun φ => some (fput φ 16 (fget φ 1), H)) := s_gd (j := 2) (oj := Z4M) rfl rfl rfl (fun _ => rfl) (fun _ => rfl)
theorem ZS0 : stepA E C B 44 Z0F Zvt (φ, H) = gd φ 15 true (fun φ => some (fput φ 17 (.tup []), H)) (fun φ => stp (some 17) φ H (aCall C (fun j => B + j * 44 + 17) true 81 [(fget φ 16), (.int .i64 1), (.int .i64 4)])) := s_gd (j := 2) (oj := Z4M) rfl rfl rfl (fun _ => rfl) (fun _ => rfl)
theorem Z054 : stepA E C B 44 Z0F ZuS (φ, H) = gd φ 15 true (fun φ => some (fput φ 18 (.tup []), H)) (fun φ => stp (some 18) φ H (justO (aUn .not (fget φ 17)))) := s_gd (j := 2) (oj := Z4M) rfl rfl rfl (fun _ => rfl) (fun _ => rfl)
theorem Z01f : stepA E C B 44 Z0F Zxs (φ, H) = stp (some 19) φ H (opPick (fget φ 15) (fget φ 18) (.bool false)) := nf
def Zi7 := kR ZhS
def ZBf := kT Zi7
def Zhm := kO ZBf
def ZwT := opN Zhm 0
theorem Z0iS : XG 55 44 ZBf Zhm [19] := Z1 (by rfl) (by rfl) _
theorem ZWm : Zhm.toList = [ZwT] := nf
theorem Z05u : stepA E C B 44 Zhm ZwT (φ, H) = some (fput φ 6 (.int .i64 1), H) := nf
def ZRl := kE Zi7
theorem Z0iy : execA E C (fg 55) B 44 E0 N ZRl s = some (.normal, s) := Ze (by rfl) s
theorem Z0i8 : XC 55 44 Zi7 19 ZBf ZRl := Zb (by rfl) _
theorem Z0jf : XQ 55 44 ZhS ZCh Zi7 := Z0 (by rfl) _
def ZaM := kR ZgO
def Z8P := kL ZaM
def ZkF := kL Z8P
def Z68 := kO ZkF
def ZuR := opN Z68 0
def ZAV := opN Z68 1
theorem Z08C : XG 55 44 ZkF Z68 [19, 20] := Z1 (by rfl) (by rfl) _
theorem Z044 : Z68.toList = [ZuR, ZAV] := nf
theorem ZZg : stepA E C B 44 Z68 ZuR (φ, H) = some (fput φ 20 (fget φ 6), H) := nf
theorem Z03O : stepA E C B 44 Z68 ZAV (φ, H) = stp (some 21) φ H (just (aBin E.T .neq 24 (fget φ 20) (.int .i64 0))) := nf
def Z8Z := kR Z8P
def Zbs := kT Z8Z
def Ziy := kL Zbs
def Z4c := kO Ziy
def ZtU := opN Z4c 0
def Ztx := opN Z4c 1
def ZwN := opN Z4c 2
theorem Z0eb : XG 55 44 Ziy Z4c [0, 1, 6, 21, 22] := Z1 (by rfl) (by rfl) _
theorem ZX7 : Z4c.toList = [ZtU, Ztx, ZwN] := nf
theorem Z03e : stepA E C B 44 Z4c ZtU (φ, H) = some (fput φ 22 (fget φ 6), H) := nf
theorem ZXw : stepA E C B 44 Z4c Ztx (φ, H) = some (fput φ 4 (.int .i64 0), H) := nf
theorem Z01G : stepA E C B 44 Z4c ZwN (φ, H) = some (fput φ 5 (fget φ 22), H) := nf
def ZEw := kR Zbs
theorem Z0aH : execA E C (fg 55) B 44 E0 N ZEw s = some (.ret, s) := Zj (by rfl) s
theorem Z0el : XQ 55 44 Zbs Ziy ZEw := Z0 (by rfl) _
def ZGS := kE Z8Z
theorem Z09z : execA E C (fg 55) B 44 E0 N ZGS s = some (.normal, s) := Ze (by rfl) s
theorem Z09w : XC 55 44 Z8Z 21 Zbs ZGS := Zb (by rfl) _
theorem Z0bh : XQ 55 44 Z8P ZkF Z8Z := Z0 (by rfl) _
def Zcq := kR ZaM
def Zl0 := kL Zcq
def Zi9 := kO Zl0
def ZsR := opN Zi9 0
theorem Z0ad : XG 55 44 Zl0 Zi9 [6, 21] := Z1 (by rfl) (by rfl) _
theorem Z05P : Zi9.toList = [ZsR] := nf
theorem ZUN : stepA E C B 44 Zi9 ZsR (φ, H) = some (fput φ 7 (.int .i64 0), H) := nf
def Zcb := kR Zcq
def Zbm := kL Zcb
def Znm := kL Zbm
def ZhI := kO Znm
def Zz0 := opN ZhI 0
theorem Z08K : XG 55 44 Znm ZhI [] := Z1 (by rfl) (by rfl) _
theorem ZRQ : ZhI.toList = [Zz0] := nf
theorem ZUn : stepA E C B 44 ZhI Zz0 (φ, H) = some (fput φ 8 (.int .i64 0), H) := nf
def Zkg := kR Zbm
def Zom := kB Zkg
def Z55 := kB Zom
def Z8v := kL Z55
def Zjk := kL Z8v
def Z2r := kO Zjk
def Zz6 := opN Z2r 0
def Zso := opN Z2r 1
def Zsa := opN Z2r 2
def Zzd := opN Z2r 3
theorem Z07n : XG 55 44 Zjk Z2r [23, 24, 25] := Z1 (by rfl) (by rfl) _
theorem ZTm : Z2r.toList = [Zz6, Zso, Zsa, Zzd] := nf
theorem Z00X : stepA E C B 44 Z2r Zz6 (φ, H) = some (fput φ 23 (fget φ 8), H) := nf
theorem Z03j : stepA E C B 44 Z2r Zso (φ, H) = some (fput φ 24 (fget φ 0), H) := nf
theorem ZUG : stepA E C B 44 Z2r Zsa (φ, H) = stp (some 25) φ H (Z2 E.T (B + 25) .len #[22] [(fget φ 24)]) := nf
theorem ZTO : stepA E C B 44 Z2r Zzd (φ, H) = stp (some 26) φ H (just (aBin E.T .lss 3 (fget φ 23) (fget φ 25))) := nf
def Za2 := kR Z8v
def ZH6 := kT Za2
theorem Z0dH : execA E C (fg 55) B 44 E0 N ZH6 s = some (.normal, s) := Ze (by rfl) s
def ZHz := kE Za2
theorem Z0bc : execA E C (fg 55) B 44 E0 N ZHz s = some (.exit 0, s) := ZL (by rfl) s
theorem Z0a5 : XC 55 44 Za2 26 ZH6 ZHz := Zb (by rfl) _
theorem Z0aV : XQ 55 44 Z8v Zjk Za2 := Z0 (by rfl) _
def Z9e := kR Z55
def Zp3 := kL Z9e
def Z8o := kB Zp3
def Zkn := kL Z8o
def Z97 := kO Zkn
def ZiL := opN Z97 0
theorem Z06K : XG 55 44 Zkn Z97 [26] := Z1 (by rfl) (by rfl) _
theorem ZQ0 : Z97.toList = [ZiL] := nf
theorem ZNI : stepA E C B 44 Z97 ZiL (φ, H) = some (fput φ 9 (.int .i64 1), H) := nf
def Z8N := kR Z8o
def Z8u := kL Z8N
def ZkR := kL Z8u
def Zae := kO ZkR
def Zjv := opN Zae 0
theorem Z0cA : XG 55 44 ZkR Zae [] := Z1 (by rfl) (by rfl) _
theorem ZQP : Zae.toList = [Zjv] := nf
theorem ZKQ : stepA E C B 44 Zae Zjv (φ, H) = some (fput φ 10 (.int .i64 0), H) := nf
def Zq5 := kR Z8u
def ZiY := kB Zq5
def Z5X := kB ZiY
def Zbv := kL Z5X
def ZqB := kL Zbv
def Z2X := kO ZqB
def Zn5 := opN Z2X 0
def ZlT := opN Z2X 1
def ZpW := opN Z2X 2
theorem Z075 : XG 55 44 ZqB Z2X [29, 30] := Z1 (by rfl) (by rfl) _
theorem ZM5 : Z2X.toList = [Zn5, ZlT, ZpW] := nf
theorem ZJs : stepA E C B 44 Z2X Zn5 (φ, H) = some (fput φ 29 (fget φ 10), H) := nf
theorem ZMN : stepA E C B 44 Z2X ZlT (φ, H) = some (fput φ 30 (fget φ 1), H) := nf
theorem ZNS : stepA E C B 44 Z2X ZpW (φ, H) = stp (some 31) φ H (just (aBin E.T .lss 3 (fget φ 29) (fget φ 30))) := nf
def Z9t := kR Zbv
def ZFD := kT Z9t
theorem Z0b6 : execA E C (fg 55) B 44 E0 N ZFD s = some (.normal, s) := Ze (by rfl) s
def ZGf := kE Z9t
theorem Z0bp : execA E C (fg 55) B 44 E0 N ZGf s = some (.exit 2, s) := ZL (by rfl) s
theorem Z0ev : XC 55 44 Z9t 31 ZFD ZGf := Zb (by rfl) _
theorem Z07N : XQ 55 44 Zbv ZqB Z9t := Z0 (by rfl) _
def Zc4 := kR Z5X
def ZoT := kL Zc4
def Znz := kB ZoT
def Z0i := kO Znz
def ZmX := opN Z0i 0
def ZoY := opN Z0i 1
def Zqs := opN Z0i 2
def Zki := opN Z0i 3
def Zp0 := opN Z0i 4
def ZjG := opN Z0i 5
def ZpS := opN Z0i 6
theorem Z08l : XG 55 44 Znz Z0i [31, 34, 35, 36, 37, 38, 39] := Z1 (by rfl) (by rfl) _
theorem ZMQ : Z0i.toList = [ZmX, ZoY, Zqs, Zki, Zp0, ZjG, ZpS] := nf
theorem ZKY : stepA E C B 44 Z0i ZmX (φ, H) = some (fput φ 34 (fget φ 9), H) := nf
theorem ZR9 : stepA E C B 44 Z0i ZoY (φ, H) = some (fput φ 35 (fget φ 0), H) := nf
theorem ZMP : stepA E C B 44 Z0i Zqs (φ, H) = some (fput φ 36 (fget φ 8), H) := nf
theorem ZQ8 : stepA E C B 44 Z0i Zki (φ, H) = stp (some 37) φ H (just (Z3 E.T 22 (fget φ 35) (fget φ 36))) := nf
theorem ZOM : stepA E C B 44 Z0i Zp0 (φ, H) = stp (some 38) φ H (just (aLoad E.T 3 (fget φ 37))) := nf
theorem ZQL : stepA E C B 44 Z0i ZjG (φ, H) = stp (some 39) φ H (just (aBin E.T .mul 3 (fget φ 34) (fget φ 38))) := nf
theorem ZJU : stepA E C B 44 Z0i ZpS (φ, H) = some (fput φ 9 (fget φ 39), H) := nf
theorem Z0am : execA E C (fg 55) B 44 E0 N ZoT s = blockX 3 (fun s => (forget s.1 [], s.2)) (execA E C (fg 55) B 44 E0 N Znz s) := Zf (by rfl) (by rfl) s
def Zrr := kR Zc4
def Z2U := kO Zrr
def ZkY := opN Z2U 0
def ZmR := opN Z2U 1
def Zr7 := opN Z2U 2
theorem Z0ep : XG 55 44 Zrr Z2U [32, 33] := Z1 (by rfl) (by rfl) _
theorem ZP1 : Z2U.toList = [ZkY, ZmR, Zr7] := nf
theorem ZRc : stepA E C B 44 Z2U ZkY (φ, H) = some (fput φ 32 (fget φ 10), H) := nf
theorem ZKi : stepA E C B 44 Z2U ZmR (φ, H) = stp (some 33) φ H (just (aBin E.T .add 3 (fget φ 32) (.int .i64 1))) := nf
theorem ZKf : stepA E C B 44 Z2U Zr7 (φ, H) = some (fput φ 10 (fget φ 33), H) := nf
theorem Z0aI : XQ 55 44 Zc4 ZoT Zrr := Z0 (by rfl) _
theorem Z0dg : XQ 55 44 Z5X Zbv Zc4 := Z0 (by rfl) _
theorem Z07u : execA E C (fg 55) B 44 E0 N ZiY s = iterA (execA E C (fg 55) B 44 E0 N Z5X) (headA E0) N s := ZM (by rfl) s
theorem Z0bV : execA E C (fg 55) B 44 E0 N Zq5 s = blockX 2 (fun s => (forget s.1 [10, 31], s.2)) (execA E C (fg 55) B 44 E0 N ZiY s) := Zf (by rfl) (by rfl) s
theorem Z08V : XQ 55 44 Z8u ZkR Zq5 := Z0 (by rfl) _
def Zoo := kR Z8N
def Z1E := kO Zoo
def ZiP := opN Z1E 0
def Zmr := opN Z1E 1
def ZqQ := opN Z1E 2
def Zpt := opN Z1E 3
theorem Z06t : XG 55 44 Zoo Z1E [9, 40, 41, 42] := Z1 (by rfl) (by rfl) _
theorem ZOC : Z1E.toList = [ZiP, Zmr, ZqQ, Zpt] := nf
theorem ZP5 : stepA E C B 44 Z1E ZiP (φ, H) = some (fput φ 40 (fget φ 7), H) := nf
theorem ZQY : stepA E C B 44 Z1E Zmr (φ, H) = some (fput φ 41 (fget φ 9), H) := nf
theorem ZM7 : stepA E C B 44 Z1E ZqQ (φ, H) = stp (some 42) φ H (just (aBin E.T .add 3 (fget φ 40) (fget φ 41))) := nf
theorem ZQU : stepA E C B 44 Z1E Zpt (φ, H) = some (fput φ 7 (fget φ 42), H) := nf
theorem Z0ac : XQ 55 44 Z8N Z8u Zoo := Z0 (by rfl) _
theorem Z0dY : XQ 55 44 Z8o Zkn Z8N := Z0 (by rfl) _
theorem Z0b0 : execA E C (fg 55) B 44 E0 N Zp3 s = blockX 1 (fun s => (forget s.1 [], s.2)) (execA E C (fg 55) B 44 E0 N Z8o s) := Zf (by rfl) (by rfl) s
def Zpd := kR Z9e
def Z4q := kO Zpd
def ZA7 := opN Z4q 0
def ZsD := opN Z4q 1
def Zw7 := opN Z4q 2
theorem Z068 : XG 55 44 Zpd Z4q [27, 28] := Z1 (by rfl) (by rfl) _
theorem ZSd : Z4q.toList = [ZA7, ZsD, Zw7] := nf
theorem Z04R : stepA E C B 44 Z4q ZA7 (φ, H) = some (fput φ 27 (fget φ 8), H) := nf
theorem ZTR : stepA E C B 44 Z4q ZsD (φ, H) = stp (some 28) φ H (just (aBin E.T .add 3 (fget φ 27) (.int .i64 1))) := nf
theorem ZRV : stepA E C B 44 Z4q Zw7 (φ, H) = some (fput φ 8 (fget φ 28), H) := nf
theorem Z09x : XQ 55 44 Z9e Zp3 Zpd := Z0 (by rfl) _
theorem Z0eX : XQ 55 44 Z55 Z8v Z9e := Z0 (by rfl) _
theorem Z098 : execA E C (fg 55) B 44 E0 N Zom s = iterA (execA E C (fg 55) B 44 E0 N Z55) (headA E0) N s := ZM (by rfl) s
theorem Z091 : execA E C (fg 55) B 44 E0 N Zkg s = blockX 0 (fun s => (forget s.1 [0, 1, 8, 26], s.2)) (execA E C (fg 55) B 44 E0 N Zom s) := Zf (by rfl) (by rfl) s
theorem Z0cH : XQ 55 44 Zbm Znm Zkg := Z0 (by rfl) _
def Zbn := kR Zcb
def Zk3 := kL Zbn
def Z30 := kO Zk3
def ZoA := opN Z30 0
def ZqL := opN Z30 1
def ZnP := opN Z30 2
theorem Z0bM : XG 55 44 Zk3 Z30 [7, 43] := Z1 (by rfl) (by rfl) _
theorem ZJK : Z30.toList = [ZoA, ZqL, ZnP] := nf
theorem ZPh : stepA E C B 44 Z30 ZoA (φ, H) = some (fput φ 43 (fget φ 7), H) := nf
theorem ZNi : stepA E C B 44 Z30 ZqL (φ, H) = some (fput φ 4 (fget φ 43), H) := nf
theorem ZK6 : stepA E C B 44 Z30 ZnP (φ, H) = some (fput φ 5 (.int .i64 0), H) := nf
def ZGr := kR Zbn
theorem Z0di : execA E C (fg 55) B 44 E0 N ZGr s = some (.ret, s) := Zj (by rfl) s
theorem Z096 : XQ 55 44 Zbn Zk3 ZGr := Z0 (by rfl) _
theorem Z0bj : XQ 55 44 Zcb Zbm Zbn := Z0 (by rfl) _
theorem Z0fd : XQ 55 44 Zcq Zl0 Zcb := Z0 (by rfl) _
theorem Z08R : XQ 55 44 ZaM Z8P Zcq := Z0 (by rfl) _
theorem Z0hj : XQ 55 44 ZgO ZhS ZaM := Z0 (by rfl) _
theorem Z0fR : XQ 55 44 Zi4 ZCc ZgO := Z0 (by rfl) _
theorem Z0h0 : XQ 55 44 Z8K ZBc Zi4 := Z0 (by rfl) _
theorem Z0iK : fInfo E 55 = some ⟨44, #[.tmp 4, .tmp 5], Z8K⟩ := nf
theorem b_55 (args : List AV) : bodyA E C fg N 55 args H B = bodyX E [.tmp 4, .tmp 5] (execA E C (fg 55) B 44 H N Z8K (Z4 args 0 [], H)) := Zq Z0iK args H
abbrev F_55 := And.intro (And.intro (And.intro (And.intro (And.intro (And.intro @Z0gr (And.intro @ZYA @Z05x)) (And.intro (And.intro @ZVz @Z0g6) (And.intro @ZVv @Z02E))) (And.intro (And.intro (And.intro @ZSQ @Z004) (And.intro @Z0jB @Z01q)) (And.intro (And.intro @Z03C @ZZv) (And.intro @ZRK @Z05H)))) (And.intro (And.intro (And.intro @ZS0 (And.intro @Z054 @Z01f)) (And.intro (And.intro @Z0iS @ZWm) (And.intro @Z05u @Z0iy))) (And.intro (And.intro (And.intro @Z0i8 @Z0jf) (And.intro @Z08C @Z044)) (And.intro (And.intro @ZZg @Z03O) (And.intro @Z0eb @ZX7))))) (And.intro (And.intro (And.intro (And.intro @Z03e (And.intro @ZXw @Z01G)) (And.intro (And.intro @Z0aH @Z0el) (And.intro @Z09z @Z09w))) (And.intro (And.intro (And.intro @Z0bh @Z0ad) (And.intro @Z05P @ZUN)) (And.intro (And.intro @Z08K @ZRQ) (And.intro @ZUn @Z07n)))) (And.intro (And.intro (And.intro (And.intro @ZTm @Z00X) (And.intro @Z03j @ZUG)) (And.intro (And.intro @ZTO @Z0dH) (And.intro @Z0bc @Z0a5))) (And.intro (And.intro (And.intro @Z0aV @Z06K) (And.intro @ZQ0 @ZNI)) (And.intro (And.intro @Z0cA @ZQP) (And.intro @ZKQ @Z075)))))) (And.intro (And.intro (And.intro (And.intro (And.intro @ZM5 (And.intro @ZJs @ZMN)) (And.intro (And.intro @ZNS @Z0b6) (And.intro @Z0bp @Z0ev))) (And.intro (And.intro (And.intro @Z07N @Z08l) (And.intro @ZMQ @ZKY)) (And.intro (And.intro @ZR9 @ZMP) (And.intro @ZQ8 @ZOM)))) (And.intro (And.intro (And.intro @ZQL (And.intro @ZJU @Z0am)) (And.intro (And.intro @Z0ep @ZP1) (And.intro @ZRc @ZKi))) (And.intro (And.intro (And.intro @ZKf @Z0aI) (And.intro @Z0dg @Z07u)) (And.intro (And.intro @Z0bV @Z08V) (And.intro @Z06t @ZOC))))) (And.intro (And.intro (And.intro (And.intro @ZP5 (And.intro @ZQY @ZM7)) (And.intro (And.intro @ZQU @Z0ac) (And.intro @Z0dY @Z0b0))) (And.intro (And.intro (And.intro @Z068 @ZSd) (And.intro @Z04R @ZTR)) (And.intro (And.intro @ZRV @Z09x) (And.intro @Z0eX @Z098)))) (And.intro (And.intro (And.intro (And.intro @Z091 @Z0cH) (And.intro @Z0bM @ZJK)) (And.intro (And.intro @ZPh @ZNi) (And.intro @ZK6 @Z0di))) (And.intro (And.intro (And.intro @Z096 @Z0bj) (And.intro @Z0fd @Z08R)) (And.intro (And.intro @Z0hj @Z0fR) (And.intro @Z0h0 @b_55))))))
end Go.AM.Ytfmnoohhhokicaa
end
end
