/- A part of the proof of muleNames_card: NmI. Own work of this project; texts printed by own programs among it. -/
import Derived.KernelRfl
import Derived.Test.YtgfnbmfjbjopkaaDoorNoH
set_option maxRecDepth 1000000
set_option maxHeartbeats 16000000
noncomputable section
noncomputable section
namespace Go.AM.YtgfnbmfjbjopkaaDoor
open Go Go.AM
variable {C : Callee} {B N : Nat} {E0 : AHeap} (φ : AFr) (H : AHeap) (s : St)
def ZqW := kBody Proofs.Tryd.f94
def Z07w := kL ZqW
def Z90 := kO Z07w
def Z01S := opN Z90 0
def ZVF := opN Z90 1
def Z05H := opN Z90 2
def Z05b := opN Z90 3
theorem Z0rA : XG 94 102 Z07w Z90 [0, 4, 5, 6] := Zb (by rfl) (by rfl) _
theorem Z0m3 : Z90.toList = [Z01S, ZVF, Z05H, Z05b] := nf
theorem Z0jQ : stepA E C B 102 Z90 Z01S (φ, H) = stp (some 2) φ H (opBox (B + 2) (acells (fget φ 0))) := nf
theorem Z0mk : stepA E C B 102 Z90 ZVF (φ, H) = some (fput φ 4 (.nilsl), H) := nf
theorem Z0jM : stepA E C B 102 Z90 Z05H (φ, H) = some (fput φ 5 (.nilsl), H) := nf
theorem Z0kj : stepA E C B 102 Z90 Z05b (φ, H) = some (fput φ 6 (.nilsl), H) := nf
def ZyJ := kR ZqW
def Z07Y := kL ZyJ
def Z5m := kO Z07Y
def ZVY := opN Z5m 0
def Z01K := opN Z5m 1
def ZYA := opN Z5m 2
def ZXB := opN Z5m 3
def Z01O := opN Z5m 4
theorem Z0sf : XG 94 102 Z07Y Z5m [15, 16, 17, 18] := Zb (by rfl) (by rfl) _
theorem Z0jp : Z5m.toList = [ZVY, Z01K, ZYA, ZXB, Z01O] := nf
theorem Z0m9 : stepA E C B 102 Z5m ZVY (φ, H) = stp (some 15) φ H (just (aLoad E.T 109 (fget φ 2))) := nf
theorem Z0jb : stepA E C B 102 Z5m Z01K (φ, H) = stp (some 16) φ H (aCall C (fun j => B + j * 102 + 16) true 95 [(fget φ 15)]) := nf
theorem Z0iu : stepA E C B 102 Z5m ZYA (φ, H) = stp (some 17) φ H (justO (aConv E.T 121 3 (fget φ 16))) := nf
theorem Z0ns : stepA E C B 102 Z5m ZXB (φ, H) = stp (some 18) φ H (just (aBin E.T .add 3 (fget φ 17) (.int .i64 1))) := nf
theorem Z0l2 : stepA E C B 102 Z5m Z01O (φ, H) = some (fput φ 7 (fget φ 18), H) := nf
def ZzQ := kR ZyJ
def Z06d := kL ZzQ
def Z0N := kO Z06d
def Z01u := opN Z0N 0
def Z01Z := opN Z0N 1
def Z00A := opN Z0N 2
def Z009 := opN Z0N 3
def ZYY := opN Z0N 4
def Z03N := opN Z0N 5
def Z04j := opN Z0N 6
def ZZS := opN Z0N 7
def ZYs := opN Z0N 8
theorem Z0rU : XD 94 102 Z06d Z0N [7, 19, 20, 21, 22, 23, 24] := Z0Z (by rfl) (by rfl) _
theorem Z0l9 : Z0N.toList = [Z01u, Z01Z, Z00A, Z009, ZYY, Z03N, Z04j, ZZS, ZYs] := nf
theorem Z0h6 : statOk Z0N = true := by kernel_rfl
theorem Z0eZ : drawA E C B 102 Z0N s = if neat 102 s = true then drX Z0N (runT E C B 102 Z0N Z0N.toList 0 s) else none := Z0J Z0h6 s
theorem Z0gM (l : List (Nat × Tr)) : dynOk Z0N l = (!writing l || Zs [[], [0], [], [2], [], [4], [0, 1], [0, 1, 2, 3, 6], [0, 1, 2, 3, 4, 5, 6, 7]] (Zq l)) := Z0t (by kernel_rfl) l
theorem Z0lp : stepT E C B 102 Z0N Z01u (φ, H) = some ((fput φ 19 (fget φ 7), H), ⟨false, [], []⟩) := Z9 rfl (ZS rfl rfl)
theorem Z0k5 : stepT E C B 102 Z0N Z01Z (φ, H) = stpT (some 20) φ H (aMake E.T (B + 20) 36 (fget φ 19) (fget φ 19)) := Z9 rfl (Zj rfl rfl)
theorem Z0kB : stepT E C B 102 Z0N Z00A (φ, H) = some ((fput φ 21 (fget φ 7), H), ⟨false, [], []⟩) := Z9 rfl (ZS rfl rfl)
theorem Z0mO : stepT E C B 102 Z0N Z009 (φ, H) = stpT (some 22) φ H (aMake E.T (B + 22) 36 (fget φ 21) (fget φ 21)) := Z9 rfl (Zj rfl rfl)
theorem Z0m8 : stepT E C B 102 Z0N ZYY (φ, H) = some ((fput φ 23 (fget φ 7), H), ⟨false, [], []⟩) := Z9 rfl (ZS rfl rfl)
theorem Z0jI : stepT E C B 102 Z0N Z03N (φ, H) = stpT (some 24) φ H (aMake E.T (B + 24) 36 (fget φ 23) (fget φ 23)) := Z9 rfl (Zj rfl rfl)
theorem Z0la : stepT E C B 102 Z0N Z04j (φ, H) = some ((fput φ 4 (fget φ 20), H), ⟨false, [], []⟩) := Z9 rfl (ZS rfl rfl)
theorem Z0jH : stepT E C B 102 Z0N ZZS (φ, H) = some ((fput φ 5 (fget φ 22), H), ⟨false, [], []⟩) := Z9 rfl (ZS rfl rfl)
theorem Z0lW : stepT E C B 102 Z0N ZYs (φ, H) = some ((fput φ 6 (fget φ 24), H), ⟨false, [], []⟩) := Z9 rfl (ZS rfl rfl)
def Zzc := kR ZzQ
def Z07f := kL Zzc
def Z43 := kO Z07f
def ZZz := opN Z43 0
def ZXU := opN Z43 1
def Z03P := opN Z43 2
def ZXH := opN Z43 3
def ZW6 := opN Z43 4
def ZZc := opN Z43 5
theorem Z0qN : XG 94 102 Z07f Z43 [25, 26, 27, 28] := Zb (by rfl) (by rfl) _
theorem Z0lA : Z43.toList = [ZZz, ZXU, Z03P, ZXH, ZW6, ZZc] := nf
theorem Z0jA : stepA E C B 102 Z43 ZZz (φ, H) = some (fput φ 25 (fget φ 5), H) := nf
theorem Z0kz : stepA E C B 102 Z43 ZXU (φ, H) = some (fput φ 26 (fget φ 6), H) := nf
theorem Z0k0 : stepA E C B 102 Z43 Z03P (φ, H) = stp (some 27) φ H (just (Z5 E.T 36 (fget φ 25) (.int .i64 0))) := nf
theorem Z0nH : stepA E C B 102 Z43 ZXH (φ, H) = stp none φ H (opStore E.T 3 (fget φ 27) (.int .i64 1)) := nf
theorem Z0nB : stepA E C B 102 Z43 ZW6 (φ, H) = stp (some 28) φ H (just (Z5 E.T 36 (fget φ 26) (.int .i64 0))) := nf
theorem Z0iP : stepA E C B 102 Z43 ZZc (φ, H) = stp none φ H (opStore E.T 3 (fget φ 28) (.int .i64 1)) := nf
def ZzE := kR Zzc
def Zze := kL ZzE
def ZL3 := kL Zze
def Zzu := kO ZL3
def ZWW := opN Zzu 0
theorem Z0pG : XG 94 102 ZL3 Zzu [] := Zb (by rfl) (by rfl) _
theorem Z0lj : Zzu.toList = [ZWW] := nf
theorem Z0kQ : stepA E C B 102 Zzu ZWW (φ, H) = some (fput φ 8 (.int .u64 1), H) := nf
def ZUj := kR Zze
def ZRM := kB ZUj
def Zaw := kB ZRM
def ZqG := kL Zaw
def ZQE := kL ZqG
def Z8R := kO ZQE
def ZWe := opN Z8R 0
def ZXI := opN Z8R 1
def Z03F := opN Z8R 2
def ZVq := opN Z8R 3
theorem Z0a4 : XG 94 102 ZQE Z8R [29, 30, 31] := Zb (by rfl) (by rfl) _
theorem Z04f : Z8R.toList = [ZWe, ZXI, Z03F, ZVq] := nf
theorem Z04y : stepA E C B 102 Z8R ZWe (φ, H) = some (fput φ 29 (fget φ 8), H) := nf
theorem ZVP : stepA E C B 102 Z8R ZXI (φ, H) = stp (some 30) φ H (just (aLoad E.T 109 (fget φ 2))) := nf
theorem Z04d : stepA E C B 102 Z8R Z03F (φ, H) = stp (some 31) φ H (aCall C (fun j => B + j * 102 + 31) true 95 [(fget φ 30)]) := nf
theorem Z05O : stepA E C B 102 Z8R ZVq (φ, H) = stp (some 32) φ H (just (aBin E.T .leq 121 (fget φ 29) (fget φ 31))) := nf
def Zqf := kR ZqG
def Z09q := kT Zqf
theorem Z0cu : execA E C (fg 94) B 102 E0 N Z09q s = some (.normal, s) := ZV (by rfl) s
def Z0aS := kE Zqf
theorem Z0cw : execA E C (fg 94) B 102 E0 N Z0aS s = some (.exit 0, s) := Z0I (by rfl) s
theorem Z0bE : XC 94 102 Zqf 32 Z09q Z0aS := ZN (by rfl) _
theorem Z08s : XQ 94 102 ZqG ZQE Zqf := Z4 (by rfl) _
def ZsS := kR Zaw
def ZDG := kL ZsS
def Zry := kB ZDG
def ZSK := kL Zry
def ZzH := kO ZSK
def ZZd := opN ZzH 0
theorem Z0pi : XG 94 102 ZSK ZzH [32] := Zb (by rfl) (by rfl) _
theorem Z0id : ZzH.toList = [ZZd] := nf
theorem Z0ia : stepA E C B 102 ZzH ZZd (φ, H) = some (fput φ 9 (.bool true), H) := nf
def Zqd := kR Zry
def ZUJ := kL Zqd
def Z5n := kO ZUJ
def Z02k := opN Z5n 0
def ZZg := opN Z5n 1
def ZYJ := opN Z5n 2
def ZVm := opN Z5n 3
def ZZE := opN Z5n 4
theorem Z0qh : XG 94 102 ZUJ Z5n [35, 36] := Zb (by rfl) (by rfl) _
theorem Z0ik : Z5n.toList = [Z02k, ZZg, ZYJ, ZVm, ZZE] := nf
theorem Z0kw : stepA E C B 102 Z5n Z02k (φ, H) = stp (some 35) φ H (just (aLoad E.T 109 (fget φ 2))) := nf
theorem Z0iX : stepA E C B 102 Z5n ZZg (φ, H) = some (fput φ 36 (fget φ 8), H) := nf
theorem Z0ny : stepA E C B 102 Z5n ZYJ (φ, H) = stp (some 37) φ H (aCall C (fun j => B + j * 102 + 37) true 128 [(fget φ 35), (fget φ 36)]) := nf
theorem Z0n1 : stepA E C B 102 Z5n ZVm (φ, H) = stp (some 38) φ H (Zh E.T (B + 38) .len #[36] [(fget φ 37)]) := nf
theorem Z0mN : stepA E C B 102 Z5n ZZE (φ, H) = some (fput φ 39 (.int .i64 0), H) := nf
def ZPC := kR Zqd
def ZAx := kB ZPC
def Za2 := kB ZAx
def ZSh := kL Za2
def Zzr := kO ZSh
def Z015 := opN Zzr 0
theorem Zab : XG 94 102 ZSh Zzr [] := Zb (by rfl) (by rfl) _
theorem Z7K : Zzr.toList = [Z015] := nf
theorem Z8a : stepA E C B 102 Zzr Z015 (φ, H) = stp (some 40) φ H (just (aBin E.T .lss 3 (fget φ 39) (fget φ 38))) := nf
def Zpc := kR Za2
def ZnZ := kL Zpc
def Z08H := kT ZnZ
theorem Zaa : execA E C (fg 94) B 102 E0 N Z08H s = some (.normal, s) := ZV (by rfl) s
def Z0bS := kE ZnZ
theorem ZaQ : execA E C (fg 94) B 102 E0 N Z0bS s = some (.exit 2, s) := Z0I (by rfl) s
theorem ZaD : XC 94 102 ZnZ 40 Z08H Z0bS := ZN (by rfl) _
def Zog := kR Zpc
def ZPG := kL Zog
def Zsr := kB ZPG
def ZMc := kL Zsr
def Z9m := kO ZMc
def ZN2 := opN Z9m 0
def ZKb := opN Z9m 1
def ZH9 := opN Z9m 2
theorem Zc7 : XG 94 102 ZMc Z9m [40, 41, 42] := Zb (by rfl) (by rfl) _
theorem Z6W : Z9m.toList = [ZN2, ZKb, ZH9] := nf
theorem Z7s : stepA E C B 102 Z9m ZN2 (φ, H) = stp (some 41) φ H (just (Z5 E.T 36 (fget φ 37) (fget φ 39))) := nf
theorem Z7t : stepA E C B 102 Z9m ZKb (φ, H) = stp (some 42) φ H (just (aLoad E.T 3 (fget φ 41))) := nf
theorem Z8E : stepA E C B 102 Z9m ZH9 (φ, H) = some (fput φ 11 (fget φ 42), H) := nf
def Zpk := kR Zsr
def ZDk := kL Zpk
def Z3x := kO ZDk
def ZHd := opN Z3x 0
def ZJi := opN Z3x 1
def ZOX := opN Z3x 2
def ZFp := opN Z3x 3
def ZBZ := opN Z3x 4
theorem Zde : XG 94 102 ZDk Z3x [43, 44, 45, 46] := Zb (by rfl) (by rfl) _
theorem Z6E : Z3x.toList = [ZHd, ZJi, ZOX, ZFp, ZBZ] := nf
theorem Z6L : stepA E C B 102 Z3x ZHd (φ, H) = some (fput φ 43 (fget φ 8), H) := nf
theorem Z7w : stepA E C B 102 Z3x ZJi (φ, H) = some (fput φ 44 (fget φ 11), H) := nf
theorem Z8q : stepA E C B 102 Z3x ZOX (φ, H) = stp (some 45) φ H (just (aBin E.T .shl 121 (.int .u64 1) (fget φ 44))) := nf
theorem Z7R : stepA E C B 102 Z3x ZFp (φ, H) = stp (some 46) φ H (just (aBin E.T .andNot 121 (fget φ 43) (fget φ 45))) := nf
theorem Z6N : stepA E C B 102 Z3x ZBZ (φ, H) = some (fput φ 12 (fget φ 46), H) := nf
def ZrQ := kR Zpk
def ZFO := kL ZrQ
def Z0p := kO ZFO
def ZTo := opN Z0p 0
def ZNH := opN Z0p 1
def ZN5 := opN Z0p 2
def ZBa := opN Z0p 3
def ZHm := opN Z0p 4
def ZBU := opN Z0p 5
def ZRs := opN Z0p 6
def ZUW := opN Z0p 7
def ZIU := opN Z0p 8
def ZFI := opN Z0p 9
theorem ZcH : XD 94 102 ZFO Z0p [11, 47, 48, 49, 50, 51, 52, 53, 54, 55] := Z0Z (by rfl) (by rfl) _
theorem Z89 : Z0p.toList = [ZTo, ZNH, ZN5, ZBa, ZHm, ZBU, ZRs, ZUW, ZIU, ZFI] := nf
theorem Z0b5 : statOk Z0p = true := by kernel_rfl
theorem Z5E : drawA E C B 102 Z0p s = if neat 102 s = true then drX Z0p (runT E C B 102 Z0p Z0p.toList 0 s) else none := Z0J Z0b5 s
theorem Z5x (l : List (Nat × Tr)) : dynOk Z0p l = (!writing l || Zs [[], [0], [], [0, 1, 2], [0, 1, 2, 3], [], [], [5, 6], [0, 1, 2, 3, 4, 5, 6, 7], [0, 1, 2, 3, 4, 5, 6, 7, 8]] (Zq l)) := Z0t (by kernel_rfl) l
theorem Z85 : stepT E C B 102 Z0p ZTo (φ, H) = stpT (some 47) φ H (just (Ze E.T 109 (fget φ 2) 0)) := Z9 rfl (Zj rfl rfl)
theorem Z7S : stepT E C B 102 Z0p ZNH (φ, H) = stpT (some 48) φ H (just (aLoad E.T 106 (fget φ 47))) := Z9 rfl (Zj rfl rfl)
theorem Z7I : stepT E C B 102 Z0p ZN5 (φ, H) = some ((fput φ 49 (fget φ 11), H), ⟨false, [], []⟩) := Z9 rfl (ZS rfl rfl)
theorem Z6B : stepT E C B 102 Z0p ZBa (φ, H) = stpT (some 50) φ H (just (Z5 E.T 106 (fget φ 48) (fget φ 49))) := Z9 rfl (Zj rfl rfl)
theorem Z7q : stepT E C B 102 Z0p ZHm (φ, H) = stpT (some 51) φ H (just (aLoad E.T 126 (fget φ 50))) := Z9 rfl (Zj rfl rfl)
theorem Z81 : stepT E C B 102 Z0p ZBU (φ, H) = stpT (some 52) φ H (just (aLoad E.T 109 (fget φ 2))) := Z9 rfl (Zj rfl rfl)
theorem Z86 : stepT E C B 102 Z0p ZRs (φ, H) = some ((fput φ 53 (fget φ 8), H), ⟨false, [], []⟩) := Z9 rfl (ZS rfl rfl)
theorem Z6g : stepT E C B 102 Z0p ZUW (φ, H) = stpT (some 54) φ H (aCall C (fun j => B + j * 102 + 54) true 100 [(fget φ 52), (fget φ 53)]) := Z9 rfl (Zj rfl rfl)
theorem Z8m : stepT E C B 102 Z0p ZIU (φ, H) = stpT (some 55) φ H (aCall C (fun j => B + j * 102 + 55) true 99 [(fget φ 51), (fget φ 54)]) := Z9 rfl (Zj rfl rfl)
theorem Z8w : stepT E C B 102 Z0p ZFI (φ, H) = some ((fput φ 13 (fget φ 55), H), ⟨false, [], []⟩) := Z9 rfl (ZS rfl rfl)
def ZrM := kR ZrQ
def ZEg := kL ZrM
def Z21 := kO ZEg
def ZDs := opN Z21 0
def ZJb := opN Z21 1
def ZFb := opN Z21 2
def ZNa := opN Z21 3
def ZIR := opN Z21 4
def ZU3 := opN Z21 5
def ZEZ := opN Z21 6
theorem Zci : XG 94 102 ZEg Z21 [56, 57, 58, 59, 60, 61] := Zb (by rfl) (by rfl) _
theorem Z6Y : Z21.toList = [ZDs, ZJb, ZFb, ZNa, ZIR, ZU3, ZEZ] := nf
theorem Z8f : stepA E C B 102 Z21 ZDs (φ, H) = some (fput φ 56 (fget φ 4), H) := nf
theorem Z8C : stepA E C B 102 Z21 ZJb (φ, H) = some (fput φ 57 (fget φ 12), H) := nf
theorem Z8j : stepA E C B 102 Z21 ZFb (φ, H) = stp (some 58) φ H (just (Z5 E.T 36 (fget φ 56) (fget φ 57))) := nf
theorem Z6q : stepA E C B 102 Z21 ZNa (φ, H) = stp (some 59) φ H (just (aLoad E.T 3 (fget φ 58))) := nf
theorem Z7C : stepA E C B 102 Z21 ZIR (φ, H) = some (fput φ 60 (fget φ 13), H) := nf
theorem Z6o : stepA E C B 102 Z21 ZU3 (φ, H) = stp (some 61) φ H (Zh E.T (B + 61) .max #[3, 3] [(fget φ 59), (fget φ 60)]) := nf
theorem Z8J : stepA E C B 102 Z21 ZEZ (φ, H) = some (fput φ 14 (fget φ 61), H) := nf
def ZrA := kR ZrM
def ZqA := kL ZrA
def ZIZ := kL ZqA
def Z0T := kO ZIZ
def ZLO := opN Z0T 0
def Z4x := opN Z0T 1
def ZI9 := opN Z0T 2
def ZLJ := opN Z0T 3
def ZNA := opN Z0T 4
def ZQd := opN Z0T 5
def ZNW := opN Z0T 6
def ZLc := opN Z0T 7
def ZFs := opN Z0T 8
theorem Zdk : XG 94 102 ZIZ Z0T [62, 63, 64, 65, 66, 67, 68, 69] := Zb (by rfl) (by rfl) _
theorem Z6R : Z0T.toList = [ZLO, Z4x, ZI9, ZLJ, ZNA, ZQd, ZNW, ZLc, ZFs] := nf
theorem Z6X : stepA E C B 102 Z0T ZLO (φ, H) = some (fput φ 62 (fget φ 9), H) := nf
theorem Z7X : stepA E C B 102 Z0T Z4x (φ, H) = some (fput φ 63 (fget φ 62), H) := nf
theorem Z8v : stepA E C B 102 Z0T ZI9 (φ, H) = gd φ 63 false (fun φ => some (fput φ 64 (.tup []), H)) (fun φ => some (fput φ 64 (fget φ 14), H)) := s_gd (j := 1) (oj := Z4x) rfl rfl rfl (fun _ => rfl) (fun _ => rfl)
theorem Z8H : stepA E C B 102 Z0T ZLJ (φ, H) = gd φ 63 false (fun φ => some (fput φ 65 (.tup []), H)) (fun φ => some (fput φ 65 (fget φ 4), H)) := s_gd (j := 1) (oj := Z4x) rfl rfl rfl (fun _ => rfl) (fun _ => rfl)
theorem Z7L : stepA E C B 102 Z0T ZNA (φ, H) = gd φ 63 false (fun φ => some (fput φ 66 (.tup []), H)) (fun φ => some (fput φ 66 (fget φ 8), H)) := s_gd (j := 1) (oj := Z4x) rfl rfl rfl (fun _ => rfl) (fun _ => rfl)
theorem Z6Z : stepA E C B 102 Z0T ZQd (φ, H) = gd φ 63 false (fun φ => some (fput φ 67 (.tup []), H)) (fun φ => stp (some 67) φ H (just (Z5 E.T 36 (fget φ 65) (fget φ 66)))) := s_gd (j := 1) (oj := Z4x) rfl rfl rfl (fun _ => rfl) (fun _ => rfl)
theorem Z8l : stepA E C B 102 Z0T ZNW (φ, H) = gd φ 63 false (fun φ => some (fput φ 68 (.tup []), H)) (fun φ => stp (some 68) φ H (just (aLoad E.T 3 (fget φ 67)))) := s_gd (j := 1) (oj := Z4x) rfl rfl rfl (fun _ => rfl) (fun _ => rfl)
theorem Z6w : stepA E C B 102 Z0T ZLc (φ, H) = gd φ 63 false (fun φ => some (fput φ 69 (.tup []), H)) (fun φ => stp (some 69) φ H (just (aBin E.T .lss 3 (fget φ 64) (fget φ 68)))) := s_gd (j := 1) (oj := Z4x) rfl rfl rfl (fun _ => rfl) (fun _ => rfl)
theorem Z7g : stepA E C B 102 Z0T ZFs (φ, H) = stp (some 70) φ H (opPick (fget φ 63) (.bool true) (fget φ 69)) := nf
def ZrG := kR ZqA
def ZJW := kT ZrG
def Z2A := kO ZJW
def ZNE := opN Z2A 0
def ZAf := opN Z2A 1
def ZC6 := opN Z2A 2
def ZUP := opN Z2A 3
def ZJf := opN Z2A 4
def ZDL := opN Z2A 5
theorem Zcj : XG 94 102 ZJW Z2A [14, 70, 71, 72, 73, 74] := Zb (by rfl) (by rfl) _
theorem Z83 : Z2A.toList = [ZNE, ZAf, ZC6, ZUP, ZJf, ZDL] := nf
theorem Z8I : stepA E C B 102 Z2A ZNE (φ, H) = some (fput φ 71 (fget φ 4), H) := nf
theorem Z6i : stepA E C B 102 Z2A ZAf (φ, H) = some (fput φ 72 (fget φ 8), H) := nf
theorem Z6F : stepA E C B 102 Z2A ZC6 (φ, H) = some (fput φ 73 (fget φ 14), H) := nf
theorem Z6Q : stepA E C B 102 Z2A ZUP (φ, H) = stp (some 74) φ H (just (Z5 E.T 36 (fget φ 71) (fget φ 72))) := nf
theorem Z8z : stepA E C B 102 Z2A ZJf (φ, H) = stp none φ H (opStore E.T 3 (fget φ 74) (fget φ 73)) := nf
theorem Z8G : stepA E C B 102 Z2A ZDL (φ, H) = some (fput φ 9 (.bool false), H) := nf
def Z0aE := kE ZrG
theorem Zdv : execA E C (fg 94) B 102 E0 N Z0aE s = some (.normal, s) := ZV (by rfl) s
theorem Zdz : XC 94 102 ZrG 70 ZJW Z0aE := ZN (by rfl) _
theorem ZcD : XQ 94 102 ZqA ZIZ ZrG := Z4 (by rfl) _
def Zqi := kR ZrA
def ZNh := kL Zqi
def Z0k := kO ZNh
def ZE3 := opN Z0k 0
def ZUZ := opN Z0k 1
def ZCo := opN Z0k 2
def ZE8 := opN Z0k 3
def ZUF := opN Z0k 4
def ZQS := opN Z0k 5
def ZLU := opN Z0k 6
def ZOz := opN Z0k 7
def ZIo := opN Z0k 8
def ZEk := opN Z0k 9
def ZwB := opN Z0k 10
theorem ZcX : XD 94 102 ZNh Z0k [14, 70, 75, 76, 77, 78, 79, 80, 81, 82, 83, 84] := Z0Z (by rfl) (by rfl) _
theorem Z6y : Z0k.toList = [ZE3, ZUZ, ZCo, ZE8, ZUF, ZQS, ZLU, ZOz, ZIo, ZEk, ZwB] := nf
theorem Z0cA : statOk Z0k = true := by kernel_rfl
theorem Z5H : drawA E C B 102 Z0k s = if neat 102 s = true then drX Z0k (runT E C B 102 Z0k Z0k.toList 0 s) else none := Z0J Z0cA s
theorem Z5F (l : List (Nat × Tr)) : dynOk Z0k l = (!writing l || Zs [[], [], [0, 1], [0, 1, 2], [], [], [4, 5], [4, 5, 6], [0, 1, 2, 3, 4, 5, 6, 7], [0, 1, 2, 3, 4, 5, 6, 7, 8], [0, 1, 2, 3, 4, 5, 6, 7, 8, 9]] (Zq l)) := Z0t (by kernel_rfl) l
theorem Z6s : stepT E C B 102 Z0k ZE3 (φ, H) = some ((fput φ 75 (fget φ 5), H), ⟨false, [], []⟩) := Z9 rfl (ZS rfl rfl)
theorem Z7r : stepT E C B 102 Z0k ZUZ (φ, H) = some ((fput φ 76 (fget φ 8), H), ⟨false, [], []⟩) := Z9 rfl (ZS rfl rfl)
theorem Z7N : stepT E C B 102 Z0k ZCo (φ, H) = stpT (some 77) φ H (just (Z5 E.T 36 (fget φ 75) (fget φ 76))) := Z9 rfl (Zj rfl rfl)
theorem Z7y : stepT E C B 102 Z0k ZE8 (φ, H) = stpT (some 78) φ H (just (aLoad E.T 3 (fget φ 77))) := Z9 rfl (Zj rfl rfl)
theorem Z7l : stepT E C B 102 Z0k ZUF (φ, H) = some ((fput φ 79 (fget φ 5), H), ⟨false, [], []⟩) := Z9 rfl (ZS rfl rfl)
theorem Z7u : stepT E C B 102 Z0k ZQS (φ, H) = some ((fput φ 80 (fget φ 12), H), ⟨false, [], []⟩) := Z9 rfl (ZS rfl rfl)
theorem Z6J : stepT E C B 102 Z0k ZLU (φ, H) = stpT (some 81) φ H (just (Z5 E.T 36 (fget φ 79) (fget φ 80))) := Z9 rfl (Zj rfl rfl)
theorem Z6I : stepT E C B 102 Z0k ZOz (φ, H) = stpT (some 82) φ H (just (aLoad E.T 3 (fget φ 81))) := Z9 rfl (Zj rfl rfl)
theorem Z78 : stepT E C B 102 Z0k ZIo (φ, H) = stpT (some 83) φ H (just (aBin E.T .add 3 (fget φ 78) (fget φ 82))) := Z9 rfl (Zj rfl rfl)
theorem Z8F : stepT E C B 102 Z0k ZEk (φ, H) = stpT (some 84) φ H (just (Z5 E.T 36 (fget φ 75) (fget φ 76))) := Z9 rfl (Zj rfl rfl)
theorem Z5B : stepT E C B 102 Z0k ZwB (φ, H) = stpT none φ H (opStore E.T 3 (fget φ 84) (fget φ 83)) := Z9 rfl (Zj rfl rfl)
def Zq8 := kR Zqi
def ZGV := kL Zq8
def Z95 := kO ZGV
def ZKe := opN Z95 0
def ZQz := opN Z95 1
def ZBQ := opN Z95 2
theorem Zcc : XG 94 102 ZGV Z95 [13, 85, 86] := Zb (by rfl) (by rfl) _
theorem Z8c : Z95.toList = [ZKe, ZQz, ZBQ] := nf
theorem Z8u : stepA E C B 102 Z95 ZKe (φ, H) = some (fput φ 85 (fget φ 13), H) := nf
theorem Z7k : stepA E C B 102 Z95 ZQz (φ, H) = some (fput φ 86 (fget φ 1), H) := nf
theorem Z77 : stepA E C B 102 Z95 ZBQ (φ, H) = stp (some 87) φ H (just (aBin E.T .leq 3 (fget φ 85) (fget φ 86))) := nf
def ZrU := kR Zq8
def ZC1 := kT ZrU
def Z0j := kO ZC1
def ZFE := opN Z0j 0
def ZEt := opN Z0j 1
def ZPY := opN Z0j 2
def ZQn := opN Z0j 3
def ZOt := opN Z0j 4
def ZN3 := opN Z0j 5
def ZKm := opN Z0j 6
def ZSV := opN Z0j 7
def ZBv := opN Z0j 8
def ZAN := opN Z0j 9
def ZxQ := opN Z0j 10
theorem Zcn : XD 94 102 ZC1 Z0j [12, 87, 88, 89, 90, 91, 92, 93, 94, 95, 96, 97] := Z0Z (by rfl) (by rfl) _
theorem Z6h : Z0j.toList = [ZFE, ZEt, ZPY, ZQn, ZOt, ZN3, ZKm, ZSV, ZBv, ZAN, ZxQ] := nf
theorem Z0aq : statOk Z0j = true := by kernel_rfl
theorem Z5Q : drawA E C B 102 Z0j s = if neat 102 s = true then drX Z0j (runT E C B 102 Z0j Z0j.toList 0 s) else none := Z0J Z0aq s
theorem Z5R (l : List (Nat × Tr)) : dynOk Z0j l = (!writing l || Zs [[], [], [0, 1], [0, 1, 2], [], [], [4, 5], [4, 5, 6], [0, 1, 2, 3, 4, 5, 6, 7], [0, 1, 2, 3, 4, 5, 6, 7, 8], [0, 1, 2, 3, 4, 5, 6, 7, 8, 9]] (Zq l)) := Z0t (by kernel_rfl) l
theorem Z72 : stepT E C B 102 Z0j ZFE (φ, H) = some ((fput φ 88 (fget φ 6), H), ⟨false, [], []⟩) := Z9 rfl (ZS rfl rfl)
theorem Z6m : stepT E C B 102 Z0j ZEt (φ, H) = some ((fput φ 89 (fget φ 8), H), ⟨false, [], []⟩) := Z9 rfl (ZS rfl rfl)
theorem Z8i : stepT E C B 102 Z0j ZPY (φ, H) = stpT (some 90) φ H (just (Z5 E.T 36 (fget φ 88) (fget φ 89))) := Z9 rfl (Zj rfl rfl)
theorem Z7O : stepT E C B 102 Z0j ZQn (φ, H) = stpT (some 91) φ H (just (aLoad E.T 3 (fget φ 90))) := Z9 rfl (Zj rfl rfl)
theorem Z8g : stepT E C B 102 Z0j ZOt (φ, H) = some ((fput φ 92 (fget φ 6), H), ⟨false, [], []⟩) := Z9 rfl (ZS rfl rfl)
theorem Z7U : stepT E C B 102 Z0j ZN3 (φ, H) = some ((fput φ 93 (fget φ 12), H), ⟨false, [], []⟩) := Z9 rfl (ZS rfl rfl)
theorem Z7j : stepT E C B 102 Z0j ZKm (φ, H) = stpT (some 94) φ H (just (Z5 E.T 36 (fget φ 92) (fget φ 93))) := Z9 rfl (Zj rfl rfl)
theorem Z6x : stepT E C B 102 Z0j ZSV (φ, H) = stpT (some 95) φ H (just (aLoad E.T 3 (fget φ 94))) := Z9 rfl (Zj rfl rfl)
theorem Z88 : stepT E C B 102 Z0j ZBv (φ, H) = stpT (some 96) φ H (just (aBin E.T .add 3 (fget φ 91) (fget φ 95))) := Z9 rfl (Zj rfl rfl)
theorem Z80 : stepT E C B 102 Z0j ZAN (φ, H) = stpT (some 97) φ H (just (Z5 E.T 36 (fget φ 88) (fget φ 89))) := Z9 rfl (Zj rfl rfl)
theorem Z5J : stepT E C B 102 Z0j ZxQ (φ, H) = stpT none φ H (opStore E.T 3 (fget φ 97) (fget φ 96)) := Z9 rfl (Zj rfl rfl)
def Z09n := kE ZrU
theorem Zdd : execA E C (fg 94) B 102 E0 N Z09n s = some (.normal, s) := ZV (by rfl) s
theorem ZdH : XC 94 102 ZrU 87 ZC1 Z09n := ZN (by rfl) _
theorem Zcq : XQ 94 102 Zq8 ZGV ZrU := Z4 (by rfl) _
theorem Zda : XQ 94 102 Zqi ZNh Zq8 := Z4 (by rfl) _
theorem Zdt : XQ 94 102 ZrA ZqA Zqi := Z4 (by rfl) _
theorem Zdp : XQ 94 102 ZrM ZEg ZrA := Z4 (by rfl) _
theorem Zdg : XQ 94 102 ZrQ ZFO ZrM := Z4 (by rfl) _
theorem Zdb : XQ 94 102 Zpk ZDk ZrQ := Z4 (by rfl) _
theorem Zcv : XQ 94 102 Zsr ZMc Zpk := Z4 (by rfl) _
theorem Zdm : execA E C (fg 94) B 102 E0 N ZPG s = blockX 3 (fun s => (forget s.1 [12, 87], s.2)) (execA E C (fg 94) B 102 E0 N Zsr s) := ZK (by rfl) (by rfl) s
def ZIW := kR Zog
def Zdc := kO ZIW
def ZUf := opN Zdc 0
def ZQm := opN Zdc 1
theorem ZcF : XG 94 102 ZIW Zdc [98] := Zb (by rfl) (by rfl) _
theorem Z7G : Zdc.toList = [ZUf, ZQm] := nf
theorem Z6U : stepA E C B 102 Zdc ZUf (φ, H) = stp (some 98) φ H (just (aBin E.T .add 3 (fget φ 39) (.int .i64 1))) := nf
theorem Z7p : stepA E C B 102 Zdc ZQm (φ, H) = some (fput φ 39 (fget φ 98), H) := nf
theorem Zd6 : XQ 94 102 Zog ZPG ZIW := Z4 (by rfl) _
theorem ZaG : XQ 94 102 Zpc ZnZ Zog := Z4 (by rfl) _
theorem ZaP : XQ 94 102 Za2 ZSh Zpc := Z4 (by rfl) _
theorem Z0oh : execA E C (fg 94) B 102 E0 N ZAx s = iterA (execA E C (fg 94) B 102 E0 N Za2) (headA E0) N s := Z0H (by rfl) s
theorem Z0ql : execA E C (fg 94) B 102 E0 N ZPC s = blockX 2 (fun s => (forget s.1 [9, 37, 38, 39, 40], s.2)) (execA E C (fg 94) B 102 E0 N ZAx s) := ZK (by rfl) (by rfl) s
theorem Z0pp : XQ 94 102 Zqd ZUJ ZPC := Z4 (by rfl) _
theorem Z0pT : XQ 94 102 Zry ZSK Zqd := Z4 (by rfl) _
theorem Z0on : execA E C (fg 94) B 102 E0 N ZDG s = blockX 1 (fun s => (forget s.1 [], s.2)) (execA E C (fg 94) B 102 E0 N Zry s) := ZK (by rfl) (by rfl) s
def ZKg := kR ZsS
def ZbM := kO ZKg
def Z04C := opN ZbM 0
def ZXW := opN ZbM 1
def Z00h := opN ZbM 2
theorem Z0pZ : XG 94 102 ZKg ZbM [33, 34] := Zb (by rfl) (by rfl) _
theorem Z0lu : ZbM.toList = [Z04C, ZXW, Z00h] := nf
theorem Z0mr : stepA E C B 102 ZbM Z04C (φ, H) = some (fput φ 33 (fget φ 8), H) := nf
theorem Z0mv : stepA E C B 102 ZbM ZXW (φ, H) = stp (some 34) φ H (just (aBin E.T .add 121 (fget φ 33) (.int .u64 1))) := nf
theorem Z0lE : stepA E C B 102 ZbM Z00h (φ, H) = some (fput φ 8 (fget φ 34), H) := nf
theorem Z0qg : XQ 94 102 ZsS ZDG ZKg := Z4 (by rfl) _
theorem Z0bN : XQ 94 102 Zaw ZqG ZsS := Z4 (by rfl) _
theorem Z0oQ : execA E C (fg 94) B 102 E0 N ZRM s = iterA (execA E C (fg 94) B 102 E0 N Zaw) (headA E0) N s := Z0H (by rfl) s
theorem Z0pm : execA E C (fg 94) B 102 E0 N ZUj s = blockX 0 (fun s => (forget s.1 [1, 2, 8, 32], s.2)) (execA E C (fg 94) B 102 E0 N ZRM s) := ZK (by rfl) (by rfl) s
theorem Z0rd : XQ 94 102 Zze ZL3 ZUj := Z4 (by rfl) _
def Zsz := kR ZzE
def ZRx := kL Zsz
def Z2z := kO ZRx
def ZBX := opN Z2z 0
def ZCf := opN Z2z 1
def ZSo := opN Z2z 2
def ZLA := opN Z2z 3
def ZI7 := opN Z2z 4
def ZF0 := opN Z2z 5
theorem Z0oM : XG 94 102 ZRx Z2z [99, 100, 101] := Zb (by rfl) (by rfl) _
theorem Z0dn : Z2z.toList = [ZBX, ZCf, ZSo, ZLA, ZI7, ZF0] := nf
theorem Z0fu : stepA E C B 102 Z2z ZBX (φ, H) = some (fput φ 99 (fget φ 4), H) := nf
theorem Z0fY : stepA E C B 102 Z2z ZCf (φ, H) = some (fput φ 100 (fget φ 5), H) := nf
theorem Z0e4 : stepA E C B 102 Z2z ZSo (φ, H) = some (fput φ 101 (fget φ 6), H) := nf
theorem Z0h0 : stepA E C B 102 Z2z ZLA (φ, H) = some (fput φ 4 (fget φ 99), H) := nf
theorem Z0gw : stepA E C B 102 Z2z ZI7 (φ, H) = some (fput φ 5 (fget φ 100), H) := nf
theorem Z0dd : stepA E C B 102 Z2z ZF0 (φ, H) = some (fput φ 6 (fget φ 101), H) := nf
def Z09f := kR Zsz
theorem Z0oj : execA E C (fg 94) B 102 E0 N Z09f s = some (.ret, s) := Z06 (by rfl) s
theorem Z0oa : XQ 94 102 Zsz ZRx Z09f := Z4 (by rfl) _
theorem Z0r1 : XQ 94 102 ZzE Zze Zsz := Z4 (by rfl) _
theorem Z0sI : XQ 94 102 Zzc Z07f ZzE := Z4 (by rfl) _
theorem Z0sn : XQ 94 102 ZzQ Z06d Zzc := Z4 (by rfl) _
theorem Z0qZ : XQ 94 102 ZyJ Z07Y ZzQ := Z4 (by rfl) _
theorem Z0t4 : XQ 94 102 ZqW Z07w ZyJ := Z4 (by rfl) _
theorem Z0rl : fInfo E 94 = some ⟨102, #[.tmp 4, .tmp 5, .tmp 6], ZqW⟩ := nf
theorem b_94 (args : List AV) : bodyA E C fg N 94 args H B = bodyX E [.tmp 4, .tmp 5, .tmp 6] (execA E C (fg 94) B 102 H N ZqW (Zw args 0 [], H)) := Z0a Z0rl args H
def ZqS := kBody Proofs.Tryd.f61
def Z07q := kL ZqS
def ZbB := kO Z07q
def ZZn := opN ZbB 0
def ZYv := opN ZbB 1
def ZYN := opN ZbB 2
theorem Z0sc : XG 61 28 Z07q ZbB [0, 2, 3] := Zb (by rfl) (by rfl) _
theorem Z0jD : ZbB.toList = [ZZn, ZYv, ZYN] := nf
theorem Z0jq : stepA E C B 28 ZbB ZZn (φ, H) = stp (some 1) φ H (opBox (B + 1) (acells (fget φ 0))) := nf
theorem Z0k6 : stepA E C B 28 ZbB ZYv (φ, H) = some (fput φ 2 (.int .i64 0), H) := nf
theorem Z0hR : stepA E C B 28 ZbB ZYN (φ, H) = some (fput φ 3 (.int .i64 0), H) := nf
def Zzj := kR ZqS
def Z077 := kL Zzj
def Z2p := kO Z077
def Z02b := opN Z2p 0
def Z04t := opN Z2p 1
def ZVu := opN Z2p 2
def Z05J := opN Z2p 3
def Z027 := opN Z2p 4
def Z00c := opN Z2p 5
def Z01A := opN Z2p 6
def ZVx := opN Z2p 7
theorem Z0ru : XG 61 28 Z077 Z2p [1, 9, 10, 11, 12, 13] := Zb (by rfl) (by rfl) _
theorem Z0lN : Z2p.toList = [Z02b, Z04t, ZVu, Z05J, Z027, Z00c, Z01A, ZVx] := nf
theorem Z0j7 : stepA E C B 28 Z2p Z02b (φ, H) = stp (some 10) φ H (just (aLoad E.T 25 (fget φ 1))) := nf
theorem Z0j2 : stepA E C B 28 Z2p Z04t (φ, H) = stp (some 11) φ H (aCall C (fun j => B + j * 28 + 11) true 88 [(fget φ 10)]) := nf
theorem Z0m5 : stepA E C B 28 Z2p ZVu (φ, H) = some (fput φ 9 (fget φ 11), H) := nf
theorem Z0mq : stepA E C B 28 Z2p Z05J (φ, H) = stp (some 12) φ H (Zy (fget φ 9) 0) := nf
theorem Z0m2 : stepA E C B 28 Z2p Z027 (φ, H) = stp (some 13) φ H (Zy (fget φ 9) 1) := nf
theorem Z0k1 : stepA E C B 28 Z2p Z00c (φ, H) = stp (some 4) φ H (opBox (B + 4) (zeroCells E.T 109)) := nf
theorem Z0mV : stepA E C B 28 Z2p Z01A (φ, H) = stp none φ H (opStore E.T 109 (fget φ 4) (fget φ 12)) := nf
theorem Z0m6 : stepA E C B 28 Z2p ZVx (φ, H) = some (fput φ 5 (fget φ 13), H) := nf
def Zzo := kR Zzj
def ZyV := kL Zzo
def Z07r := kL ZyV
def Zh9 := kO Z07r
def Z03X := opN Zh9 0
def Z028 := opN Zh9 1
theorem Z0r0 : XG 61 28 Z07r Zh9 [14] := Zb (by rfl) (by rfl) _
theorem Z0jj : Zh9.toList = [Z03X, Z028] := nf
theorem Z0kW : stepA E C B 28 Zh9 Z03X (φ, H) = some (fput φ 14 (fget φ 5), H) := nf
theorem Z0jU : stepA E C B 28 Zh9 Z028 (φ, H) = stp (some 15) φ H (just (aBin E.T .neq 32 (fget φ 14) (.int .i64 0))) := nf
def Zzw := kR ZyV
def Zz4 := kT Zzw
def Z06i := kL Zz4
def Zbw := kO Z06i
def Z02y := opN Zbw 0
def Z03i := opN Zbw 1
def ZVR := opN Zbw 2
theorem Z0s0 : XG 61 28 Z06i Zbw [4, 5, 15, 16] := Zb (by rfl) (by rfl) _
theorem Z0it : Zbw.toList = [Z02y, Z03i, ZVR] := nf
theorem Z0hZ : stepA E C B 28 Zbw Z02y (φ, H) = some (fput φ 16 (fget φ 5), H) := nf
theorem Z0nv : stepA E C B 28 Zbw Z03i (φ, H) = some (fput φ 2 (.int .i64 0), H) := nf
theorem Z0mB : stepA E C B 28 Zbw ZVR (φ, H) = some (fput φ 3 (fget φ 16), H) := nf
def Z0ay := kR Zz4
theorem Z0p3 : execA E C (fg 61) B 28 E0 N Z0ay s = some (.ret, s) := Z06 (by rfl) s
theorem Z0rw : XQ 61 28 Zz4 Z06i Z0ay := Z4 (by rfl) _
def Z09w := kE Zzw
theorem Z0qo : execA E C (fg 61) B 28 E0 N Z09w s = some (.normal, s) := ZV (by rfl) s
theorem Z0qY : XC 61 28 Zzw 15 Zz4 Z09w := ZN (by rfl) _
theorem Z0sh : XQ 61 28 ZyV Z07r Zzw := Z4 (by rfl) _
def Zou := kR Zzo
def ZDi := kL Zou
def Z1n := kO ZDi
def Z059 := opN Z1n 0
def ZXD := opN Z1n 1
def Z010 := opN Z1n 2
def ZWv := opN Z1n 3
def ZYr := opN Z1n 4
def ZZ6 := opN Z1n 5
def ZYg := opN Z1n 6
def Z01a := opN Z1n 7
def ZW8 := opN Z1n 8
theorem Z0qa : XG 61 28 ZDi Z1n [5, 6, 8, 15, 17, 18, 19, 20, 21, 22] := Zb (by rfl) (by rfl) _
theorem Z0mW : Z1n.toList = [Z059, ZXD, Z010, ZWv, ZYr, ZZ6, ZYg, Z01a, ZW8] := nf
theorem Z0m0 : stepA E C B 28 Z1n Z059 (φ, H) = stp (some 18) φ H (just (aLoad E.T 109 (fget φ 4))) := nf
theorem Z0lx : stepA E C B 28 Z1n ZXD (φ, H) = stp (some 19) φ H (aCall C (fun j => B + j * 28 + 19) true 94 [(fget φ 18), (.int .i64 0)]) := nf
theorem Z0lt : stepA E C B 28 Z1n Z010 (φ, H) = some (fput φ 17 (fget φ 19), H) := nf
theorem Z0mp : stepA E C B 28 Z1n ZWv (φ, H) = stp (some 20) φ H (Zy (fget φ 17) 0) := nf
theorem Z0kp : stepA E C B 28 Z1n ZYr (φ, H) = stp (some 21) φ H (Zy (fget φ 17) 1) := nf
theorem Z0j1 : stepA E C B 28 Z1n ZZ6 (φ, H) = stp (some 22) φ H (Zy (fget φ 17) 2) := nf
theorem Z0nD : stepA E C B 28 Z1n ZYg (φ, H) = some (fput φ 6 (fget φ 20), H) := nf
theorem Z0n0 : stepA E C B 28 Z1n Z01a (φ, H) = some (fput φ 7 (fget φ 21), H) := nf
theorem Z0mZ : stepA E C B 28 Z1n ZW8 (φ, H) = some (fput φ 8 (fget φ 22), H) := nf
def ZsO := kR Zou
def ZJM := kL ZsO
def Z2O := kO ZJM
def Z00i := opN Z2O 0
def Z05y := opN Z2O 1
def ZXw := opN Z2O 2
def Z01i := opN Z2O 3
def Z02C := opN Z2O 4
def ZZV := opN Z2O 5
def ZX0 := opN Z2O 6
theorem Z0qs : XG 61 28 ZJM Z2O [4, 7, 23, 24, 25, 26, 27] := Zb (by rfl) (by rfl) _
theorem Z0ii : Z2O.toList = [Z00i, Z05y, ZXw, Z01i, Z02C, ZZV, ZX0] := nf
theorem Z0ke : stepA E C B 28 Z2O Z00i (φ, H) = some (fput φ 23 (fget φ 7), H) := nf
theorem Z0hP : stepA E C B 28 Z2O Z05y (φ, H) = stp (some 24) φ H (just (aLoad E.T 109 (fget φ 4))) := nf
theorem Z0nm : stepA E C B 28 Z2O ZXw (φ, H) = stp (some 25) φ H (aCall C (fun j => B + j * 28 + 25) true 95 [(fget φ 24)]) := nf
theorem Z0ku : stepA E C B 28 Z2O Z01i (φ, H) = stp (some 26) φ H (just (Z5 E.T 36 (fget φ 23) (fget φ 25))) := nf
theorem Z0kk : stepA E C B 28 Z2O Z02C (φ, H) = stp (some 27) φ H (just (aLoad E.T 3 (fget φ 26))) := nf
theorem Z0nz : stepA E C B 28 Z2O ZZV (φ, H) = some (fput φ 2 (fget φ 27), H) := nf
theorem Z0iV : stepA E C B 28 Z2O ZX0 (φ, H) = some (fput φ 3 (.int .i64 0), H) := nf
def Z0aI := kR ZsO
theorem Z0p7 : execA E C (fg 61) B 28 E0 N Z0aI s = some (.ret, s) := Z06 (by rfl) s
theorem Z0pM : XQ 61 28 ZsO ZJM Z0aI := Z4 (by rfl) _
theorem Z0oJ : XQ 61 28 Zou ZDi ZsO := Z4 (by rfl) _
theorem Z0rK : XQ 61 28 Zzo ZyV Zou := Z4 (by rfl) _
theorem Z0qV : XQ 61 28 Zzj Z077 Zzo := Z4 (by rfl) _
theorem Z0rQ : XQ 61 28 ZqS Z07q Zzj := Z4 (by rfl) _
theorem Z0sq : fInfo E 61 = some ⟨28, #[.tmp 2, .tmp 3], ZqS⟩ := nf
theorem b_61 (args : List AV) : bodyA E C fg N 61 args H B = bodyX E [.tmp 2, .tmp 3] (execA E C (fg 61) B 28 H N ZqS (Zw args 0 [], H)) := Z0a Z0sq args H
def Zrs := kBody Proofs.Tryd.f89
def Z07Q := kL Zrs
def ZbK := kO Z07Q
def ZVl := opN ZbK 0
def ZYE := opN ZbK 1
def Z00S := opN ZbK 2
theorem Z0rg : XG 89 46 Z07Q ZbK [0, 2, 3] := Zb (by rfl) (by rfl) _
theorem Z0m4 : ZbK.toList = [ZVl, ZYE, Z00S] := nf
theorem Z0nQ : stepA E C B 46 ZbK ZVl (φ, H) = stp (some 1) φ H (opBox (B + 1) (acells (fget φ 0))) := nf
theorem Z0iB : stepA E C B 46 ZbK ZYE (φ, H) = some (fput φ 2 (.nilsl), H) := nf
theorem Z0kU : stepA E C B 46 ZbK Z00S (φ, H) = some (fput φ 3 (.int .i64 0), H) := nf
def Zz3 := kR Zrs
def Z069 := kL Zz3
def ZzJ := kO Z069
def Z03V := opN ZzJ 0
theorem Z0rh : XG 89 46 Z069 ZzJ [] := Zb (by rfl) (by rfl) _
theorem Z0jL : ZzJ.toList = [Z03V] := nf
theorem Z0hT : stepA E C B 46 ZzJ Z03V (φ, H) = some (fput φ 4 (.nilsl), H) := nf
def ZzV := kR Zz3
def Z063 := kL ZzV
def Zzq := kO Z063
def ZYO := opN Zzq 0
theorem Z0r9 : XG 89 46 Z063 Zzq [] := Zb (by rfl) (by rfl) _
theorem Z0kE : Zzq.toList = [ZYO] := nf
theorem Z0mC : stepA E C B 46 Zzq ZYO (φ, H) = some (fput φ 5 (.int .i64 0), H) := nf
def ZzS := kR ZzV
def ZzC := kL ZzS
def Z07M := kL ZzC
def ZbE := kO Z07M
def ZZa := opN ZbE 0
def ZYd := opN ZbE 1
def Z02E := opN ZbE 2
theorem Z0s3 : XG 89 46 Z07M ZbE [10, 11] := Zb (by rfl) (by rfl) _
theorem Z0jX : ZbE.toList = [ZZa, ZYd, Z02E] := nf
theorem Z0lO : stepA E C B 46 ZbE ZZa (φ, H) = stp (some 10) φ H (just (aLoad E.T 109 (fget φ 1))) := nf
theorem Z0jf : stepA E C B 46 ZbE ZYd (φ, H) = stp (some 11) φ H (aCall C (fun j => B + j * 46 + 11) true 95 [(fget φ 10)]) := nf
theorem Z0iy : stepA E C B 46 ZbE Z02E (φ, H) = some (fput φ 6 (fget φ 11), H) := nf
def Z07C := kR ZzC
def ZLE := kB Z07C
def Zdi := kB ZLE
def ZpV := kL Zdi
def ZRj := kL ZpV
def ZiM := kO ZRj
def Z04M := opN ZiM 0
def Z05x := opN ZiM 1
theorem ZUk : XG 89 46 ZRj ZiM [12] := Zb (by rfl) (by rfl) _
theorem Ztb : ZiM.toList = [Z04M, Z05x] := nf
theorem ZtU : stepA E C B 46 ZiM Z04M (φ, H) = some (fput φ 12 (fget φ 6), H) := nf
theorem Zuq : stepA E C B 46 ZiM Z05x (φ, H) = stp (some 13) φ H (just (aBin E.T .neq 121 (fget φ 12) (.int .u64 0))) := nf
def Zp3 := kR ZpV
def Z0cT := kT Zp3
theorem ZSW : execA E C (fg 89) B 46 E0 N Z0cT s = some (.normal, s) := ZV (by rfl) s
def Z0b4 := kE Zp3
theorem ZO8 : execA E C (fg 89) B 46 E0 N Z0b4 s = some (.exit 0, s) := Z0I (by rfl) s
theorem ZEP : XC 89 46 Zp3 13 Z0cT Z0b4 := ZN (by rfl) _
theorem ZTr : XQ 89 46 ZpV ZRj Zp3 := Z4 (by rfl) _
def ZO3 := kR Zdi
def ZpH := kB ZO3
def ZAn := kL ZpH
def Z5o := kO ZAn
def Z01D := opN Z5o 0
def Z05T := opN Z5o 1
def ZXx := opN Z5o 2
def Z035 := opN Z5o 3
def ZYI := opN Z5o 4
theorem Z0cV : XG 89 46 ZAn Z5o [13, 14, 15, 16] := Zb (by rfl) (by rfl) _
theorem Z04k : Z5o.toList = [Z01D, Z05T, ZXx, Z035, ZYI] := nf
theorem ZZe : stepA E C B 46 Z5o Z01D (φ, H) = stp (some 14) φ H (just (aLoad E.T 109 (fget φ 1))) := nf
theorem Z00Z : stepA E C B 46 Z5o Z05T (φ, H) = some (fput φ 15 (fget φ 6), H) := nf
theorem Z00b : stepA E C B 46 Z5o ZXx (φ, H) = stp (some 16) φ H (aCall C (fun j => B + j * 46 + 16) true 100 [(fget φ 14), (fget φ 15)]) := nf
theorem Z01N : stepA E C B 46 Z5o Z035 (φ, H) = stp (some 7) φ H (opBox (B + 7) (zeroCells E.T 3)) := nf
theorem Z04Q : stepA E C B 46 Z5o ZYI (φ, H) = stp none φ H (opStore E.T 3 (fget φ 7) (fget φ 16)) := nf
def Zr7 := kR ZpH
def ZGM := kL Zr7
def Z8T := kO ZGM
def ZYu := opN Z8T 0
def ZYR := opN Z8T 1
def ZZ7 := opN Z8T 2
def Z00G := opN Z8T 3
theorem Z09u : XG 89 46 ZGM Z8T [17, 18, 19] := Zb (by rfl) (by rfl) _
theorem Z000 : Z8T.toList = [ZYu, ZYR, ZZ7, Z00G] := nf
theorem ZWy : stepA E C B 46 Z8T ZYu (φ, H) = stp (some 17) φ H (just (aLoad E.T 109 (fget φ 1))) := nf
theorem Z04Z : stepA E C B 46 Z8T ZYR (φ, H) = some (fput φ 18 (fget φ 6), H) := nf
theorem ZZl : stepA E C B 46 Z8T ZZ7 (φ, H) = stp (some 19) φ H (aCall C (fun j => B + j * 46 + 19) true 128 [(fget φ 17), (fget φ 18)]) := nf
theorem Z00x : stepA E C B 46 Z8T Z00G (φ, H) = some (fput φ 8 (fget φ 19), H) := nf
def ZpW := kR Zr7
def ZBc := kL ZpW
def ZhA := kO ZBc
def ZXO := opN ZhA 0
def ZYn := opN ZhA 1
theorem Z0bv : XG 89 46 ZBc ZhA [20, 21] := Zb (by rfl) (by rfl) _
theorem ZXy : ZhA.toList = [ZXO, ZYn] := nf
theorem ZXM : stepA E C B 46 ZhA ZXO (φ, H) = some (fput φ 20 (fget φ 8), H) := nf
theorem Z05D : stepA E C B 46 ZhA ZYn (φ, H) = mutX (some 21) φ (C 129 [(fget φ 20)] H (B + 46 * 8)) := nf
def Zri := kR ZpW
def ZTc := kL Zri
def Z8S := kO ZTc
def Z01E := opN Z8S 0
def Z04O := opN Z8S 1
def Z04a := opN Z8S 2
def ZXS := opN Z8S 3
theorem Z085 : XG 89 46 ZTc Z8S [8, 22, 23, 24] := Zb (by rfl) (by rfl) _
theorem ZVA : Z8S.toList = [Z01E, Z04O, Z04a, ZXS] := nf
theorem ZXR : stepA E C B 46 Z8S Z01E (φ, H) = some (fput φ 22 (fget φ 8), H) := nf
theorem ZXP : stepA E C B 46 Z8S Z04O (φ, H) = stp (some 23) φ H (.pure (.clo 131 [(fget φ 1), (fget φ 7)], [])) := nf
theorem ZVC : stepA E C B 46 Z8S Z04a (φ, H) = stp (some 24) φ H (aCall C (fun j => B + j * 46 + 24) true 130 [(fget φ 22), (fget φ 23)]) := nf
theorem ZXe : stepA E C B 46 Z8S ZXS (φ, H) = some (fput φ 9 (fget φ 24), H) := nf
def Zo3 := kR Zri
def ZBH := kL Zo3
def Z0K := kO ZBH
def Z03v := opN Z0K 0
def Z01J := opN Z0K 1
def Z04R := opN Z0K 2
def ZXV := opN Z0K 3
def ZZG := opN Z0K 4
def Z04q := opN Z0K 5
def ZXc := opN Z0K 6
def Z04v := opN Z0K 7
def Z02J := opN Z0K 8
def ZWK := opN Z0K 9
theorem Z09z : XD 89 46 ZBH Z0K [7, 25, 26, 27, 28, 29, 30, 31, 32, 33] := Z0Z (by rfl) (by rfl) _
theorem ZZA : Z0K.toList = [Z03v, Z01J, Z04R, ZXV, ZZG, Z04q, ZXc, Z04v, Z02J, ZWK] := nf
theorem Z0he : statOk Z0K = true := by kernel_rfl
theorem ZAO : drawA E C B 46 Z0K s = if neat 46 s = true then drX Z0K (runT E C B 46 Z0K Z0K.toList 0 s) else none := Z0J Z0he s
theorem ZOk (l : List (Nat × Tr)) : dynOk Z0K l = (!writing l || Zs [[], [], [1], [], [1, 2, 3], [1, 2, 3, 4], [], [1, 2, 3, 4, 5, 6], [0, 1, 2, 3, 4, 5, 6, 7], [0, 1, 2, 3, 4, 5, 6, 7, 8]] (Zq l)) := Z0t (by kernel_rfl) l
theorem Z05X : stepT E C B 46 Z0K Z03v (φ, H) = some ((fput φ 25 (fget φ 5), H), ⟨false, [], []⟩) := Z9 rfl (ZS rfl rfl)
theorem Z05p : stepT E C B 46 Z0K Z01J (φ, H) = stpT (some 26) φ H (just (Ze E.T 109 (fget φ 1) 0)) := Z9 rfl (Zj rfl rfl)
theorem Z05i : stepT E C B 46 Z0K Z04R (φ, H) = stpT (some 27) φ H (just (aLoad E.T 106 (fget φ 26))) := Z9 rfl (Zj rfl rfl)
theorem Z04K : stepT E C B 46 Z0K ZXV (φ, H) = some ((fput φ 28 (fget φ 9), H), ⟨false, [], []⟩) := Z9 rfl (ZS rfl rfl)
theorem Z04p : stepT E C B 46 Z0K ZZG (φ, H) = stpT (some 29) φ H (just (Z5 E.T 106 (fget φ 27) (fget φ 28))) := Z9 rfl (Zj rfl rfl)
theorem Z02w : stepT E C B 46 Z0K Z04q (φ, H) = stpT (some 30) φ H (just (aLoad E.T 126 (fget φ 29))) := Z9 rfl (Zj rfl rfl)
theorem Z03h : stepT E C B 46 Z0K ZXc (φ, H) = stpT (some 31) φ H (just (aLoad E.T 3 (fget φ 7))) := Z9 rfl (Zj rfl rfl)
theorem ZY5 : stepT E C B 46 Z0K Z04v (φ, H) = stpT (some 32) φ H (aCall C (fun j => B + j * 46 + 32) true 99 [(fget φ 30), (fget φ 31)]) := Z9 rfl (Zj rfl rfl)
theorem ZVV : stepT E C B 46 Z0K Z02J (φ, H) = stpT (some 33) φ H (Zh E.T (B + 33) .max #[3, 3] [(fget φ 25), (fget φ 32)]) := Z9 rfl (Zj rfl rfl)
theorem ZXo : stepT E C B 46 Z0K ZWK (φ, H) = some ((fput φ 5 (fget φ 33), H), ⟨false, [], []⟩) := Z9 rfl (ZS rfl rfl)
def Zrb := kR Zo3
def ZFn := kL Zrb
def Z3V := kO ZFn
def ZDW := opN Z3V 0
def ZOg := opN Z3V 1
def ZKp := opN Z3V 2
def ZTH := opN Z3V 3
def ZA0 := opN Z3V 4
theorem Z0bT : XG 89 46 ZFn Z3V [34, 35, 36, 37] := Zb (by rfl) (by rfl) _
theorem ZNT : Z3V.toList = [ZDW, ZOg, ZKp, ZTH, ZA0] := nf
theorem ZRq : stepA E C B 46 Z3V ZDW (φ, H) = some (fput φ 34 (fget φ 4), H) := nf
theorem ZFj : stepA E C B 46 Z3V ZOg (φ, H) = some (fput φ 35 (fget φ 9), H) := nf
theorem ZAh : stepA E C B 46 Z3V ZKp (φ, H) = stp (some 36) φ H (ZB E.T (B + 36) 36 1 (evO E φ) [(0, Operand.tmp 35)]) := nf
theorem ZDH : stepA E C B 46 Z3V ZTH (φ, H) = stp (some 37) φ H (Zh E.T (B + 37) .append #[36, 36] [(fget φ 34), (fget φ 36)]) := nf
theorem ZHp : stepA E C B 46 Z3V ZA0 (φ, H) = some (fput φ 4 (fget φ 37), H) := nf
def ZEu := kR Zrb
def Z3I := kO ZEu
def ZLK := opN Z3I 0
def ZET := opN Z3I 1
def ZHS := opN Z3I 2
def ZFZ := opN Z3I 3
def ZNP := opN Z3I 4
theorem Z0cK : XG 89 46 ZEu Z3I [9, 38, 39, 40, 41] := Zb (by rfl) (by rfl) _
theorem ZS1 : Z3I.toList = [ZLK, ZET, ZHS, ZFZ, ZNP] := nf
theorem ZT3 : stepA E C B 46 Z3I ZLK (φ, H) = some (fput φ 38 (fget φ 6), H) := nf
theorem ZFy : stepA E C B 46 Z3I ZET (φ, H) = some (fput φ 39 (fget φ 9), H) := nf
theorem ZEz : stepA E C B 46 Z3I ZHS (φ, H) = stp (some 40) φ H (just (aBin E.T .shl 121 (.int .u64 1) (fget φ 39))) := nf
theorem ZUN : stepA E C B 46 Z3I ZFZ (φ, H) = stp (some 41) φ H (just (aBin E.T .andNot 121 (fget φ 38) (fget φ 40))) := nf
theorem ZCA : stepA E C B 46 Z3I ZNP (φ, H) = some (fput φ 6 (fget φ 41), H) := nf
theorem Z0aJ : XQ 89 46 Zrb ZFn ZEu := Z4 (by rfl) _
theorem Z09l : XQ 89 46 Zo3 ZBH Zrb := Z4 (by rfl) _
theorem Z09Y : XQ 89 46 Zri ZTc Zo3 := Z4 (by rfl) _
theorem Z0ap : XQ 89 46 ZpW ZBc Zri := Z4 (by rfl) _
theorem Z0bm : XQ 89 46 Zr7 ZGM ZpW := Z4 (by rfl) _
theorem Z08N : XQ 89 46 ZpH ZAn Zr7 := Z4 (by rfl) _
theorem Z09H : execA E C (fg 89) B 46 E0 N ZO3 s = blockX 1 (fun s => (forget s.1 [], s.2)) (execA E C (fg 89) B 46 E0 N ZpH s) := ZK (by rfl) (by rfl) s
theorem ZV3 : XQ 89 46 Zdi ZpV ZO3 := Z4 (by rfl) _
theorem Z0o2 : execA E C (fg 89) B 46 E0 N ZLE s = iterA (execA E C (fg 89) B 46 E0 N Zdi) (headA E0) N s := Z0H (by rfl) s
theorem Z0sZ : execA E C (fg 89) B 46 E0 N Z07C s = blockX 0 (fun s => (forget s.1 [1, 6, 13], s.2)) (execA E C (fg 89) B 46 E0 N ZLE s) := ZK (by rfl) (by rfl) s
theorem Z0rN : XQ 89 46 ZzC Z07M Z07C := Z4 (by rfl) _
def Zrq := kR ZzS
def ZLz := kL Zrq
def Zc4 := kO ZLz
def ZGC := opN Zc4 0
def ZCE := opN Zc4 1
theorem Z0nU : XG 89 46 ZLz Zc4 [42, 43] := Zb (by rfl) (by rfl) _
theorem Z0g9 : Zc4.toList = [ZGC, ZCE] := nf
theorem Z0eb : stepA E C B 46 Zc4 ZGC (φ, H) = some (fput φ 42 (fget φ 4), H) := nf
theorem Z0gz : stepA E C B 46 Zc4 ZCE (φ, H) = mutX (some 43) φ (C 129 [(fget φ 42)] H (B + 46 * 8)) := nf
def Zo0 := kR Zrq
def ZLy := kL Zo0
def Z58 := kO ZLy
def ZIH := opN Z58 0
def ZEK := opN Z58 1
def ZJ9 := opN Z58 2
def ZPV := opN Z58 3
theorem Z0ou : XG 89 46 ZLy Z58 [4, 5, 44, 45] := Zb (by rfl) (by rfl) _
theorem Z0fK : Z58.toList = [ZIH, ZEK, ZJ9, ZPV] := nf
theorem Z0dw : stepA E C B 46 Z58 ZIH (φ, H) = some (fput φ 44 (fget φ 4), H) := nf
theorem Z0eH : stepA E C B 46 Z58 ZEK (φ, H) = some (fput φ 45 (fget φ 5), H) := nf
theorem Z0di : stepA E C B 46 Z58 ZJ9 (φ, H) = some (fput φ 2 (fget φ 44), H) := nf
theorem Z0dC : stepA E C B 46 Z58 ZPV (φ, H) = some (fput φ 3 (fget φ 45), H) := nf
def Z0aH := kR Zo0
theorem Z0pd : execA E C (fg 89) B 46 E0 N Z0aH s = some (.ret, s) := Z06 (by rfl) s
theorem Z0q4 : XQ 89 46 Zo0 ZLy Z0aH := Z4 (by rfl) _
theorem Z0p0 : XQ 89 46 Zrq ZLz Zo0 := Z4 (by rfl) _
theorem Z0rM : XQ 89 46 ZzS ZzC Zrq := Z4 (by rfl) _
theorem Z0rJ : XQ 89 46 ZzV Z063 ZzS := Z4 (by rfl) _
theorem Z0s1 : XQ 89 46 Zz3 Z069 ZzV := Z4 (by rfl) _
theorem Z0r6 : XQ 89 46 Zrs Z07Q Zz3 := Z4 (by rfl) _
theorem Z0rH : fInfo E 89 = some ⟨46, #[.tmp 2, .tmp 3], Zrs⟩ := nf
theorem b_89 (args : List AV) : bodyA E C fg N 89 args H B = bodyX E [.tmp 2, .tmp 3] (execA E C (fg 89) B 46 H N Zrs (Zw args 0 [], H)) := Z0a Z0rH args H
def ZgU := kBody Proofs.Tryd.f131
def ZMv := kL ZgU
def ZqR := kO ZMv
def ZBP := opN ZqR 0
theorem Z0q9 : XG 131 22 ZMv ZqR [6] := Zb (by rfl) (by rfl) _
theorem Z0fD : ZqR.toList = [ZBP] := nf
theorem Z0gv : stepA E C B 22 ZqR ZBP (φ, H) = some (fput φ 6 (.int .i64 0), H) := nf
def ZrK := kR ZgU
def ZLF := kL ZrK
def Z03 := kO ZLF
def ZAg := opN Z03 0
def ZLX := opN Z03 1
def ZSl := opN Z03 2
def ZKE := opN Z03 3
def ZLI := opN Z03 4
def ZPc := opN Z03 5
def ZMg := opN Z03 6
def ZTP := opN Z03 7
def ZHw := opN Z03 8
def ZJC := opN Z03 9
def ZxH := opN Z03 10
def ZwQ := opN Z03 11
def Zy5 := opN Z03 12
def Zx5 := opN Z03 13
def Zxw := opN Z03 14
def ZwS := opN Z03 15
theorem Z0oB : XD 131 22 ZLF Z03 [0, 1, 2, 3, 7, 8, 9, 10, 11, 12, 13, 14, 15, 16, 17, 18, 19, 20, 21] := Z0Z (by rfl) (by rfl) _
theorem Z0fP : Z03.toList = [ZAg, ZLX, ZSl, ZKE, ZLI, ZPc, ZMg, ZTP, ZHw, ZJC, ZxH, ZwQ, Zy5, Zx5, Zxw, ZwS] := nf
theorem Z08G : statOk Z03 = true := by kernel_rfl
theorem Z086 : drawA E C B 22 Z03 s = if neat 22 s = true then drX Z03 (runT E C B 22 Z03 Z03.toList 0 s) else none := Z0J Z08G s
theorem Z0aW (l : List (Nat × Tr)) : dynOk Z03 l = (!writing l || Zs [[], [0], [], [0, 1, 2], [0, 1, 2, 3], [], [0, 1, 2, 3, 4, 5], [], [7], [], [7, 8, 9], [7, 8, 9, 10], [], [0, 1, 2, 3, 4, 5, 6, 7, 8, 9, 10, 11, 12], [0, 1, 2, 3, 4, 5, 6, 7, 8, 9, 10, 11, 12, 13], [0, 1, 2, 3, 4, 5, 6, 7, 8, 9, 10, 11, 12, 13, 14]] (Zq l)) := Z0t (by kernel_rfl) l
theorem Z0g6 : stepT E C B 22 Z03 ZAg (φ, H) = stpT (some 7) φ H (just (Ze E.T 109 (fget φ 2) 0)) := Z9 rfl (Zj rfl rfl)
theorem Z0ee : stepT E C B 22 Z03 ZLX (φ, H) = stpT (some 8) φ H (just (aLoad E.T 106 (fget φ 7))) := Z9 rfl (Zj rfl rfl)
theorem Z0d0 : stepT E C B 22 Z03 ZSl (φ, H) = some ((fput φ 9 (fget φ 0), H), ⟨false, [], []⟩) := Z9 rfl (ZS rfl rfl)
theorem Z0gT : stepT E C B 22 Z03 ZKE (φ, H) = stpT (some 10) φ H (just (Z5 E.T 106 (fget φ 8) (fget φ 9))) := Z9 rfl (Zj rfl rfl)
theorem Z0fR : stepT E C B 22 Z03 ZLI (φ, H) = stpT (some 11) φ H (just (aLoad E.T 126 (fget φ 10))) := Z9 rfl (Zj rfl rfl)
theorem Z0gR : stepT E C B 22 Z03 ZPc (φ, H) = stpT (some 12) φ H (just (aLoad E.T 3 (fget φ 3))) := Z9 rfl (Zj rfl rfl)
theorem Z0fT : stepT E C B 22 Z03 ZMg (φ, H) = stpT (some 13) φ H (aCall C (fun j => B + j * 22 + 13) true 99 [(fget φ 11), (fget φ 12)]) := Z9 rfl (Zj rfl rfl)
theorem Z0eX : stepT E C B 22 Z03 ZTP (φ, H) = stpT (some 14) φ H (just (Ze E.T 109 (fget φ 2) 0)) := Z9 rfl (Zj rfl rfl)
theorem Z0fh : stepT E C B 22 Z03 ZHw (φ, H) = stpT (some 15) φ H (just (aLoad E.T 106 (fget φ 14))) := Z9 rfl (Zj rfl rfl)
theorem Z0d5 : stepT E C B 22 Z03 ZJC (φ, H) = some ((fput φ 16 (fget φ 1), H), ⟨false, [], []⟩) := Z9 rfl (ZS rfl rfl)
theorem Z0c4 : stepT E C B 22 Z03 ZxH (φ, H) = stpT (some 17) φ H (just (Z5 E.T 106 (fget φ 15) (fget φ 16))) := Z9 rfl (Zj rfl rfl)
theorem Z08z : stepT E C B 22 Z03 ZwQ (φ, H) = stpT (some 18) φ H (just (aLoad E.T 126 (fget φ 17))) := Z9 rfl (Zj rfl rfl)
theorem Z0bQ : stepT E C B 22 Z03 Zy5 (φ, H) = stpT (some 19) φ H (just (aLoad E.T 3 (fget φ 3))) := Z9 rfl (Zj rfl rfl)
theorem Z0bt : stepT E C B 22 Z03 Zx5 (φ, H) = stpT (some 20) φ H (aCall C (fun j => B + j * 22 + 20) true 99 [(fget φ 18), (fget φ 19)]) := Z9 rfl (Zj rfl rfl)
theorem Z08Q : stepT E C B 22 Z03 Zxw (φ, H) = stpT (some 21) φ H (just (aBin E.T .sub 3 (fget φ 13) (fget φ 20))) := Z9 rfl (Zj rfl rfl)
theorem Z0a3 : stepT E C B 22 Z03 ZwS (φ, H) = some ((fput φ 6 (fget φ 21), H), ⟨false, [], []⟩) := Z9 rfl (ZS rfl rfl)
def Z0cH := kR ZrK
theorem Z0o4 : execA E C (fg 131) B 22 E0 N Z0cH s = some (.ret, s) := Z06 (by rfl) s
theorem Z0pE : XQ 131 22 ZrK ZLF Z0cH := Z4 (by rfl) _
theorem Z0nW : XQ 131 22 ZgU ZMv ZrK := Z4 (by rfl) _
theorem Z0bs : fInfo E 131 = some ⟨22, #[.tmp 6], ZgU⟩ := nf
theorem Z0rR (args : List AV) : bodyA E C fg N 131 args H B = bodyX E [.tmp 6] (execA E C (fg 131) B 22 H N ZgU (Zw args 0 [], H)) := Z0a Z0bs args H
def ZqN := kBody Proofs.Tryd.f19
def Z06B := kL ZqN
def ZbD := kO Z06B
def Z05W := opN ZbD 0
def ZWE := opN ZbD 1
def Z00a := opN ZbD 2
theorem Z0sY : XG 19 22 Z06B ZbD [0, 2, 3] := Zb (by rfl) (by rfl) _
theorem Z0nw : ZbD.toList = [Z05W, ZWE, Z00a] := nf
theorem Z0jE : stepA E C B 22 ZbD Z05W (φ, H) = stp (some 1) φ H (opBox (B + 1) (acells (fget φ 0))) := nf
theorem Z0nt : stepA E C B 22 ZbD ZWE (φ, H) = some (fput φ 2 (.int .i64 0), H) := nf
theorem Z0nd : stepA E C B 22 ZbD Z00a (φ, H) = some (fput φ 3 (.int .i64 0), H) := nf
def ZyX := kR ZqN
def Z06e := kL ZyX
def Z2o := kO Z06e
def ZYG := opN Z2o 0
def Z03o := opN Z2o 1
def Z05d := opN Z2o 2
def Z03u := opN Z2o 3
def ZX7 := opN Z2o 4
def Z01s := opN Z2o 5
def ZXZ := opN Z2o 6
def Z03k := opN Z2o 7
theorem Z0qO : XG 19 22 Z06e Z2o [1, 8, 9, 10, 11, 12] := Zb (by rfl) (by rfl) _
theorem Z0jW : Z2o.toList = [ZYG, Z03o, Z05d, Z03u, ZX7, Z01s, ZXZ, Z03k] := nf
theorem Z0j3 : stepA E C B 22 Z2o ZYG (φ, H) = stp (some 9) φ H (just (aLoad E.T 25 (fget φ 1))) := nf
theorem Z0nJ : stepA E C B 22 Z2o Z03o (φ, H) = stp (some 10) φ H (aCall C (fun j => B + j * 22 + 10) true 88 [(fget φ 9)]) := nf
theorem Z0ir : stepA E C B 22 Z2o Z05d (φ, H) = some (fput φ 8 (fget φ 10), H) := nf
theorem Z0hQ : stepA E C B 22 Z2o Z03u (φ, H) = stp (some 11) φ H (Zy (fget φ 8) 0) := nf
theorem Z0kr : stepA E C B 22 Z2o ZX7 (φ, H) = stp (some 12) φ H (Zy (fget φ 8) 1) := nf
theorem Z0lC : stepA E C B 22 Z2o Z01s (φ, H) = stp (some 4) φ H (opBox (B + 4) (zeroCells E.T 109)) := nf
theorem Z0i3 : stepA E C B 22 Z2o ZXZ (φ, H) = stp none φ H (opStore E.T 109 (fget φ 4) (fget φ 11)) := nf
theorem Z0md : stepA E C B 22 Z2o Z03k (φ, H) = some (fput φ 5 (fget φ 12), H) := nf
def ZyM := kR ZyX
def ZyQ := kL ZyM
def Z07G := kL ZyQ
def Zj3 := kO Z07G
def Z01h := opN Zj3 0
def Z02R := opN Zj3 1
theorem Z0rS : XG 19 22 Z07G Zj3 [13] := Zb (by rfl) (by rfl) _
theorem Z0mP : Zj3.toList = [Z01h, Z02R] := nf
theorem Z0jF : stepA E C B 22 Zj3 Z01h (φ, H) = some (fput φ 13 (fget φ 5), H) := nf
theorem Z0nh : stepA E C B 22 Zj3 Z02R (φ, H) = stp (some 14) φ H (just (aBin E.T .neq 32 (fget φ 13) (.int .i64 0))) := nf
def ZzF := kR ZyQ
def ZzA := kT ZzF
def Z06o := kL ZzA
def Zbx := kO Z06o
def Z01n := opN Zbx 0
def Z05a := opN Zbx 1
def ZYo := opN Zbx 2
theorem Z0sb : XG 19 22 Z06o Zbx [4, 5, 14, 15] := Zb (by rfl) (by rfl) _
theorem Z0nj : Zbx.toList = [Z01n, Z05a, ZYo] := nf
theorem Z0ib : stepA E C B 22 Zbx Z01n (φ, H) = some (fput φ 15 (fget φ 5), H) := nf
theorem Z0nG : stepA E C B 22 Zbx Z05a (φ, H) = some (fput φ 2 (.int .i64 0), H) := nf
theorem Z0nL : stepA E C B 22 Zbx ZYo (φ, H) = some (fput φ 3 (fget φ 15), H) := nf
def Z08f := kR ZzA
theorem Z0nT : execA E C (fg 19) B 22 E0 N Z08f s = some (.ret, s) := Z06 (by rfl) s
theorem Z0sD : XQ 19 22 ZzA Z06o Z08f := Z4 (by rfl) _
def Z0cD := kE ZzF
theorem Z0oy : execA E C (fg 19) B 22 E0 N Z0cD s = some (.normal, s) := ZV (by rfl) s
theorem Z0su : XC 19 22 ZzF 14 ZzA Z0cD := ZN (by rfl) _
theorem Z0t8 : XQ 19 22 ZyQ Z07G ZzF := Z4 (by rfl) _
def ZpM := kR ZyM
def ZSk := kL ZpM
def Z2S := kO ZSk
def ZZT := opN Z2S 0
def Z04E := opN Z2S 1
def ZWC := opN Z2S 2
def Z03m := opN Z2S 3
def ZX3 := opN Z2S 4
def Z02U := opN Z2S 5
def Z01w := opN Z2S 6
theorem Z0qA : XG 19 22 ZSk Z2S [4, 5, 6, 14, 16, 17, 18, 19, 20] := Zb (by rfl) (by rfl) _
theorem Z0lQ : Z2S.toList = [ZZT, Z04E, ZWC, Z03m, ZX3, Z02U, Z01w] := nf
theorem Z0hK : stepA E C B 22 Z2S ZZT (φ, H) = stp (some 17) φ H (just (aLoad E.T 109 (fget φ 4))) := nf
theorem Z0i5 : stepA E C B 22 Z2S Z04E (φ, H) = stp (some 18) φ H (aCall C (fun j => B + j * 22 + 18) true 89 [(fget φ 17)]) := nf
theorem Z0jC : stepA E C B 22 Z2S ZWC (φ, H) = some (fput φ 16 (fget φ 18), H) := nf
theorem Z0mM : stepA E C B 22 Z2S Z03m (φ, H) = stp (some 19) φ H (Zy (fget φ 16) 0) := nf
theorem Z0hX : stepA E C B 22 Z2S ZX3 (φ, H) = stp (some 20) φ H (Zy (fget φ 16) 1) := nf
theorem Z0nl : stepA E C B 22 Z2S Z02U (φ, H) = some (fput φ 6 (fget φ 19), H) := nf
theorem Z0lb : stepA E C B 22 Z2S Z01w (φ, H) = some (fput φ 7 (fget φ 20), H) := nf
def ZsR := kR ZpM
def ZHK := kL ZsR
def Zba := kO ZHK
def Z02x := opN Zba 0
def Z03C := opN Zba 1
def ZX8 := opN Zba 2
theorem Z0pR : XG 19 22 ZHK Zba [7, 21] := Zb (by rfl) (by rfl) _
theorem Z0lw : Zba.toList = [Z02x, Z03C, ZX8] := nf
theorem Z0na : stepA E C B 22 Zba Z02x (φ, H) = some (fput φ 21 (fget φ 7), H) := nf
theorem Z0lT : stepA E C B 22 Zba Z03C (φ, H) = some (fput φ 2 (fget φ 21), H) := nf
theorem Z0jG : stepA E C B 22 Zba ZX8 (φ, H) = some (fput φ 3 (.int .i64 0), H) := nf
def Z0bJ := kR ZsR
theorem Z0pw : execA E C (fg 19) B 22 E0 N Z0bJ s = some (.ret, s) := Z06 (by rfl) s
theorem Z0o9 : XQ 19 22 ZsR ZHK Z0bJ := Z4 (by rfl) _
theorem Z0pK : XQ 19 22 ZpM ZSk ZsR := Z4 (by rfl) _
theorem Z0sL : XQ 19 22 ZyM ZyQ ZpM := Z4 (by rfl) _
theorem Z0t9 : XQ 19 22 ZyX Z06e ZyM := Z4 (by rfl) _
theorem Z0rI : XQ 19 22 ZqN Z06B ZyX := Z4 (by rfl) _
theorem Z0s4 : fInfo E 19 = some ⟨22, #[.tmp 2, .tmp 3], ZqN⟩ := nf
theorem b_19 (args : List AV) : bodyA E C fg N 19 args H B = bodyX E [.tmp 2, .tmp 3] (execA E C (fg 19) B 22 H N ZqN (Zw args 0 [], H)) := Z0a Z0s4 args H
def ZoO := kBody Proofs.Tryd.f24
def Z07c := kL ZoO
def Zb8 := kO Z07c
def ZWn := opN Zb8 0
def Z019 := opN Zb8 1
def Z013 := opN Zb8 2
theorem Z0sp : XG 24 36 Z07c Zb8 [0, 2, 3] := Zb (by rfl) (by rfl) _
theorem Z0mi : Zb8.toList = [ZWn, Z019, Z013] := nf
theorem Z0lf : stepA E C B 36 Zb8 ZWn (φ, H) = stp (some 1) φ H (opBox (B + 1) (acells (fget φ 0))) := nf
theorem Z0no : stepA E C B 36 Zb8 Z019 (φ, H) = some (fput φ 2 (.int .i64 0), H) := nf
theorem Z0lL : stepA E C B 36 Zb8 Z013 (φ, H) = some (fput φ 3 (.int .i64 0), H) := nf
def Zz0 := kR ZoO
def Z07F := kL Zz0
def Z2l := kO Z07F
def ZZ9 := opN Z2l 0
def ZZw := opN Z2l 1
def Z01j := opN Z2l 2
def Z012 := opN Z2l 3
def ZYH := opN Z2l 4
def ZWD := opN Z2l 5
def ZWx := opN Z2l 6
def ZVO := opN Z2l 7
theorem Z0sM : XG 24 36 Z07F Z2l [1, 11, 12, 13, 14, 15] := Zb (by rfl) (by rfl) _
theorem Z0l0 : Z2l.toList = [ZZ9, ZZw, Z01j, Z012, ZYH, ZWD, ZWx, ZVO] := nf
theorem Z0hE : stepA E C B 36 Z2l ZZ9 (φ, H) = stp (some 12) φ H (just (aLoad E.T 25 (fget φ 1))) := nf
theorem Z0hU : stepA E C B 36 Z2l ZZw (φ, H) = stp (some 13) φ H (aCall C (fun j => B + j * 36 + 13) true 88 [(fget φ 12)]) := nf
theorem Z0kH : stepA E C B 36 Z2l Z01j (φ, H) = some (fput φ 11 (fget φ 13), H) := nf
theorem Z0je : stepA E C B 36 Z2l Z012 (φ, H) = stp (some 14) φ H (Zy (fget φ 11) 0) := nf
theorem Z0lk : stepA E C B 36 Z2l ZYH (φ, H) = stp (some 15) φ H (Zy (fget φ 11) 1) := nf
theorem Z0mb : stepA E C B 36 Z2l ZWD (φ, H) = stp (some 4) φ H (opBox (B + 4) (zeroCells E.T 109)) := nf
theorem Z0kd : stepA E C B 36 Z2l ZWx (φ, H) = stp none φ H (opStore E.T 109 (fget φ 4) (fget φ 14)) := nf
theorem Z0nE : stepA E C B 36 Z2l ZVO (φ, H) = some (fput φ 5 (fget φ 15), H) := nf
def Zzx := kR Zz0
def ZyF := kL Zzx
def Z060 := kL ZyF
def ZhS := kO Z060
def ZWi := opN ZhS 0
def Z03p := opN ZhS 1
theorem Z0sK : XG 24 36 Z060 ZhS [16] := Zb (by rfl) (by rfl) _
theorem Z0ma : ZhS.toList = [ZWi, Z03p] := nf
theorem Z0nC : stepA E C B 36 ZhS ZWi (φ, H) = some (fput φ 16 (fget φ 5), H) := nf
theorem Z0mz : stepA E C B 36 ZhS Z03p (φ, H) = stp (some 17) φ H (just (aBin E.T .neq 32 (fget φ 16) (.int .i64 0))) := nf
def ZzY := kR ZyF
def ZzT := kT ZzY
def Z06U := kL ZzT
def Zbs := kO Z06U
def ZXG := opN Zbs 0
def ZXK := opN Zbs 1
def Z02v := opN Zbs 2
theorem Z0sR : XG 24 36 Z06U Zbs [4, 5, 17, 18] := Zb (by rfl) (by rfl) _
theorem Z0j5 : Zbs.toList = [ZXG, ZXK, Z02v] := nf
theorem Z0jv : stepA E C B 36 Zbs ZXG (φ, H) = some (fput φ 18 (fget φ 5), H) := nf
theorem Z0nn : stepA E C B 36 Zbs ZXK (φ, H) = some (fput φ 2 (.int .i64 0), H) := nf
theorem Z0iT : stepA E C B 36 Zbs Z02v (φ, H) = some (fput φ 3 (fget φ 18), H) := nf
def Z08l := kR ZzT
theorem Z0pq : execA E C (fg 24) B 36 E0 N Z08l s = some (.ret, s) := Z06 (by rfl) s
theorem Z0qR : XQ 24 36 ZzT Z06U Z08l := Z4 (by rfl) _
def Z0ct := kE ZzY
theorem Z0p4 : execA E C (fg 24) B 36 E0 N Z0ct s = some (.normal, s) := ZV (by rfl) s
theorem Z0ry : XC 24 36 ZzY 17 ZzT Z0ct := ZN (by rfl) _
theorem Z0rW : XQ 24 36 ZyF Z060 ZzY := Z4 (by rfl) _
def Zrm := kR Zzx
def ZQ6 := kL Zrm
def Z2R := kO ZQ6
def Z03I := opN Z2R 0
def ZVB := opN Z2R 1
def Z00R := opN Z2R 2
def Z01B := opN Z2R 3
def ZXt := opN Z2R 4
def Z02z := opN Z2R 5
def Z00l := opN Z2R 6
theorem Z0oW : XG 24 36 ZQ6 Z2R [5, 6, 17, 19, 20, 21, 22, 23] := Zb (by rfl) (by rfl) _
theorem Z0jn : Z2R.toList = [Z03I, ZVB, Z00R, Z01B, ZXt, Z02z, Z00l] := nf
theorem Z0in : stepA E C B 36 Z2R Z03I (φ, H) = stp (some 20) φ H (just (aLoad E.T 109 (fget φ 4))) := nf
theorem Z0ld : stepA E C B 36 Z2R ZVB (φ, H) = stp (some 21) φ H (aCall C (fun j => B + j * 36 + 21) true 89 [(fget φ 20)]) := nf
theorem Z0n8 : stepA E C B 36 Z2R Z00R (φ, H) = some (fput φ 19 (fget φ 21), H) := nf
theorem Z0lr : stepA E C B 36 Z2R Z01B (φ, H) = stp (some 22) φ H (Zy (fget φ 19) 0) := nf
theorem Z0iN : stepA E C B 36 Z2R ZXt (φ, H) = stp (some 23) φ H (Zy (fget φ 19) 1) := nf
theorem Z0ne : stepA E C B 36 Z2R Z02z (φ, H) = some (fput φ 6 (fget φ 22), H) := nf
theorem Z0mH : stepA E C B 36 Z2R Z00l (φ, H) = some (fput φ 7 (fget φ 23), H) := nf
def ZoT := kR Zrm
def ZAC := kL ZoT
def Z1a := kO ZAC
def ZZK := opN Z1a 0
def ZWZ := opN Z1a 1
def ZWT := opN Z1a 2
def Z048 := opN Z1a 3
def ZZZ := opN Z1a 4
def Z03T := opN Z1a 5
def Z03w := opN Z1a 6
def ZWX := opN Z1a 7
def ZZL := opN Z1a 8
def ZZJ := opN Z1a 9
theorem Z0pl : XG 24 36 ZAC Z1a [7, 8, 9, 24, 25, 26, 27, 28, 29, 30] := Zb (by rfl) (by rfl) _
theorem Z0nA : Z1a.toList = [ZZK, ZWZ, ZWT, Z048, ZZZ, Z03T, Z03w, ZWX, ZZL, ZZJ] := nf
theorem Z0iO : stepA E C B 36 Z1a ZZK (φ, H) = stp (some 25) φ H (just (aLoad E.T 109 (fget φ 4))) := nf
theorem Z0l4 : stepA E C B 36 Z1a ZWZ (φ, H) = some (fput φ 26 (fget φ 7), H) := nf
theorem Z0iF : stepA E C B 36 Z1a ZWT (φ, H) = stp (some 27) φ H (aCall C (fun j => B + j * 36 + 27) true 94 [(fget φ 25), (fget φ 26)]) := nf
theorem Z0lS : stepA E C B 36 Z1a Z048 (φ, H) = some (fput φ 24 (fget φ 27), H) := nf
theorem Z0kJ : stepA E C B 36 Z1a ZZZ (φ, H) = stp (some 28) φ H (Zy (fget φ 24) 0) := nf
theorem Z0jt : stepA E C B 36 Z1a Z03T (φ, H) = stp (some 29) φ H (Zy (fget φ 24) 1) := nf
theorem Z0kY : stepA E C B 36 Z1a Z03w (φ, H) = stp (some 30) φ H (Zy (fget φ 24) 2) := nf
theorem Z0k7 : stepA E C B 36 Z1a ZWX (φ, H) = some (fput φ 8 (fget φ 28), H) := nf
theorem Z0lc : stepA E C B 36 Z1a ZZL (φ, H) = some (fput φ 9 (fget φ 29), H) := nf
theorem Z0ji : stepA E C B 36 Z1a ZZJ (φ, H) = some (fput φ 10 (fget φ 30), H) := nf
def Zs8 := kR ZoT
def ZSw := kL Zs8
def Z2P := kO ZSw
def Z01G := opN Z2P 0
def Z038 := opN Z2P 1
def Z05C := opN Z2P 2
def Z05A := opN Z2P 3
def Z017 := opN Z2P 4
def Z01v := opN Z2P 5
def Z03x := opN Z2P 6
theorem Z0pN : XG 24 36 ZSw Z2P [4, 10, 31, 32, 33, 34, 35] := Zb (by rfl) (by rfl) _
theorem Z0n9 : Z2P.toList = [Z01G, Z038, Z05C, Z05A, Z017, Z01v, Z03x] := nf
theorem Z0kt : stepA E C B 36 Z2P Z01G (φ, H) = some (fput φ 31 (fget φ 10), H) := nf
theorem Z0lq : stepA E C B 36 Z2P Z038 (φ, H) = stp (some 32) φ H (just (aLoad E.T 109 (fget φ 4))) := nf
theorem Z0kq : stepA E C B 36 Z2P Z05C (φ, H) = stp (some 33) φ H (aCall C (fun j => B + j * 36 + 33) true 95 [(fget φ 32)]) := nf
theorem Z0jT : stepA E C B 36 Z2P Z05A (φ, H) = stp (some 34) φ H (just (Z5 E.T 36 (fget φ 31) (fget φ 33))) := nf
theorem Z0iv : stepA E C B 36 Z2P Z017 (φ, H) = stp (some 35) φ H (just (aLoad E.T 3 (fget φ 34))) := nf
theorem Z0m7 : stepA E C B 36 Z2P Z01v (φ, H) = some (fput φ 2 (fget φ 35), H) := nf
theorem Z0kP : stepA E C B 36 Z2P Z03x (φ, H) = some (fput φ 3 (.int .i64 0), H) := nf
def Z0bu := kR Zs8
theorem Z0pf : execA E C (fg 24) B 36 E0 N Z0bu s = some (.ret, s) := Z06 (by rfl) s
theorem Z0q1 : XQ 24 36 Zs8 ZSw Z0bu := Z4 (by rfl) _
theorem Z0qp : XQ 24 36 ZoT ZAC Zs8 := Z4 (by rfl) _
theorem Z0qH : XQ 24 36 Zrm ZQ6 ZoT := Z4 (by rfl) _
theorem Z0rB : XQ 24 36 Zzx ZyF Zrm := Z4 (by rfl) _
theorem Z0ro : XQ 24 36 Zz0 Z07F Zzx := Z4 (by rfl) _
theorem Z0qM : XQ 24 36 ZoO Z07c Zz0 := Z4 (by rfl) _
theorem Z0sJ : fInfo E 24 = some ⟨36, #[.tmp 2, .tmp 3], ZoO⟩ := nf
theorem b_24 (args : List AV) : bodyA E C fg N 24 args H B = bodyX E [.tmp 2, .tmp 3] (execA E C (fg 24) B 36 H N ZoO (Zw args 0 [], H)) := Z0a Z0sJ args H
def Zsx := kBody Proofs.Tryd.f36
def Z07p := kL Zsx
def ZaW := kO Z07p
def ZXd := opN ZaW 0
def ZYa := opN ZaW 1
def Z05K := opN ZaW 2
theorem Z0sx : XG 36 55 Z07p ZaW [0, 4, 5] := Zb (by rfl) (by rfl) _
theorem Z0iQ : ZaW.toList = [ZXd, ZYa, Z05K] := nf
theorem Z0kL : stepA E C B 55 ZaW ZXd (φ, H) = stp (some 2) φ H (opBox (B + 2) (acells (fget φ 0))) := nf
theorem Z0hS : stepA E C B 55 ZaW ZYa (φ, H) = some (fput φ 4 (.int .i64 0), H) := nf
theorem Z0hF : stepA E C B 55 ZaW Z05K (φ, H) = some (fput φ 5 (.int .i64 0), H) := nf
def Zza := kR Zsx
def Z06M := kL Zza
def Z2n := kO Z06M
def Z023 := opN Z2n 0
def Z034 := opN Z2n 1
def Z00L := opN Z2n 2
def ZXp := opN Z2n 3
def Z01W := opN Z2n 4
def ZXY := opN Z2n 5
def ZWf := opN Z2n 6
def Z011 := opN Z2n 7
theorem Z0t1 : XG 36 55 Z06M Z2n [2, 11, 12, 13, 14, 15] := Zb (by rfl) (by rfl) _
theorem Z0iE : Z2n.toList = [Z023, Z034, Z00L, ZXp, Z01W, ZXY, ZWf, Z011] := nf
theorem Z0mQ : stepA E C B 55 Z2n Z023 (φ, H) = stp (some 12) φ H (just (aLoad E.T 25 (fget φ 2))) := nf
theorem Z0li : stepA E C B 55 Z2n Z034 (φ, H) = stp (some 13) φ H (aCall C (fun j => B + j * 55 + 13) true 88 [(fget φ 12)]) := nf
theorem Z0ly : stepA E C B 55 Z2n Z00L (φ, H) = some (fput φ 11 (fget φ 13), H) := nf
theorem Z0kI : stepA E C B 55 Z2n ZXp (φ, H) = stp (some 14) φ H (Zy (fget φ 11) 0) := nf
theorem Z0hM : stepA E C B 55 Z2n Z01W (φ, H) = stp (some 15) φ H (Zy (fget φ 11) 1) := nf
theorem Z0jy : stepA E C B 55 Z2n ZXY (φ, H) = stp (some 6) φ H (opBox (B + 6) (zeroCells E.T 109)) := nf
theorem Z0lH : stepA E C B 55 Z2n ZWf (φ, H) = stp none φ H (opStore E.T 109 (fget φ 6) (fget φ 14)) := nf
theorem Z0my : stepA E C B 55 Z2n Z011 (φ, H) = some (fput φ 7 (fget φ 15), H) := nf
def ZzP := kR Zza
def Z074 := kL ZzP
def Zzs := kB Z074
def Z06Z := kL Zzs
def Zbi := kO Z06Z
def ZVU := opN Zbi 0
def ZZ5 := opN Zbi 1
def ZWL := opN Zbi 2
theorem Z0rf : XG 36 55 Z06Z Zbi [17, 18] := Zb (by rfl) (by rfl) _
theorem Z0j8 : Zbi.toList = [ZVU, ZZ5, ZWL] := nf
theorem Z0io : stepA E C B 55 Zbi ZVU (φ, H) = some (fput φ 17 (fget φ 7), H) := nf
theorem Z0ig : stepA E C B 55 Zbi ZZ5 (φ, H) = stp (some 18) φ H (just (aBin E.T .neq 32 (fget φ 17) (.int .i64 0))) := nf
theorem Z0mc : stepA E C B 55 Zbi ZWL (φ, H) = some (fput φ 16 (fget φ 18), H) := nf
def ZzG := kR Zzs
def Zzv := kT ZzG
def ZG2 := kL Zzv
def Zbh := kO ZG2
def Z02u := opN Zbh 0
def Z01o := opN Zbh 1
def ZXN := opN Zbh 2
theorem Z0q7 : XG 36 55 ZG2 Zbh [1, 6, 7, 16, 19] := Zb (by rfl) (by rfl) _
theorem Z0iW : Zbh.toList = [Z02u, Z01o, ZXN] := nf
theorem Z0lz : stepA E C B 55 Zbh Z02u (φ, H) = some (fput φ 19 (fget φ 7), H) := nf
theorem Z0mF : stepA E C B 55 Zbh Z01o (φ, H) = some (fput φ 4 (.int .i64 0), H) := nf
theorem Z0jg : stepA E C B 55 Zbh ZXN (φ, H) = some (fput φ 5 (fget φ 19), H) := nf
def Z08w := kR Zzv
theorem Z0oP : execA E C (fg 36) B 55 E0 N Z08w s = some (.ret, s) := Z06 (by rfl) s
theorem Z0ra : XQ 36 55 Zzv ZG2 Z08w := Z4 (by rfl) _
def ZnG := kE ZzG
def ZO6 := kL ZnG
def Z2Q := kO ZO6
def Z03y := opN Z2Q 0
def ZYz := opN Z2Q 1
def ZiG := opN Z2Q 2
def ZYZ := opN Z2Q 3
def Z03f := opN Z2Q 4
def Z020 := opN Z2Q 5
def Z045 := opN Z2Q 6
theorem Z0pg : XG 36 55 ZO6 Z2Q [7, 16, 21, 22, 23, 24, 25, 26] := Zb (by rfl) (by rfl) _
theorem Z0im : Z2Q.toList = [Z03y, ZYz, ZiG, ZYZ, Z03f, Z020, Z045] := nf
theorem Z0k9 : stepA E C B 55 Z2Q Z03y (φ, H) = some (fput φ 21 (fget φ 1), H) := nf
theorem Z0kT : stepA E C B 55 Z2Q ZYz (φ, H) = stp (some 22) φ H (just (aBin E.T .lss 3 (fget φ 21) (.int .i64 0))) := nf
theorem Z0kf : stepA E C B 55 Z2Q ZiG (φ, H) = some (fput φ 23 (fget φ 22), H) := nf
theorem Z0lD : stepA E C B 55 Z2Q ZYZ (φ, H) = gd φ 23 false (fun φ => some (fput φ 24 (.tup []), H)) (fun φ => some (fput φ 24 (fget φ 1), H)) := s_gd (j := 2) (oj := ZiG) rfl rfl rfl (fun _ => rfl) (fun _ => rfl)
theorem Z0iD : stepA E C B 55 Z2Q Z03f (φ, H) = gd φ 23 false (fun φ => some (fput φ 25 (.tup []), H)) (fun φ => stp (some 25) φ H (just (aBin E.T .gtr 3 (fget φ 24) (.int .i64 54)))) := s_gd (j := 2) (oj := ZiG) rfl rfl rfl (fun _ => rfl) (fun _ => rfl)
theorem Z0nM : stepA E C B 55 Z2Q Z020 (φ, H) = stp (some 26) φ H (opPick (fget φ 23) (.bool true) (fget φ 25)) := nf
theorem Z0nF : stepA E C B 55 Z2Q Z045 (φ, H) = some (fput φ 20 (fget φ 26), H) := nf
def ZsP := kR ZnG
def ZoA := kT ZsP
def ZDm := kL ZoA
def Zhh := kO ZDm
def ZX1 := opN Zhh 0
def ZYK := opN Zhh 1
theorem Z0oI : XG 36 55 ZDm Zhh [1, 6, 20] := Zb (by rfl) (by rfl) _
theorem Z0me : Zhh.toList = [ZX1, ZYK] := nf
theorem Z0k8 : stepA E C B 55 Zhh ZX1 (φ, H) = some (fput φ 4 (.int .i64 0), H) := nf
theorem Z0ng : stepA E C B 55 Zhh ZYK (φ, H) = some (fput φ 5 (.int .i64 1), H) := nf
def Z0ai := kR ZoA
theorem Z0oF : execA E C (fg 36) B 55 E0 N Z0ai s = some (.ret, s) := Z06 (by rfl) s
theorem Z0p5 : XQ 36 55 ZoA ZDm Z0ai := Z4 (by rfl) _
def Z0cI := kE ZsP
theorem Z0pU : execA E C (fg 36) B 55 E0 N Z0cI s = some (.normal, s) := ZV (by rfl) s
theorem Z0pS : XC 36 55 ZsP 20 ZoA Z0cI := ZN (by rfl) _
theorem Z0pI : XQ 36 55 ZnG ZO6 ZsP := Z4 (by rfl) _
theorem Z0rT : XC 36 55 ZzG 16 Zzv ZnG := ZN (by rfl) _
theorem Z0si : XQ 36 55 Zzs Z06Z ZzG := Z4 (by rfl) _
theorem Z0rP : execA E C (fg 36) B 55 E0 N Z074 s = blockX 0 (fun s => (forget s.1 [20], s.2)) (execA E C (fg 36) B 55 E0 N Zzs s) := ZK (by rfl) (by rfl) s
def ZpO := kR ZzP
def ZIy := kL ZpO
def ZzK := kO ZIy
def Z047 := opN ZzK 0
theorem Z0oU : XG 36 55 ZIy ZzK [] := Zb (by rfl) (by rfl) _
theorem Z0lh : ZzK.toList = [Z047] := nf
theorem Z0iA : stepA E C B 55 ZzK Z047 (φ, H) = some (fput φ 8 (.int .i64 0), H) := nf
def ZpX := kR ZpO
def Zpt := kL ZpX
def ZQg := kL Zpt
def Z8W := kO ZQg
def Z037 := opN Z8W 0
def Z04H := opN Z8W 1
def Z03l := opN Z8W 2
def ZYj := opN Z8W 3
theorem Z0nS : XG 36 55 ZQg Z8W [27, 28] := Zb (by rfl) (by rfl) _
theorem Z0j9 : Z8W.toList = [Z037, Z04H, Z03l, ZYj] := nf
theorem Z0kV : stepA E C B 55 Z8W Z037 (φ, H) = stp (some 27) φ H (just (aLoad E.T 109 (fget φ 6))) := nf
theorem Z0jl : stepA E C B 55 Z8W Z04H (φ, H) = stp (some 28) φ H (aCall C (fun j => B + j * 55 + 28) true 95 [(fget φ 27)]) := nf
theorem Z0k2 : stepA E C B 55 Z8W Z03l (φ, H) = stp (some 29) φ H (just (aBin E.T .add 121 (fget φ 28) (.int .u64 1))) := nf
theorem Z0n7 : stepA E C B 55 Z8W ZYj (φ, H) = some (fput φ 30 (.int .u64 0), H) := nf
def ZU9 := kR Zpt
def ZTw := kB ZU9
def Zdx := kB ZTw
def ZRT := kL Zdx
def ZyL := kO ZRT
def ZWH := opN ZyL 0
theorem ZaI : XG 36 55 ZRT ZyL [] := Zb (by rfl) (by rfl) _
theorem Z82 : ZyL.toList = [ZWH] := nf
theorem Z6T : stepA E C B 55 ZyL ZWH (φ, H) = stp (some 31) φ H (just (aBin E.T .lss 121 (fget φ 30) (fget φ 29))) := nf
def ZrD := kR Zdx
def ZnH := kL ZrD
def Z0c5 := kT ZnH
theorem ZaN : execA E C (fg 36) B 55 E0 N Z0c5 s = some (.normal, s) := ZV (by rfl) s
def Z0bi := kE ZnH
theorem Zad : execA E C (fg 36) B 55 E0 N Z0bi s = some (.exit 1, s) := Z0I (by rfl) s
theorem Zav : XC 36 55 ZnH 31 Z0c5 Z0bi := ZN (by rfl) _
def ZpN := kR ZrD
def ZTm := kL ZpN
def ZnQ := kB ZTm
def ZTq := kL ZnQ
def Zb5 := kO ZTq
def Z007 := opN Zb5 0
def Z039 := opN Zb5 1
def ZVk := opN Zb5 2
theorem ZcV : XG 36 55 ZTq Zb5 [31, 32] := Zb (by rfl) (by rfl) _
theorem Z9Y : Zb5.toList = [Z007, Z039, ZVk] := nf
theorem Z9W : stepA E C B 55 Zb5 Z007 (φ, H) = some (fput φ 32 (fget φ 30), H) := nf
theorem Z9Z : stepA E C B 55 Zb5 Z039 (φ, H) = stp (some 9) φ H (opBox (B + 9) (zeroCells E.T 121)) := nf
theorem Za0 : stepA E C B 55 Zb5 ZVk (φ, H) = stp none φ H (opStore E.T 121 (fget φ 9) (fget φ 32)) := nf
def Zqu := kR ZnQ
def ZPo := kL Zqu
def Z0y := kO ZPo
def ZIN := opN Z0y 0
def ZSt := opN Z0y 1
def ZUG := opN Z0y 2
def ZAv := opN Z0y 3
def ZFi := opN Z0y 4
def ZGZ := opN Z0y 5
def ZF6 := opN Z0y 6
def ZEG := opN Z0y 7
def ZAI := opN Z0y 8
theorem ZdB : XD 36 55 ZPo Z0y [33, 34, 35, 36, 37, 38, 39, 40] := Z0Z (by rfl) (by rfl) _
theorem Z7Q : Z0y.toList = [ZIN, ZSt, ZUG, ZAv, ZFi, ZGZ, ZF6, ZEG, ZAI] := nf
theorem Z0cl : statOk Z0y = true := by kernel_rfl
theorem Z5C : drawA E C B 55 Z0y s = if neat 55 s = true then drX Z0y (runT E C B 55 Z0y Z0y.toList 0 s) else none := Z0J Z0cl s
theorem Z5O (l : List (Nat × Tr)) : dynOk Z0y l = (!writing l || Zs [[], [0], [], [0, 1, 2], [0, 1, 2, 3], [], [0, 1, 2, 3, 4, 5], [0, 1, 2, 3, 4, 5, 6], [0, 1, 2, 3, 4, 5, 6, 7]] (Zq l)) := Z0t (by kernel_rfl) l
theorem Z6O : stepT E C B 55 Z0y ZIN (φ, H) = stpT (some 33) φ H (just (aLoad E.T 109 (fget φ 6))) := Z9 rfl (Zj rfl rfl)
theorem Z7v : stepT E C B 55 Z0y ZSt (φ, H) = stpT (some 34) φ H (aCall C (fun j => B + j * 55 + 34) true 95 [(fget φ 33)]) := Z9 rfl (Zj rfl rfl)
theorem Z8s : stepT E C B 55 Z0y ZUG (φ, H) = stpT (some 35) φ H (just (aLoad E.T 121 (fget φ 9))) := Z9 rfl (Zj rfl rfl)
theorem Z74 : stepT E C B 55 Z0y ZAv (φ, H) = stpT (some 36) φ H (just (aBin E.T .andNot 121 (fget φ 34) (fget φ 35))) := Z9 rfl (Zj rfl rfl)
theorem Z7x : stepT E C B 55 Z0y ZFi (φ, H) = stpT (some 37) φ H (aCall C (fun j => B + j * 55 + 37) true 97 [(fget φ 36)]) := Z9 rfl (Zj rfl rfl)
theorem Z8K : stepT E C B 55 Z0y ZGZ (φ, H) = stpT (some 38) φ H (.pure (.clo 108 [(fget φ 6), (fget φ 9)], [])) := Z9 rfl (Zj rfl rfl)
theorem Z76 : stepT E C B 55 Z0y ZF6 (φ, H) = stpT (some 39) φ H (aCall C (fun j => B + j * 55 + 39) true 56 [(fget φ 37), (fget φ 38)]) := Z9 rfl (Zj rfl rfl)
theorem Z6A : stepT E C B 55 Z0y ZEG (φ, H) = stpT (some 40) φ H (justO (aUn .not (fget φ 39))) := Z9 rfl (Zj rfl rfl)
theorem Z6t : stepT E C B 55 Z0y ZAI (φ, H) = some ((fput φ 10 (fget φ 40), H), ⟨false, [], []⟩) := Z9 rfl (ZS rfl rfl)
def ZnE := kR Zqu
def ZHR := kL ZnE
def Z1e := kO ZHR
def ZSP := opN Z1e 0
def Z5u := opN Z1e 1
def ZFS := opN Z1e 2
def ZUq := opN Z1e 3
def ZEM := opN Z1e 4
def ZKI := opN Z1e 5
def ZJB := opN Z1e 6
def ZFo := opN Z1e 7
theorem ZdD : XG 36 55 ZHR Z1e [10, 41, 42, 43, 44, 45, 46, 47] := Zb (by rfl) (by rfl) _
theorem Z6K : Z1e.toList = [ZSP, Z5u, ZFS, ZUq, ZEM, ZKI, ZJB, ZFo] := nf
theorem Z7b : stepA E C B 55 Z1e ZSP (φ, H) = some (fput φ 41 (fget φ 10), H) := nf
theorem Z8n : stepA E C B 55 Z1e Z5u (φ, H) = some (fput φ 42 (fget φ 41), H) := nf
theorem Z8D : stepA E C B 55 Z1e ZFS (φ, H) = gd φ 42 true (fun φ => some (fput φ 43 (.tup []), H)) (fun φ => stp (some 43) φ H (just (aLoad E.T 109 (fget φ 6)))) := s_gd (j := 1) (oj := Z5u) rfl rfl rfl (fun _ => rfl) (fun _ => rfl)
theorem Z8k : stepA E C B 55 Z1e ZUq (φ, H) = gd φ 42 true (fun φ => some (fput φ 44 (.tup []), H)) (fun φ => stp (some 44) φ H (just (aLoad E.T 121 (fget φ 9)))) := s_gd (j := 1) (oj := Z5u) rfl rfl rfl (fun _ => rfl) (fun _ => rfl)
theorem Z7P : stepA E C B 55 Z1e ZEM (φ, H) = gd φ 42 true (fun φ => some (fput φ 45 (.tup []), H)) (fun φ => stp (some 45) φ H (aCall C (fun j => B + j * 55 + 45) true 100 [(fget φ 43), (fget φ 44)])) := s_gd (j := 1) (oj := Z5u) rfl rfl rfl (fun _ => rfl) (fun _ => rfl)
theorem Z7z : stepA E C B 55 Z1e ZKI (φ, H) = gd φ 42 true (fun φ => some (fput φ 46 (.tup []), H)) (fun φ => some (fput φ 46 (fget φ 1), H)) := s_gd (j := 1) (oj := Z5u) rfl rfl rfl (fun _ => rfl) (fun _ => rfl)
theorem Z6H : stepA E C B 55 Z1e ZJB (φ, H) = gd φ 42 true (fun φ => some (fput φ 47 (.tup []), H)) (fun φ => stp (some 47) φ H (just (aBin E.T .leq 3 (fget φ 45) (fget φ 46)))) := s_gd (j := 1) (oj := Z5u) rfl rfl rfl (fun _ => rfl) (fun _ => rfl)
theorem Z6n : stepA E C B 55 Z1e ZFo (φ, H) = stp (some 48) φ H (opPick (fget φ 42) (fget φ 47) (.bool false)) := nf
def Znp := kR ZnE
def ZPh := kT Znp
def Z3W := kO ZPh
def ZBJ := opN Z3W 0
def ZA9 := opN Z3W 1
def ZNU := opN Z3W 2
def ZMJ := opN Z3W 3
def ZCU := opN Z3W 4
theorem Zc6 : XG 36 55 ZPh Z3W [9, 48, 49, 50, 51, 52] := Zb (by rfl) (by rfl) _
theorem Z75 : Z3W.toList = [ZBJ, ZA9, ZNU, ZMJ, ZCU] := nf
theorem Z6u : stepA E C B 55 Z3W ZBJ (φ, H) = some (fput φ 49 (fget φ 8), H) := nf
theorem Z7V : stepA E C B 55 Z3W ZA9 (φ, H) = stp (some 50) φ H (just (aLoad E.T 121 (fget φ 9))) := nf
theorem Z7i : stepA E C B 55 Z3W ZNU (φ, H) = stp (some 51) φ H (aCall C (fun j => B + j * 55 + 51) true 109 [(fget φ 50)]) := nf
theorem ZNI : stepA E C B 55 Z3W ZMJ (φ, H) = stp (some 52) φ H (Zh E.T (B + 52) .max #[3, 3] [(fget φ 49), (fget φ 51)]) := nf
theorem ZJI : stepA E C B 55 Z3W ZCU (φ, H) = some (fput φ 8 (fget φ 52), H) := nf
def Z0cj := kE Znp
theorem ZbY : execA E C (fg 36) B 55 E0 N Z0cj s = some (.normal, s) := ZV (by rfl) s
theorem Zdy : XC 36 55 Znp 48 ZPh Z0cj := ZN (by rfl) _
theorem Zdh : XQ 36 55 ZnE ZHR Znp := Z4 (by rfl) _
theorem ZcJ : XQ 36 55 Zqu ZPo ZnE := Z4 (by rfl) _
theorem ZcA : XQ 36 55 ZnQ ZTq Zqu := Z4 (by rfl) _
theorem Zcf : execA E C (fg 36) B 55 E0 N ZTm s = blockX 2 (fun s => (forget s.1 [9, 48], s.2)) (execA E C (fg 36) B 55 E0 N ZnQ s) := ZK (by rfl) (by rfl) s
def ZQW := kR ZpN
def ZdG := kO ZQW
def ZCT := opN ZdG 0
def ZHl := opN ZdG 1
theorem ZdA : XG 36 55 ZQW ZdG [53] := Zb (by rfl) (by rfl) _
theorem Z6r : ZdG.toList = [ZCT, ZHl] := nf
theorem Z8e : stepA E C B 55 ZdG ZCT (φ, H) = stp (some 53) φ H (just (aBin E.T .add 121 (fget φ 30) (.int .u64 1))) := nf
theorem Z79 : stepA E C B 55 ZdG ZHl (φ, H) = some (fput φ 30 (fget φ 53), H) := nf
theorem Zcl : XQ 36 55 ZpN ZTm ZQW := Z4 (by rfl) _
theorem Zar : XQ 36 55 ZrD ZnH ZpN := Z4 (by rfl) _
theorem Zap : XQ 36 55 Zdx ZRT ZrD := Z4 (by rfl) _
theorem Z0pC : execA E C (fg 36) B 55 E0 N ZTw s = iterA (execA E C (fg 36) B 55 E0 N Zdx) (headA E0) N s := Z0H (by rfl) s
theorem Z0oz : execA E C (fg 36) B 55 E0 N ZU9 s = blockX 1 (fun s => (forget s.1 [1, 6, 29, 30, 31], s.2)) (execA E C (fg 36) B 55 E0 N ZTw s) := ZK (by rfl) (by rfl) s
theorem Z0oA : XQ 36 55 Zpt ZQg ZU9 := Z4 (by rfl) _
def ZoC := kR ZpX
def ZIj := kL ZoC
def Z96 := kO ZIj
def ZN4 := opN Z96 0
def ZQx := opN Z96 1
def ZM2 := opN Z96 2
theorem Z0oc : XG 36 55 ZIj Z96 [8, 54] := Zb (by rfl) (by rfl) _
theorem Z0eW : Z96.toList = [ZN4, ZQx, ZM2] := nf
theorem Z0fO : stepA E C B 55 Z96 ZN4 (φ, H) = some (fput φ 54 (fget φ 8), H) := nf
theorem Z0eJ : stepA E C B 55 Z96 ZQx (φ, H) = some (fput φ 4 (fget φ 54), H) := nf
theorem Z0h5 : stepA E C B 55 Z96 ZM2 (φ, H) = some (fput φ 5 (.int .i64 0), H) := nf
def Z08u := kR ZoC
theorem Z0o7 : execA E C (fg 36) B 55 E0 N Z08u s = some (.ret, s) := Z06 (by rfl) s
theorem Z0py : XQ 36 55 ZoC ZIj Z08u := Z4 (by rfl) _
theorem Z0q6 : XQ 36 55 ZpX Zpt ZoC := Z4 (by rfl) _
theorem Z0pH : XQ 36 55 ZpO ZIy ZpX := Z4 (by rfl) _
theorem Z0rE : XQ 36 55 ZzP Z074 ZpO := Z4 (by rfl) _
theorem Z0qS : XQ 36 55 Zza Z06M ZzP := Z4 (by rfl) _
theorem Z0sX : XQ 36 55 Zsx Z07p Zza := Z4 (by rfl) _
theorem Z0sH : fInfo E 36 = some ⟨55, #[.tmp 4, .tmp 5], Zsx⟩ := nf
theorem b_36 (args : List AV) : bodyA E C fg N 36 args H B = bodyX E [.tmp 4, .tmp 5] (execA E C (fg 36) B 55 H N Zsx (Zw args 0 [], H)) := Z0a Z0sH args H
def ZgS := kBody Proofs.Tryd.f108
def ZQF := kL ZgS
def Zsa := kO ZQF
def ZOd := opN Zsa 0
theorem Z0ph : XG 108 13 ZQF Zsa [4] := Zb (by rfl) (by rfl) _
theorem Z0de : Zsa.toList = [ZOd] := nf
theorem Z0fQ : stepA E C B 13 Zsa ZOd (φ, H) = some (fput φ 4 (.bool false), H) := nf
def Zo9 := kR ZgS
def ZSs := kL Zo9
def Z0w := kO ZSs
def ZA5 := opN Z0w 0
def ZIT := opN Z0w 1
def ZJE := opN Z0w 2
def ZP0 := opN Z0w 3
def ZMK := opN Z0w 4
def ZEn := opN Z0w 5
def ZS2 := opN Z0w 6
def ZIz := opN Z0w 7
def ZKd := opN Z0w 8
theorem Z0pO : XD 108 13 ZSs Z0w [0, 1, 2, 5, 6, 7, 8, 9, 10, 11, 12] := Z0Z (by rfl) (by rfl) _
theorem Z0fw : Z0w.toList = [ZA5, ZIT, ZJE, ZP0, ZMK, ZEn, ZS2, ZIz, ZKd] := nf
theorem Z0cr : statOk Z0w = true := by kernel_rfl
theorem Z0cg : drawA E C B 13 Z0w s = if neat 13 s = true then drX Z0w (runT E C B 13 Z0w Z0w.toList 0 s) else none := Z0J Z0cr s
theorem Z0bP (l : List (Nat × Tr)) : dynOk Z0w l = (!writing l || Zs [[], [0], [], [0, 1, 2], [0, 1, 2, 3], [], [0, 1, 2, 3, 4, 5], [0, 1, 2, 3, 4, 5, 6], [0, 1, 2, 3, 4, 5, 6, 7]] (Zq l)) := Z0t (by kernel_rfl) l
theorem Z0fM : stepT E C B 13 Z0w ZA5 (φ, H) = stpT (some 5) φ H (just (Ze E.T 109 (fget φ 1) 1)) := Z9 rfl (Zj rfl rfl)
theorem Z0fC : stepT E C B 13 Z0w ZIT (φ, H) = stpT (some 6) φ H (just (aLoad E.T 107 (fget φ 5))) := Z9 rfl (Zj rfl rfl)
theorem Z0ft : stepT E C B 13 Z0w ZJE (φ, H) = some ((fput φ 7 (fget φ 0), H), ⟨false, [], []⟩) := Z9 rfl (ZS rfl rfl)
theorem Z0fn : stepT E C B 13 Z0w ZP0 (φ, H) = stpT (some 8) φ H (just (Z5 E.T 107 (fget φ 6) (fget φ 7))) := Z9 rfl (Zj rfl rfl)
theorem Z0dX : stepT E C B 13 Z0w ZMK (φ, H) = stpT (some 9) φ H (just (aLoad E.T 121 (fget φ 8))) := Z9 rfl (Zj rfl rfl)
theorem Z0h2 : stepT E C B 13 Z0w ZEn (φ, H) = stpT (some 10) φ H (just (aLoad E.T 121 (fget φ 2))) := Z9 rfl (Zj rfl rfl)
theorem Z0d6 : stepT E C B 13 Z0w ZS2 (φ, H) = stpT (some 11) φ H (just (aBin E.T .and 121 (fget φ 9) (fget φ 10))) := Z9 rfl (Zj rfl rfl)
theorem Z0eq : stepT E C B 13 Z0w ZIz (φ, H) = stpT (some 12) φ H (just (aBin E.T .neq 121 (fget φ 11) (.int .u64 0))) := Z9 rfl (Zj rfl rfl)
theorem Z0gW : stepT E C B 13 Z0w ZKd (φ, H) = some ((fput φ 4 (fget φ 12), H), ⟨false, [], []⟩) := Z9 rfl (ZS rfl rfl)
def Z08h := kR Zo9
theorem Z0pX : execA E C (fg 108) B 13 E0 N Z08h s = some (.ret, s) := Z06 (by rfl) s
theorem Z0pr : XQ 108 13 Zo9 ZSs Z08h := Z4 (by rfl) _
theorem Z0qd : XQ 108 13 ZgS ZQF Zo9 := Z4 (by rfl) _
theorem Z08e : fInfo E 108 = some ⟨13, #[.tmp 4], ZgS⟩ := nf
theorem Z0sW (args : List AV) : bodyA E C fg N 108 args H B = bodyX E [.tmp 4] (execA E C (fg 108) B 13 H N ZgS (Zw args 0 [], H)) := Z0a Z08e args H
def Zrg := kBody Proofs.Tryd.f38
def Z07R := kL Zrg
def ZbI := kO Z07R
def ZW9 := opN ZbI 0
def Z02K := opN ZbI 1
def Z05u := opN ZbI 2
theorem Z0qW : XG 38 62 Z07R ZbI [0, 4, 5] := Zb (by rfl) (by rfl) _
theorem Z0l7 : ZbI.toList = [ZW9, Z02K, Z05u] := nf
theorem Z0hV : stepA E C B 62 ZbI ZW9 (φ, H) = stp (some 2) φ H (opBox (B + 2) (acells (fget φ 0))) := nf
theorem Z0nx : stepA E C B 62 ZbI Z02K (φ, H) = some (fput φ 4 (.nilsl), H) := nf
theorem Z0kb : stepA E C B 62 ZbI Z05u (φ, H) = some (fput φ 5 (.int .i64 0), H) := nf
def ZzB := kR Zrg
def Z06R := kL ZzB
def Z2m := kO Z06R
def Z01L := opN Z2m 0
def Z05e := opN Z2m 1
def ZVL := opN Z2m 2
def Z00w := opN Z2m 3
def ZWR := opN Z2m 4
def Z05R := opN Z2m 5
def ZXC := opN Z2m 6
def ZZB := opN Z2m 7
theorem Z0t3 : XG 38 62 Z06R Z2m [2, 11, 12, 13, 14, 15] := Zb (by rfl) (by rfl) _
theorem Z0i2 : Z2m.toList = [Z01L, Z05e, ZVL, Z00w, ZWR, Z05R, ZXC, ZZB] := nf
theorem Z0ki : stepA E C B 62 Z2m Z01L (φ, H) = stp (some 12) φ H (just (aLoad E.T 25 (fget φ 2))) := nf
theorem Z0nq : stepA E C B 62 Z2m Z05e (φ, H) = stp (some 13) φ H (aCall C (fun j => B + j * 62 + 13) true 88 [(fget φ 12)]) := nf
theorem Z0k4 : stepA E C B 62 Z2m ZVL (φ, H) = some (fput φ 11 (fget φ 13), H) := nf
theorem Z0n2 : stepA E C B 62 Z2m Z00w (φ, H) = stp (some 14) φ H (Zy (fget φ 11) 0) := nf
theorem Z0mh : stepA E C B 62 Z2m ZWR (φ, H) = stp (some 15) φ H (Zy (fget φ 11) 1) := nf
theorem Z0nK : stepA E C B 62 Z2m Z05R (φ, H) = stp (some 6) φ H (opBox (B + 6) (zeroCells E.T 109)) := nf
theorem Z0il : stepA E C B 62 Z2m ZXC (φ, H) = stp none φ H (opStore E.T 109 (fget φ 6) (fget φ 14)) := nf
theorem Z0lm : stepA E C B 62 Z2m ZZB (φ, H) = some (fput φ 7 (fget φ 15), H) := nf
def ZzL := kR ZzB
def Z062 := kL ZzL
def Zzf := kB Z062
def Z06P := kL Zzf
def ZbP := kO Z06P
def ZZH := opN ZbP 0
def Z050 := opN ZbP 1
def Z05V := opN ZbP 2
theorem Z0rb : XG 38 62 Z06P ZbP [17, 18] := Zb (by rfl) (by rfl) _
theorem Z0j4 : ZbP.toList = [ZZH, Z050, Z05V] := nf
theorem Z0kN : stepA E C B 62 ZbP ZZH (φ, H) = some (fput φ 17 (fget φ 7), H) := nf
theorem Z0k3 : stepA E C B 62 ZbP Z050 (φ, H) = stp (some 18) φ H (just (aBin E.T .neq 32 (fget φ 17) (.int .i64 0))) := nf
theorem Z0hG : stepA E C B 62 ZbP Z05V (φ, H) = some (fput φ 16 (fget φ 18), H) := nf
def ZyH := kR Zzf
def ZyN := kT ZyH
def ZRR := kL ZyN
def ZbL := kO ZRR
def ZZv := opN ZbL 0
def Z02T := opN ZbL 1
def Z05k := opN ZbL 2
theorem Z0qr : XG 38 62 ZRR ZbL [1, 6, 7, 16, 19] := Zb (by rfl) (by rfl) _
theorem Z0lY : ZbL.toList = [ZZv, Z02T, Z05k] := nf
theorem Z0l5 : stepA E C B 62 ZbL ZZv (φ, H) = some (fput φ 19 (fget φ 7), H) := nf
theorem Z0hO : stepA E C B 62 ZbL Z02T (φ, H) = some (fput φ 4 (.nilsl), H) := nf
theorem Z0km : stepA E C B 62 ZbL Z05k (φ, H) = some (fput φ 5 (fget φ 19), H) := nf
def Z0aG := kR ZyN
theorem Z0qE : execA E C (fg 38) B 62 E0 N Z0aG s = some (.ret, s) := Z06 (by rfl) s
theorem Z0qX : XQ 38 62 ZyN ZRR Z0aG := Z4 (by rfl) _
def ZoR := kE ZyH
def ZUH := kL ZoR
def Zbm := kO ZUH
def ZWw := opN Zbm 0
def ZVs := opN Zbm 1
def Z04b := opN Zbm 2
theorem Z0qm : XG 38 62 ZUH Zbm [7, 16, 21, 22] := Zb (by rfl) (by rfl) _
theorem Z0lv : Zbm.toList = [ZWw, ZVs, Z04b] := nf
theorem Z0nI : stepA E C B 62 Zbm ZWw (φ, H) = some (fput φ 21 (fget φ 1), H) := nf
theorem Z0i4 : stepA E C B 62 Zbm ZVs (φ, H) = stp (some 22) φ H (just (aBin E.T .lss 3 (fget φ 21) (.int .i64 0))) := nf
theorem Z0iL : stepA E C B 62 Zbm Z04b (φ, H) = some (fput φ 20 (fget φ 22), H) := nf
def Zrf := kR ZoR
def Zpp := kT Zrf
def ZBu := kL Zpp
def Zhp := kO ZBu
def Z03s := opN Zhp 0
def ZYB := opN Zhp 1
theorem Z0ov : XG 38 62 ZBu Zhp [1, 6, 20] := Zb (by rfl) (by rfl) _
theorem Z0l6 : Zhp.toList = [Z03s, ZYB] := nf
theorem Z0mg : stepA E C B 62 Zhp Z03s (φ, H) = some (fput φ 4 (.nilsl), H) := nf
theorem Z0nP : stepA E C B 62 Zhp ZYB (φ, H) = some (fput φ 5 (.int .i64 1), H) := nf
def Z0aP := kR Zpp
theorem Z0oe : execA E C (fg 38) B 62 E0 N Z0aP s = some (.ret, s) := Z06 (by rfl) s
theorem Z0p8 : XQ 38 62 Zpp ZBu Z0aP := Z4 (by rfl) _
def Z0bU := kE Zrf
theorem Z0oN : execA E C (fg 38) B 62 E0 N Z0bU s = some (.normal, s) := ZV (by rfl) s
theorem Z0oC : XC 38 62 Zrf 20 Zpp Z0bU := ZN (by rfl) _
theorem Z0pa : XQ 38 62 ZoR ZUH Zrf := Z4 (by rfl) _
theorem Z0st : XC 38 62 ZyH 16 ZyN ZoR := ZN (by rfl) _
theorem Z0rz : XQ 38 62 Zzf Z06P ZyH := Z4 (by rfl) _
theorem Z0s6 : execA E C (fg 38) B 62 E0 N Z062 s = blockX 0 (fun s => (forget s.1 [20], s.2)) (execA E C (fg 38) B 62 E0 N Zzf s) := ZK (by rfl) (by rfl) s
def ZrJ := kR ZzL
def ZT1 := kL ZrJ
def Zzz := kO ZT1
def Z054 := opN Zzz 0
theorem Z0pY : XG 38 62 ZT1 Zzz [] := Zb (by rfl) (by rfl) _
theorem Z0ij : Zzz.toList = [Z054] := nf
theorem Z0hN : stepA E C B 62 Zzz Z054 (φ, H) = some (fput φ 8 (.nilsl), H) := nf
def Zrz := kR ZrJ
def Znl := kL Zrz
def ZOc := kL Znl
def Z8X := kO ZOc
def Z00H := opN Z8X 0
def ZWa := opN Z8X 1
def Z03L := opN Z8X 2
def Z03B := opN Z8X 3
theorem Z0oH : XG 38 62 ZOc Z8X [6, 23] := Zb (by rfl) (by rfl) _
theorem Z0lR : Z8X.toList = [Z00H, ZWa, Z03L, Z03B] := nf
theorem Z0jc : stepA E C B 62 Z8X Z00H (φ, H) = stp (some 23) φ H (just (Ze E.T 109 (fget φ 6) 0)) := nf
theorem Z0l8 : stepA E C B 62 Z8X ZWa (φ, H) = stp (some 24) φ H (just (aLoad E.T 106 (fget φ 23))) := nf
theorem Z0jr : stepA E C B 62 Z8X Z03L (φ, H) = stp (some 25) φ H (Zh E.T (B + 25) .len #[106] [(fget φ 24)]) := nf
theorem Z0mT : stepA E C B 62 Z8X Z03B (φ, H) = some (fput φ 26 (.int .i64 0), H) := nf
def ZL2 := kR Znl
def ZGw := kB ZL2
def Z6c := kB ZGw
def ZMI := kL Z6c
def Zzt := kO ZMI
def ZWz := opN Zzt 0
theorem Z34 : XG 38 62 ZMI Zzt [] := Zb (by rfl) (by rfl) _
theorem Z2g : Zzt.toList = [ZWz] := nf
theorem Z2f : stepA E C B 62 Zzt ZWz (φ, H) = stp (some 27) φ H (just (aBin E.T .lss 3 (fget φ 26) (fget φ 25))) := nf
def Znh := kR Z6c
def ZoZ := kL Znh
def Z08o := kT ZoZ
theorem Z2Y : execA E C (fg 38) B 62 E0 N Z08o s = some (.normal, s) := ZV (by rfl) s
def Z08q := kE ZoZ
theorem Z2W : execA E C (fg 38) B 62 E0 N Z08q s = some (.exit 1, s) := Z0I (by rfl) s
theorem Z2X : XC 38 62 ZoZ 27 Z08o Z08q := ZN (by rfl) _
def ZsJ := kR Znh
def ZTB := kL ZsJ
def ZoF := kB ZTB
def ZHc := kL ZoF
def Z8L := kO ZHc
def ZWl := opN Z8L 0
def ZVS := opN Z8L 1
def ZXi := opN Z8L 2
def ZVZ := opN Z8L 3
theorem Z3K : XG 38 62 ZHc Z8L [27, 28, 29] := Zb (by rfl) (by rfl) _
theorem Z2r : Z8L.toList = [ZWl, ZVS, ZXi, ZVZ] := nf
theorem Z2w : stepA E C B 62 Z8L ZWl (φ, H) = stp (some 28) φ H (just (Z5 E.T 106 (fget φ 24) (fget φ 26))) := nf
theorem Z2u : stepA E C B 62 Z8L ZVS (φ, H) = stp (some 29) φ H (just (aLoad E.T 126 (fget φ 28))) := nf
theorem Z2v : stepA E C B 62 Z8L ZXi (φ, H) = stp (some 10) φ H (opBox (B + 10) (zeroCells E.T 126)) := nf
theorem Z2t : stepA E C B 62 Z8L ZVZ (φ, H) = stp none φ H (opStore E.T 126 (fget φ 10) (fget φ 29)) := nf
def ZQ3 := kR ZoF
def ZoI := kB ZQ3
def ZFU := kL ZoI
def Z3X := kO ZFU
def ZHb := opN Z3X 0
def ZGD := opN Z3X 1
def ZPI := opN Z3X 2
def ZH7 := opN Z3X 3
def ZQO := opN Z3X 4
theorem Z3w : XG 38 62 ZFU Z3X [46, 47, 48, 49] := Zb (by rfl) (by rfl) _
theorem Z1t : Z3X.toList = [ZHb, ZGD, ZPI, ZH7, ZQO] := nf
theorem Z1q : stepA E C B 62 Z3X ZHb (φ, H) = stp (some 46) φ H (just (Z5 E.T 126 (fget φ 10) (.int .i64 4))) := nf
theorem Z1I : stepA E C B 62 Z3X ZGD (φ, H) = stp (some 47) φ H (just (aLoad E.T 3 (fget φ 46))) := nf
theorem Z1S : stepA E C B 62 Z3X ZPI (φ, H) = some (fput φ 48 (fget φ 1), H) := nf
theorem Z1A : stepA E C B 62 Z3X ZH7 (φ, H) = stp (some 49) φ H (just (aBin E.T .gtr 3 (fget φ 47) (fget φ 48))) := nf
theorem Z1N : stepA E C B 62 Z3X ZQO (φ, H) = some (fput φ 45 (fget φ 49), H) := nf
def Zro := kR ZoI
def ZDj := kT Zro
def Z5e := kO ZDj
def ZI6 := opN Z5e 0
def ZE9 := opN Z5e 1
def ZDP := opN Z5e 2
def ZGW := opN Z5e 3
theorem Z3C : XG 38 62 ZDj Z5e [10, 45, 50, 51, 52] := Zb (by rfl) (by rfl) _
theorem Z1Z : Z5e.toList = [ZI6, ZE9, ZDP, ZGW] := nf
theorem Z1V : stepA E C B 62 Z5e ZI6 (φ, H) = some (fput φ 50 (fget φ 8), H) := nf
theorem Z1B : stepA E C B 62 Z5e ZE9 (φ, H) = stp (some 51) φ H (ZB E.T (B + 51) 36 1 (evO E φ) [(0, Operand.const (Value.int .i64 (-1)))]) := nf
theorem Z1F : stepA E C B 62 Z5e ZDP (φ, H) = stp (some 52) φ H (Zh E.T (B + 52) .append #[36, 36] [(fget φ 50), (fget φ 51)]) := nf
theorem Z1R : stepA E C B 62 Z5e ZGW (φ, H) = some (fput φ 8 (fget φ 52), H) := nf
def ZqT := kE Zro
def ZE5 := kL ZqT
def Z5a := kO ZE5
def ZSQ := opN Z5a 0
def ZNk := opN Z5a 1
def ZPx := opN Z5a 2
def ZUz := opN Z5a 3
theorem Z3O : XG 38 62 ZE5 Z5a [45, 54, 55, 56] := Zb (by rfl) (by rfl) _
theorem Z1M : Z5a.toList = [ZSQ, ZNk, ZPx, ZUz] := nf
theorem Z1w : stepA E C B 62 Z5a ZSQ (φ, H) = stp (some 54) φ H (just (Z5 E.T 126 (fget φ 10) (.int .i64 3))) := nf
theorem Z1J : stepA E C B 62 Z5a ZNk (φ, H) = stp (some 55) φ H (just (aLoad E.T 3 (fget φ 54))) := nf
theorem Z1K : stepA E C B 62 Z5a ZPx (φ, H) = stp (some 56) φ H (just (aBin E.T .eql 3 (fget φ 55) (.int .i64 0))) := nf
theorem Z1U : stepA E C B 62 Z5a ZUz (φ, H) = some (fput φ 53 (fget φ 56), H) := nf
def Zrw := kR ZqT
def ZMC := kT Zrw
def Z5h := kO ZMC
def ZCY := opN Z5h 0
def ZFl := opN Z5h 1
def ZP4 := opN Z5h 2
def ZEc := opN Z5h 3
theorem Z3S : XG 38 62 ZMC Z5h [10, 53, 57, 58, 59] := Zb (by rfl) (by rfl) _
theorem Z1P : Z5h.toList = [ZCY, ZFl, ZP4, ZEc] := nf
theorem Z1H : stepA E C B 62 Z5h ZCY (φ, H) = some (fput φ 57 (fget φ 8), H) := nf
theorem Z1u : stepA E C B 62 Z5h ZFl (φ, H) = stp (some 58) φ H (ZB E.T (B + 58) 36 1 (evO E φ) [(0, Operand.const (Value.int .i64 54))]) := nf
theorem Z1s : stepA E C B 62 Z5h ZP4 (φ, H) = stp (some 59) φ H (Zh E.T (B + 59) .append #[36, 36] [(fget φ 57), (fget φ 58)]) := nf
theorem Z20 : stepA E C B 62 Z5h ZEc (φ, H) = some (fput φ 8 (fget φ 59), H) := nf
def ZFB := kE Zrw
def Z05 := kO ZFB
def ZTC := opN Z05 0
def ZBS := opN Z05 1
def ZJ7 := opN Z05 2
def ZGT := opN Z05 3
def ZSv := opN Z05 4
def ZSS := opN Z05 5
def ZDa := opN Z05 6
def ZA7 := opN Z05 7
def ZTJ := opN Z05 8
def ZBI := opN Z05 9
def Zxk := opN Z05 10
def Zx1 := opN Z05 11
def Zx3 := opN Z05 12
def ZwE := opN Z05 13
def Zxy := opN Z05 14
def Zyl := opN Z05 15
theorem Z3Q : XD 38 62 ZFB Z05 [10, 30, 31, 32, 33, 34, 35, 36, 37, 38, 39, 40, 41, 42, 43, 44, 53] := Z0Z (by rfl) (by rfl) _
theorem Z1Q : Z05.toList = [ZTC, ZBS, ZJ7, ZGT, ZSv, ZSS, ZDa, ZA7, ZTJ, ZBI, Zxk, Zx1, Zx3, ZwE, Zxy, Zyl] := nf
theorem Z089 : statOk Z05 = true := by kernel_rfl
theorem Z16 : drawA E C B 62 Z05 s = if neat 62 s = true then drX Z05 (runT E C B 62 Z05 Z05.toList 0 s) else none := Z0J Z089 s
theorem Zbd (l : List (Nat × Tr)) : dynOk Z05 l = (!writing l || Zs [[], [], [1], [], [], [4], [3, 4, 5], [3, 4, 5, 6], [], [8], [3, 4, 5, 6, 7, 8, 9], [1, 2, 3, 4, 5, 6, 7, 8, 9, 10], [1, 2, 3, 4, 5, 6, 7, 8, 9, 10, 11], [1, 2, 3, 4, 5, 6, 7, 8, 9, 10, 11, 12], [0, 1, 2, 3, 4, 5, 6, 7, 8, 9, 10, 11, 12, 13], [0, 1, 2, 3, 4, 5, 6, 7, 8, 9, 10, 11, 12, 13, 14]] (Zq l)) := Z0t (by kernel_rfl) l
theorem Z1v : stepT E C B 62 Z05 ZTC (φ, H) = some ((fput φ 30 (fget φ 8), H), ⟨false, [], []⟩) := Z9 rfl (ZS rfl rfl)
theorem Z1D : stepT E C B 62 Z05 ZBS (φ, H) = stpT (some 31) φ H (just (Z5 E.T 126 (fget φ 10) (.int .i64 2))) := Z9 rfl (Zj rfl rfl)
theorem Z1z : stepT E C B 62 Z05 ZJ7 (φ, H) = stpT (some 32) φ H (just (aLoad E.T 3 (fget φ 31))) := Z9 rfl (Zj rfl rfl)
theorem Z1E : stepT E C B 62 Z05 ZGT (φ, H) = some ((fput φ 33 (fget φ 1), H), ⟨false, [], []⟩) := Z9 rfl (ZS rfl rfl)
theorem Z1W : stepT E C B 62 Z05 ZSv (φ, H) = stpT (some 34) φ H (just (Z5 E.T 126 (fget φ 10) (.int .i64 4))) := Z9 rfl (Zj rfl rfl)
theorem Z1Y : stepT E C B 62 Z05 ZSS (φ, H) = stpT (some 35) φ H (just (aLoad E.T 3 (fget φ 34))) := Z9 rfl (Zj rfl rfl)
theorem Z1x : stepT E C B 62 Z05 ZDa (φ, H) = stpT (some 36) φ H (just (aBin E.T .sub 3 (fget φ 33) (fget φ 35))) := Z9 rfl (Zj rfl rfl)
theorem Z1G : stepT E C B 62 Z05 ZA7 (φ, H) = stpT (some 37) φ H (Zh E.T (B + 37) .min #[3, 3] [(fget φ 36), (.int .i64 486)]) := Z9 rfl (Zj rfl rfl)
theorem Z1T : stepT E C B 62 Z05 ZTJ (φ, H) = stpT (some 38) φ H (just (Z5 E.T 126 (fget φ 10) (.int .i64 3))) := Z9 rfl (Zj rfl rfl)
theorem Z1r : stepT E C B 62 Z05 ZBI (φ, H) = stpT (some 39) φ H (just (aLoad E.T 3 (fget φ 38))) := Z9 rfl (Zj rfl rfl)
theorem Z17 : stepT E C B 62 Z05 Zxk (φ, H) = stpT (some 40) φ H (just (aBin E.T .quo 3 (fget φ 37) (fget φ 39))) := Z9 rfl (Zj rfl rfl)
theorem ZaX : stepT E C B 62 Z05 Zx1 (φ, H) = stpT (some 41) φ H (just (aBin E.T .add 3 (fget φ 32) (fget φ 40))) := Z9 rfl (Zj rfl rfl)
theorem Zbk : stepT E C B 62 Z05 Zx3 (φ, H) = stpT (some 42) φ H (Zh E.T (B + 42) .min #[3, 3] [(.int .i64 54), (fget φ 41)]) := Z9 rfl (Zj rfl rfl)
theorem Zb3 : stepT E C B 62 Z05 ZwE (φ, H) = stpT (some 43) φ H (ZB E.T (B + 43) 36 1 (evO E φ) [(0, Operand.tmp 42)]) := Z9 rfl (Zj rfl rfl)
theorem Zbl : stepT E C B 62 Z05 Zxy (φ, H) = stpT (some 44) φ H (Zh E.T (B + 44) .append #[36, 36] [(fget φ 30), (fget φ 43)]) := Z9 rfl (Zj rfl rfl)
theorem Zbe : stepT E C B 62 Z05 Zyl (φ, H) = some ((fput φ 8 (fget φ 44), H), ⟨false, [], []⟩) := Z9 rfl (ZS rfl rfl)
theorem Z3L : XC 38 62 Zrw 53 ZMC ZFB := ZN (by rfl) _
theorem Z3D : XQ 38 62 ZqT ZE5 Zrw := Z4 (by rfl) _
theorem Z3U : XC 38 62 Zro 45 ZDj ZqT := ZN (by rfl) _
theorem Z3B : XQ 38 62 ZoI ZFU Zro := Z4 (by rfl) _
theorem Z3z : execA E C (fg 38) B 62 E0 N ZQ3 s = blockX 3 (fun s => (forget s.1 [], s.2)) (execA E C (fg 38) B 62 E0 N ZoI s) := ZK (by rfl) (by rfl) s
theorem Z3G : XQ 38 62 ZoF ZHc ZQ3 := Z4 (by rfl) _
theorem Z3A : execA E C (fg 38) B 62 E0 N ZTB s = blockX 2 (fun s => (forget s.1 [], s.2)) (execA E C (fg 38) B 62 E0 N ZoF s) := ZK (by rfl) (by rfl) s
def ZTp := kR ZsJ
def Zca := kO ZTp
def ZIu := opN Zca 0
def ZSU := opN Zca 1
theorem Z3M : XG 38 62 ZTp Zca [60] := Zb (by rfl) (by rfl) _
theorem Z1C : Zca.toList = [ZIu, ZSU] := nf
theorem Z1y : stepA E C B 62 Zca ZIu (φ, H) = stp (some 60) φ H (just (aBin E.T .add 3 (fget φ 26) (.int .i64 1))) := nf
theorem Z1O : stepA E C B 62 Zca ZSU (φ, H) = some (fput φ 26 (fget φ 60), H) := nf
theorem Z3N : XQ 38 62 ZsJ ZTB ZTp := Z4 (by rfl) _
theorem Z3f : XQ 38 62 Znh ZoZ ZsJ := Z4 (by rfl) _
theorem Z30 : XQ 38 62 Z6c ZMI Znh := Z4 (by rfl) _
theorem Z0pt : execA E C (fg 38) B 62 E0 N ZGw s = iterA (execA E C (fg 38) B 62 E0 N Z6c) (headA E0) N s := Z0H (by rfl) s
theorem Z0oE : execA E C (fg 38) B 62 E0 N ZL2 s = blockX 1 (fun s => (forget s.1 [1, 24, 25, 26, 27], s.2)) (execA E C (fg 38) B 62 E0 N ZGw s) := ZK (by rfl) (by rfl) s
theorem Z0qf : XQ 38 62 Znl ZOc ZL2 := Z4 (by rfl) _
def Zqz := kR Zrz
def ZJQ := kL Zqz
def Z92 := kO ZJQ
def ZO4 := opN Z92 0
def ZHY := opN Z92 1
def ZFG := opN Z92 2
theorem Z0oi : XG 38 62 ZJQ Z92 [8, 61] := Zb (by rfl) (by rfl) _
theorem Z0eN : Z92.toList = [ZO4, ZHY, ZFG] := nf
theorem Z0el : stepA E C B 62 Z92 ZO4 (φ, H) = some (fput φ 61 (fget φ 8), H) := nf
theorem Z0dy : stepA E C B 62 Z92 ZHY (φ, H) = some (fput φ 4 (fget φ 61), H) := nf
theorem Z0d9 : stepA E C B 62 Z92 ZFG (φ, H) = some (fput φ 5 (.int .i64 0), H) := nf
def Z0cz := kR Zqz
theorem Z0oG : execA E C (fg 38) B 62 E0 N Z0cz s = some (.ret, s) := Z06 (by rfl) s
theorem Z0ok : XQ 38 62 Zqz ZJQ Z0cz := Z4 (by rfl) _
theorem Z0oR : XQ 38 62 Zrz Znl Zqz := Z4 (by rfl) _
theorem Z0nY : XQ 38 62 ZrJ ZT1 Zrz := Z4 (by rfl) _
theorem Z0sP : XQ 38 62 ZzL Z062 ZrJ := Z4 (by rfl) _
theorem Z0sQ : XQ 38 62 ZzB Z06R ZzL := Z4 (by rfl) _
theorem Z0rx : XQ 38 62 Zrg Z07R ZzB := Z4 (by rfl) _
theorem Z0rD : fInfo E 38 = some ⟨62, #[.tmp 4, .tmp 5], Zrg⟩ := nf
theorem b_38 (args : List AV) : bodyA E C fg N 38 args H B = bodyX E [.tmp 4, .tmp 5] (execA E C (fg 38) B 62 H N Zrg (Zw args 0 [], H)) := Z0a Z0rD args H
end Go.AM.YtgfnbmfjbjopkaaDoor
end
noncomputable section
namespace Go.AM.YtgfnbmfjbjopkaaDoor
open Go Go.AM Go.AM.Mule
def cF (ls : List Ld) (i : Nat) (day : Int) : Int := ldC (ls.getD i default) day
theorem Zqx {ls : List Ld} {B : List Nat} {n : Nat} (h : TrOk ls B n) {i : Nat} (hi : i < n) : ∃ l, ls[i]? = some l ∧ LdOk l ∧ ∀ day, cF ls i day = ldC l day := by
 have hl : i < ls.length := by rw [h.l]; exact hi
 refine ⟨ls[i], List.getElem?_eq_getElem hl, h.ld _ (List.getElem_mem hl), fun day => ?_⟩
 simp [cF, hl]
theorem cF_b {ls : List Ld} {B : List Nat} {n : Nat} (h : TrOk ls B n) {i : Nat} (hi : i < n) {day : Int} (hd : 0 ≤ day ∧ day ≤ 1000) : 0 ≤ cF ls i day ∧ cF ls i day ≤ 9020 := by
 obtain ⟨l, _, h2, h3⟩ := Zqx h hi
 rw [h3]; exact ZnY h2 hd
theorem Z0fx {C : Callee} {ls : List Ld} {B : List Nat} {n : Nat} {e1 e2 : Bool} {i k : Nat} {day : Int} (h : TrOk ls B n) (hi : i < n) (hk : k < n) (hd : 0 ≤ day ∧ day ≤ 1000)
   (hc : ∀ (site : Nat → Nat) seen l, LdOk l → aBack site true seen (thaw C 99 [.agg (lc l), .int .i64 day] [] 0) = .pure (.int .i64 (ldC l day), [])) :
   rsOf (bodyA E C fg 1000 131 [.int .i64 (i : Int), .int .i64 (k : Int), .iptr (trA ls B n e1 e2) 0, .iptr [.int .i64 day] 0] [] 0) = some (.int .i64 (cF ls i day - cF ls k day)) := by
 obtain ⟨x, x1, x2, x3⟩ := Zqx h hi
 obtain ⟨y, y1, y2, y3⟩ := Zqx h hk
 have cx := fun site seen => hc site seen x x2
 have cy := fun site seen => hc site seen y y2
 have bx := ZnY x2 hd
 have by' := ZnY y2 hd
 have ax := Z1l ZX x1
 have ay := Z1l ZX y1
 have hlen : (cls lc ls).length = n * 5 := by rw [ZA ZX, h.l]
 have w : wrp .i64 (ldC x day - ldC y day) = ldC x day - ldC y day := Z0i (by omega)
 rw [x3, y3]
 generalize ldC x day = X at *
 generalize ldC y day = Y at *
 simp only [lc] at cx cy ax ay
 simp (disch := omega) only [Bool.not_true, Bool.not_false, ZF, Zc, Za, Z2, Z1, Z3, Z0, Zw, Zm, just, Rd.bind, Rd.run, Rd.opt, upds, tsz, rdCells, fieldOf, Ze, aLoad, resA, resL, Z5, aNum, aBin, aInt, Nat.reduceAdd, Nat.reduceLT, Nat.reduceBEq, Nat.reduceEqDiff, Nat.reduceLeDiff, ↓reduceIte, reduceCtorEq, Nat.zero_add, Nat.add_zero, ZE, ZH, ZO, ZP, Zz, ZL, Zt, Zn, ZC, stpT, Rd.foot, writing, Zq, Tr.empty, Zs, List.isEmpty_nil, List.map_nil, Bool.not_false, Bool.not_true, Bool.or_true, Bool.or_false, Bool.and_self, decide_true, Z7, and_true, true_and, Int.natCast_nonneg, Int.ofNat_lt, Int.toNat_natCast, aCall, snaps, List.append_nil, Option.map_some, List.elem_cons, List.elem_nil, List.getElem?_cons_zero, seqN, bindN, regN, Zr, ZQ, Nat.le_refl, beq_self_eq_true, Bool.false_eq_true, T_3, Z0P, ZZ, Z0E, beq_self_eq_true, Z0q9, Z0fD, Z0gv, Z0oB, Z0fP, Z086, Z0aW, Z0g6, Z0ee, Z0d0, Z0gT, Z0fR, Z0gR, Z0fT, Z0eX, Z0fh, Z0d5, Z0c4, Z08z, Z0bQ, Z0bt, Z08Q, Z0a3, Z0o4, Z0pE, Z0nW, Z0rR, ax, ay, hlen, cx, cy, w, if_pos]
theorem Z0e0 {d : Nat} {ls : List Ld} {B : List Nat} {n : Nat} {e1 e2 : Bool} {day : Int} {l : List Nat} (h : TrOk ls B n) (hl : ∀ i ∈ l, i < n) (hd : 0 ≤ day ∧ day ≤ 1000) :
   Cmp (callA E fg 1000 (d + 2)) (.clo 131 [.iptr (trA ls B n e1 e2) 0, .iptr [.int .i64 day] 0]) l (fun i => cF ls i day) := by
 refine ⟨fun _ => rfl, fun site i k hi hk => ?_, rfl⟩
 have := Z1k (site := site) (seen := []) (Z1j (Z0fx (C := callA E fg 1000 (d + 1)) (e1 := e1) (e2 := e2) h (hl i hi) (hl k hk) hd (fun site seen l hl => ZgQ (d := d) hl hd)))
 simp only [opCallV, Z0bs, aCall, List.cons_append, List.nil_append, List.append_nil, snaps, snap, Rd.bind]
 exact this
def pkS (ls : List Ld) (B : List Nat) (s : Nat) : Nat := pick (fun i => cF ls i (daysS ls s)) (lsL B s)
def nxS (ls : List Ld) (B : List Nat) (s : Nat) : Nat := s &&& (63 - 1 <<< pkS ls B s)
def rS (ls : List Ld) (B : List Nat) (n : Nat) : Nat → Nat
 | 0 => 2 ^ n - 1
 | k + 1 => nxS ls B (rS ls B n k)
def rO (ls : List Ld) (B : List Nat) (n : Nat) : Nat → List Nat
 | 0 => []
 | k + 1 => rO ls B n k ++ [pkS ls B (rS ls B n k)]
def mxv (x y : Int) : Int := if y > x then y else x
def rC (ls : List Ld) (B : List Nat) (n : Nat) : Nat → Int
 | 0 => 0
 | k + 1 => mxv (rC ls B n k) (cF ls (pkS ls B (rS ls B n k)) (daysS ls (rS ls B n k)))
theorem Zgd (ls B n) : ∀ k, (rO ls B n k).length = k
 | 0 => rfl
 | k + 1 => by simp [rO, Zgd ls B n k]
theorem ZcZ {B : List Nat} {s i : Nat} (h : i ∈ lsL B s) : i ∈ lst s := (List.mem_filter.1 h).1
theorem Z0hr {B : List Nat} (hT : Ord (bit B)) {s : Nat} (hs : s < 64) (h0 : s ≠ 0) : lsL B s ≠ [] := by
 obtain ⟨i, hi⟩ := ZOI hT (S := lst s) (fun e => h0 ((ZhR s hs).1 e))
 intro e
 rw [lsL] at e
 rw [e] at hi
 simp at hi
theorem Z0a6 {ls : List Ld} {B : List Nat} (hT : Ord (bit B)) {s : Nat} (hs : s < 64) (h0 : s ≠ 0) : pkS ls B s ∈ lsL B s := (ZfP _ (Z0hr hT hs h0)).1
theorem Z0p6 {a b n : Nat} (h : a < 2 ^ n) : a &&& b < 2 ^ n := Nat.lt_of_le_of_lt Nat.and_le_left h
abbrev ruS (ls : List Ld) (B : List Nat) (n : Nat) (e1 e2 : Bool) (s : Nat) (c : Int) (o : List Nat) : St :=
 ([(6, .int .u64 (s : Int)), (5, .int .i64 c), (4, oV 37 1 o.length), (1, .ptr 1 0 2)], (1, ⟨.box, trA ls B n e1 e2⟩) :: oH 37 (ins o))
theorem Z45 {n : Nat} (h : n ≤ 1000000) : roomOk E.T 3 n = true := by
 simp only [roomOk, T_3, decide_eq_true_eq]; exact ⟨by decide, rfl, by omega⟩
theorem Z0sS {d : Nat} {ls : List Ld} {B : List Nat} {n : Nat} {e1 e2 : Bool} (h : TrOk ls B n) (hT : Ord (bit B)) {s : Nat} (hs : s < 2 ^ n) (h0 : s ≠ 0) (c : Int) (o : List Nat) (ho : o.length ≤ 6) :
   ∃ s', execA E (callA E fg 1000 (d + 5)) (fg 89) 0 46 [] 1000 Zdi (ruS ls B n e1 e2 s c o) = some (.normal, s') ∧
     headA [] s' = ruS ls B n e1 e2 (nxS ls B s) (mxv c (cF ls (pkS ls B s) (daysS ls s))) (o ++ [pkS ls B s]) := by
 have h64 := lt64 h.le hs
 have hd := ZuP h hs
 have hdays := fun (site : Nat → Nat) seen => Zgy (d := d) (site := site) (seen := seen) (e1 := e1) (e2 := e2) h hs
 have hlasts := fun (site : Nat → Nat) seen => ZoD (d := d) (site := site) (seen := seen) (e1 := e1) (e2 := e2) h hs h0
 have hne := Z0hr hT h64 h0
 have hln : ∀ i ∈ lsL B s, i < n := fun i hi => Z5P h.le hs i (ZcZ hi)
 obtain ⟨x, r, e1', e2'⟩ := Z0gE (fun i => cF ls i (daysS ls s)) hne
 have hmf := fun (site : Nat → Nat) seen => Z0n6 (site := site) (seen := seen) (ex := false) (Z0e0 (d := d + 2) (e1 := e1) (e2 := e2) (l := x :: r) h (fun i hi => hln i (by rw [← List.mem_reverse, e1']; exact hi)) (show 0 ≤ daysS ls s ∧ daysS ls s ≤ 1000 by omega)) (by
   have := congrArg List.length e1'
   have := ZnO B s
   have := Z4V s
   simp only [List.length_reverse, List.length_cons] at *; omega)
 rw [e2', ← e1'] at hmf
 have hrl : (lsL B s).reverse.length = (lsL B s).length := List.length_reverse
 have hpk := Z0a6 (ls := ls) hT h64 h0
 obtain ⟨y, y1, y2, y3⟩ := Zqx h (hln _ hpk)
 have hcost := fun (site : Nat → Nat) seen => ZgQ (d := d + 4) (site := site) (seen := seen) y2 (show 0 ≤ daysS ls s ∧ daysS ls s ≤ 1000 by omega)
 have hp6 : pkS ls B s < 6 := Nat.lt_of_lt_of_le (hln _ hpk) h.le
 have hpn := hln _ hpk
 have ay := Z1l ZX y1
 have hlen : (cls lc ls).length = n * 5 := by rw [ZA ZX, h.l]
 rw [show nxS ls B s = s &&& (63 - 1 <<< pkS ls B s) from rfl, y3]
 have hle := ZnO B s
 have hl6 := Z4V s
 have hcl := Z8P B s
 have hrev : ∀ (H : AHeap), hset H 19 ⟨.row, lsCells B s⟩ = H → (hget H 19).isSome = true → ascH 0 H = true → callA E fg 1000 (d + 5) 129 [.ref 19 0 (lsL B s).length (lst s).length (lst s).length 1 false] H 368 = some (.tup [], hset H 19 ⟨.row, ins (lsL B s).reverse ++ ins (List.replicate ((lst s).length - (lsL B s).length) 0)⟩) := by
   intro H a1 a2 a3
   exact Z052 (C := callA E fg 1000 (d + 4)) (B := 368) (l := lsL B s) (z := ins (List.replicate ((lst s).length - (lsL B s).length) 0)) (by rw [← ZsX]; exact a1) a2 a3 (by rw [Zu, List.length_replicate]; omega) (by omega)
 have hpke : pick (fun i => cF ls i (daysS ls s)) (lsL B s) = pkS ls B s := rfl
 rw [hpke] at hmf
 have htk : List.take (lsL B s).length (ins (lsL B s).reverse ++ ins (List.replicate ((lst s).length - (lsL B s).length) 0)) = ins (lsL B s).reverse := by
   rw [List.take_left' (by rw [Zu, hrl])]
 have hcl2 : (ins (lsL B s).reverse ++ ins (List.replicate ((lst s).length - (lsL B s).length) 0)).length = (lst s).length := by
   rw [List.length_append, Zu, Zu, hrl, List.length_replicate]; omega
 rw [hrl] at hmf
 have hn64 : 1 <<< pkS ls B s < 64 := by
   have : pkS ls B s = 0 ∨ pkS ls B s = 1 ∨ pkS ls B s = 2 ∨ pkS ls B s = 3 ∨ pkS ls B s = 4 ∨ pkS ls B s = 5 := by omega
   rcases this with e | e | e | e | e | e <;> rw [e] <;> decide
 have hshl := Zzn (i := pkS ls B s) (by omega)
 have hand := ZfH h64 hn64
 generalize callA E fg 1000 (d + 5) = C at *
 generalize pkS ls B s = p at *
 generalize (lsL B s).length = m at *
 generalize (lst s).length = q at *
 generalize daysS ls s = day at *
 generalize lsCells B s = cs at *
 generalize ins (lsL B s).reverse ++ ins (List.replicate (q - m) 0) = cs2 at *
 generalize ldC y day = cy at *
 simp only [lc] at ay hcost
 have hp : (p : Int) < n := by omega
 have hmx : (if cy > c then cy else c) = mxv c cy := rfl
 generalize mxv c cy = c2 at *
 have hin := Zu o
 have hm : ∀ args caps, mutV E (.clo 129 caps) args = some (129, args ++ caps) := fun _ _ => rfl
 have hsu : (s : Int) ≠ 0 := by omega
 cases o with
 | nil =>
   have hrev1 := hrev [(1, ⟨.box, trA ls B n e1 e2⟩), (7, ⟨.box, [.int .i64 day]⟩), (19, ⟨.row, cs⟩)] rfl rfl rfl
   simp only [ruS, oV, oH, List.length_nil, ins, List.map_nil, List.map_cons, List.nil_append, List.length_singleton]
   simp (disch := omega) only [Z8, Zg, Bool.not_true, Bool.not_false, Zc, Za, Z2, Z1, Z3, Z0, Zl, Zd, Zx, Zi, Zm, stp, opBox, justO, just, Rd.bind, Rd.run, Rd.opt, upds, acells, zeroCells, tsz, elemT, rdCells, fieldOf, Ze, aLoad, aStore, opStore, fresh, Z5, aNum, Zh, aMax, aBin, aInt, putC, evO, Nat.reduceAdd, Nat.reduceMul, Nat.reduceLT, Nat.reduceBEq, Nat.reduceEqDiff, Nat.reduceLeDiff, ↓reduceIte, reduceCtorEq, Zf, Nat.zero_add, Nat.add_zero, bne_iff_ne, ne_eq, List.nil_append, List.getElem?_toArray, ZE, ZH, ZO, ZP, Zz, ZL, Zt, Zn, ZC, Zv, stpT, Rd.foot, writing, Zq, Tr.empty, Zs, apartT, disj, List.isEmpty_nil, List.isEmpty_cons, List.map_nil, Bool.not_false, Bool.not_true, Bool.true_or, Bool.or_true, Bool.or_false, Bool.and_true, Bool.true_and, Bool.and_self, decide_true, not_true_eq_false, not_false_eq_true, or_self, ZB, Z02, fo6, fo5, partsOf, fillA, repC, Z00, aAppend, srcOf, window, Z7, Zk, and_true, Int.natCast_nonneg, Int.toNat_natCast, mutX, aCall, snaps, List.append_nil, List.elem_cons, List.elem_nil, List.length_cons, List.length_nil, List.getElem?_cons_zero, List.getElem?_cons_succ, List.drop_zero, List.take_succ_cons, List.take_nil, List.set_cons_zero, Zp, seqN, bindN, regN, Zr, Z0n, ZM, Z0q, ZQ, Z2K, List.all_cons, List.all_nil, Z1o, List.cons_append, Nat.le_refl, Nat.mul_one, Nat.zero_mul, List.not_mem_nil, beq_self_eq_true, Nat.lt_irrefl, Bool.false_eq_true, Bool.false_and, T_3, T_36, Z0P, ZZ, Z0E, List.all_cons, List.all_nil, List.getD_cons_zero, List.getD_cons_succ, beq_self_eq_true, ZUk, Ztb, ZtU, Zuq, ZSW, ZO8, ZEP, ZTr, Z0cV, Z04k, ZZe, Z00Z, Z00b, Z01N, Z04Q, Z09u, Z000, ZWy, Z04Z, ZZl, Z00x, Z0bv, ZXy, ZXM, Z05D, Z085, ZVA, ZXR, ZXP, ZVC, ZXe, Z09z, ZZA, ZAO, ZOk, Z05X, Z05p, Z05i, Z04K, Z04p, Z02w, Z03h, ZY5, ZVV, ZXo, Z0bT, ZNT, ZRq, ZFj, ZAh, ZDH, ZHp, Z0cK, ZS1, ZT3, ZFy, ZEz, ZUN, ZCA, Z0aJ, Z09l, Z09Y, Z0ap, Z0bm, Z08N, Z09H, ZV3, hsu, hdays, hlasts, hrev1, htk, hcl2, hmf, ay, hlen, hp, hcost, hmx, hshl, hand, if_pos, Z45 (show 1 ≤ 1000000 by omega)]
   exact ⟨_, rfl, rfl⟩
 | cons a o => 
   have hl1 : (a :: o).length = o.length + 1 := rfl
   have hl2 : ((a :: o) ++ [p]).length = o.length + 1 + 1 := by simp
   have hsn := Z0gV (a :: o) p
   have htk2 : List.take (o.length + 1) (ins (a :: o)) = ins (a :: o) := ZgZ (a :: o)
   have hc1 : oH 37 (ins (a :: o)) = [(37, ⟨.row, ins (a :: o)⟩)] := rfl
   have hc2 : oH 37 (ins ((a :: o) ++ [p])) = [(37, ⟨.row, ins ((a :: o) ++ [p])⟩)] := rfl
   rw [hl1] at hin
   have hno : ¬ o.length + 1 + 1 ≤ o.length + 1 := by omega
   have hrev1 := hrev [(1, ⟨.box, trA ls B n e1 e2⟩), (7, ⟨.box, [.int .i64 day]⟩), (19, ⟨.row, cs⟩), (37, ⟨.row, ins (a :: o)⟩)] rfl rfl rfl
   simp only [ruS, hl1, hl2, hc1, hc2, oV]
   generalize ins (a :: o ++ [p]) = oc2 at *
   generalize ins (a :: o) = oc at *
   simp (disch := omega) only [Z8, Zg, Bool.not_true, Bool.not_false, Zc, Za, Z2, Z1, Z3, Z0, Zl, Zd, Zi, Zm, stp, opBox, justO, just, Rd.bind, Rd.run, Rd.opt, upds, acells, zeroCells, tsz, elemT, rdCells, fieldOf, Ze, aLoad, aStore, opStore, fresh, Z5, aNum, Zh, aMax, aBin, aInt, putC, evO, Nat.reduceAdd, Nat.reduceMul, Nat.reduceLT, Nat.reduceBEq, Nat.reduceEqDiff, Nat.reduceLeDiff, ↓reduceIte, reduceCtorEq, Zf, Nat.zero_add, Nat.add_zero, bne_iff_ne, ne_eq, List.nil_append, List.getElem?_toArray, ZE, ZH, ZO, ZP, Zz, ZL, Zt, Zn, ZC, Zv, stpT, Rd.foot, writing, Zq, Tr.empty, Zs, apartT, disj, List.isEmpty_nil, List.isEmpty_cons, List.map_nil, Bool.not_false, Bool.not_true, Bool.true_or, Bool.or_true, Bool.or_false, Bool.and_true, Bool.true_and, Bool.and_self, decide_true, not_true_eq_false, not_false_eq_true, or_self, ZB, Z02, fo6, fo5, partsOf, fillA, repC, Z00, aAppend, srcOf, window, Z7, Zk, and_true, Int.natCast_nonneg, Int.toNat_natCast, mutX, aCall, snaps, List.append_nil, List.elem_cons, List.elem_nil, List.length_cons, List.length_nil, List.getElem?_cons_zero, List.getElem?_cons_succ, List.drop_zero, List.take_succ_cons, List.take_nil, List.set_cons_zero, Zp, seqN, bindN, regN, Zr, Z0n, ZM, Z0q, ZQ, Z2K, List.all_cons, List.all_nil, Z1o, List.cons_append, Nat.le_refl, Nat.mul_one, Nat.zero_mul, List.not_mem_nil, beq_self_eq_true, Nat.lt_irrefl, Bool.false_eq_true, Bool.false_and, T_3, T_36, Z0P, ZZ, Z0E, List.all_cons, List.all_nil, List.getD_cons_zero, List.getD_cons_succ, beq_self_eq_true, ZUk, Ztb, ZtU, Zuq, ZSW, ZO8, ZEP, ZTr, Z0cV, Z04k, ZZe, Z00Z, Z00b, Z01N, Z04Q, Z09u, Z000, ZWy, Z04Z, ZZl, Z00x, Z0bv, ZXy, ZXM, Z05D, Z085, ZVA, ZXR, ZXP, ZVC, ZXe, Z09z, ZZA, ZAO, ZOk, Z05X, Z05p, Z05i, Z04K, Z04p, Z02w, Z03h, ZY5, ZVV, ZXo, Z0bT, ZNT, ZRq, ZFj, ZAh, ZDH, ZHp, Z0cK, ZS1, ZT3, ZFy, ZEz, ZUN, ZCA, Z0aJ, Z09l, Z09Y, Z0ap, Z0bm, Z08N, Z09H, ZV3, hsu, hdays, hlasts, hrev1, htk, hcl2, hmf, ay, hlen, hp, hcost, hmx, hshl, hand, hin, hno, hsn, htk2, if_pos, Z45 (show o.length + 1 + 1 ≤ 1000000 by omega)]
   exact ⟨_, rfl, rfl⟩
theorem Zj2 (ls B n) : ∀ k, rS ls B n k < 2 ^ n
 | 0 => by have := Nat.two_pow_pos n; simp only [rS]; omega
 | k + 1 => Z0p6 (Zj2 ls B n k)
theorem Zto {ls : List Ld} {B : List Nat} {n : Nat} (h : TrOk ls B n) (hT : Ord (bit B)) (k : Nat) (h0 : rS ls B n k ≠ 0) : lst (rS ls B n (k + 1)) = (lst (rS ls B n k)).erase (pkS ls B (rS ls B n k)) ∧ pkS ls B (rS ls B n k) ∈ lst (rS ls B n k) := by
 have h64 := lt64 h.le (Zj2 ls B n k)
 have hm := ZcZ (Z0a6 (ls := ls) hT h64 h0)
 exact ⟨ZgV _ h64 _ (ZSy hm), hm⟩
theorem Zql {ls : List Ld} {B : List Nat} {n : Nat} (h : TrOk ls B n) (hT : Ord (bit B)) : ∀ k, k ≤ n → (lst (rS ls B n k)).length = n - k
 | 0, _ => by simp only [rS]; rw [ZdZ n h.le, List.length_range]; omega
 | k + 1, hk => by
   have ih := Zql h hT k (by omega)
   have h0 : rS ls B n k ≠ 0 := by
     intro e
     rw [e] at ih
     have : (lst 0).length = 0 := rfl
     omega
   obtain ⟨e, hm⟩ := Zto h hT k h0
   rw [e, List.length_erase_of_mem hm, ih]
   omega
theorem Z06H {ls : List Ld} {B : List Nat} {n : Nat} (h : TrOk ls B n) (hT : Ord (bit B)) {k : Nat} (hk : k < n) : rS ls B n k ≠ 0 := by
 have := Zql h hT k (by omega)
 intro e
 rw [e] at this
 have : (lst 0).length = 0 := rfl
 omega
theorem Z0og {ls : List Ld} {B : List Nat} {n : Nat} (h : TrOk ls B n) (hT : Ord (bit B)) : rS ls B n n = 0 := by
 have := Zql h hT n (Nat.le_refl _)
 exact (ZhR _ (lt64 h.le (Zj2 ls B n n))).1 (List.length_eq_zero_iff.1 (by omega))
theorem Z02q {ls : List Ld} {B : List Nat} {n : Nat} (h : TrOk ls B n) (hT : Ord (bit B)) : ∀ m k, m + k = n → (rO ls B n n).reverse = ruleL (bit B) (hiF ls) (cF ls) m (lst (rS ls B n k)) ++ (rO ls B n k).reverse
 | 0, k, e => by
   obtain rfl : k = n := by omega
   simp [ruleL]
 | m + 1, k, e => by
   have h0 := Z06H h hT (show k < n by omega)
   obtain ⟨h1, h2⟩ := Zto h hT k h0
   rw [Z02q h hT m (k + 1) (by omega), h1]
   have e2 : (rO ls B n (k + 1)).reverse = pkS ls B (rS ls B n k) :: (rO ls B n k).reverse := by simp [rO]
   rw [e2]
   have e3 : ruleL (bit B) (hiF ls) (cF ls) (m + 1) (lst (rS ls B n k)) = ruleL (bit B) (hiF ls) (cF ls) m ((lst (rS ls B n k)).erase (pkS ls B (rS ls B n k))) ++ [pkS ls B (rS ls B n k)] := by
     cases hl : lst (rS ls B n k) with
     | nil => rw [hl] at h2; simp at h2
     | cons x r =>
       simp only [ruleL]
       have : pkS ls B (rS ls B n k) = pick (fun i => cF ls i (days (hiF ls) (x :: r))) (lastsL (bit B) (x :: r)) := by rw [← hl]; rfl
       rw [this]
   rw [e3, List.append_assoc]
   rfl
def ruO (ls : List Ld) (B : List Nat) (n : Nat) : List Nat := ruleL (bit B) (hiF ls) (cF ls) n (List.range n)
theorem ZUo {ls : List Ld} {B : List Nat} {n : Nat} (h : TrOk ls B n) (hT : Ord (bit B)) : (rO ls B n n).reverse = ruO ls B n := by
 have := Z02q h hT n 0 (by omega)
 rw [this]
 simp only [rS, rO, List.reverse_nil, List.append_nil, ruO]
 rw [ZdZ n h.le]
theorem ZXn (x y : Int) : mxv x y = max x y := by unfold mxv; split <;> omega
theorem Z0hx {ls : List Ld} {B : List Nat} {n : Nat} (h : TrOk ls B n) (hT : Ord (bit B)) : ∀ m k, m + k = n → rC ls B n n = max (rC ls B n k) (mc (hiF ls) (cF ls) 0 (ruleL (bit B) (hiF ls) (cF ls) m (lst (rS ls B n k))))
 | 0, k, e => by
   obtain rfl : k = n := by omega
   simp only [ruleL, mc]
   have key : ∀ j, 0 ≤ rC ls B k j := by
     intro j
     induction j with
     | zero => exact Int.le_refl _
     | succ j ih => simp only [rC, ZXn]; omega
   have := key k
   omega
 | m + 1, k, e => by
   have h0 := Z06H h hT (show k < n by omega)
   obtain ⟨h1, h2⟩ := Zto h hT k h0
   rw [Z0hx h hT m (k + 1) (by omega), h1]
   have e3 : ruleL (bit B) (hiF ls) (cF ls) (m + 1) (lst (rS ls B n k)) = ruleL (bit B) (hiF ls) (cF ls) m ((lst (rS ls B n k)).erase (pkS ls B (rS ls B n k))) ++ [pkS ls B (rS ls B n k)] := by
     cases hl : lst (rS ls B n k) with
     | nil => rw [hl] at h2; simp at h2
     | cons x r =>
       simp only [ruleL]
       have : pkS ls B (rS ls B n k) = pick (fun i => cF ls i (days (hiF ls) (x :: r))) (lastsL (bit B) (x :: r)) := by rw [← hl]; rfl
       rw [this]
   have hperm := (Z4S hT (d := hiF ls) (c := cF ls) m ((lst (rS ls B n k)).erase (pkS ls B (rS ls B n k))) ((ZfG _).erase _) (by
     rw [List.length_erase_of_mem h2, Zql h hT k (by omega)]; omega)).1
   rw [e3, Zoj _ _ _ _ _ (fun now o => Z4L now o)]
   have hday : 0 + days (hiF ls) (ruleL (bit B) (hiF ls) (cF ls) m ((lst (rS ls B n k)).erase (pkS ls B (rS ls B n k)))) + hiF ls (pkS ls B (rS ls B n k)) = daysS ls (rS ls B n k) := by
     rw [Z3p hperm, daysS, Z3p (List.perm_cons_erase h2)]
     simp only [days]; omega
   simp only [mc, rC, ZXn, hday]
   have : 0 ≤ cF ls (pkS ls B (rS ls B n k)) (daysS ls (rS ls B n k)) := (cF_b h (Z5P h.le (Zj2 ls B n k) _ h2) (by have := ZuP h (Zj2 ls B n k); omega)).1
   omega
def ruC (ls : List Ld) (B : List Nat) (n : Nat) : Int := mc (hiF ls) (cF ls) 0 (ruO ls B n)
theorem Z0q0 {ls : List Ld} {B : List Nat} {n : Nat} (h : TrOk ls B n) (hT : Ord (bit B)) : rC ls B n n = ruC ls B n := by
 have := Z0hx h hT n 0 (by omega)
 rw [this]
 simp only [rS, rC, ruC, ruO]
 rw [ZdZ n h.le]
 have := Z4L (d := hiF ls) (c := cF ls) 0 (ruleL (bit B) (hiF ls) (cF ls) n (List.range n))
 omega
theorem Z0eY {d : Nat} {ls : List Ld} {B : List Nat} {n : Nat} {e1 e2 : Bool} (h : TrOk ls B n) (hT : Ord (bit B)) :
   ∃ H', bodyA E (callA E fg 1000 (d + 5)) fg 1000 89 [.agg (trA ls B n e1 e2)] [] 0 = some (.tup [.ref 37 0 n n n 1 false, .int .i64 (ruC ls B n)], H') ∧ hget H' 37 = some ⟨.row, ins (ruO ls B n)⟩ := by
 have hall := fun (site : Nat → Nat) seen => Zai (d := d + 4) (site := site) (seen := seen) (ls := ls) (B := B) (e1 := e1) (e2 := e2) h.le
 have hle := h.le
 have hne := h.ne
 have ruC' := Z0q0 h hT
 have ruO' := ZUo h hT
 have hol := Zgd ls B n n
 have hgo := fun k (hk : k < n) => Z0sS (d := d) (e1 := e1) (e2 := e2) h hT (Zj2 ls B n k) (Z06H h hT hk) (rC ls B n k) (rO ls B n k) (by rw [Zgd]; omega)
 have hrev := Z052 (C := callA E fg 1000 (d + 4)) (B := 368) (H := [(1, ⟨.box, trA ls B n e1 e2⟩), (37, ⟨.row, ins (rO ls B n n)⟩)]) (k := 37) (c := n) (l := rO ls B n n) (z := []) (by rw [List.append_nil]; rfl) rfl rfl (by rw [hol]; rfl) (by omega)
 rw [ruO', hol, List.append_nil] at hrev
 have hrev' : callA E fg 1000 (d + 5) 129 [.ref 37 0 n n n 1 false] [(1, ⟨.box, trA ls B n e1 e2⟩), (37, ⟨.row, ins (rO ls B n n)⟩)] 368 = _ := hrev
 have hlen : (ins (ruO ls B n)).length = n := by rw [Zu, ← ruO', List.length_reverse, hol]
 generalize callA E fg 1000 (d + 5) = C at *
 have hloop := loopN (f := (execA E C (fg 89) 0 46 [] 1000 Zdi)) (fun k => ruS ls B n e1 e2 (rS ls B n k) (rC ls B n k) (rO ls B n k)) n
   hgo rfl (by omega)
   (e := .exit 0) (se := ([(13, .bool false), (6, .int .u64 0), (5, .int .i64 (ruC ls B n)), (4, .ref 37 0 n n n 1 false), (1, .ptr 1 0 2)], [(1, ⟨.box, trA ls B n e1 e2⟩), (37, ⟨.row, ins (rO ls B n n)⟩)]))
   (by
     simp only [Z0og h hT, ruC']
     generalize rO ls B n n = o at *
     cases o with
     | nil => simp at hol; omega
     | cons a o =>
       have e1 : oV 37 1 (a :: o).length = .ref 37 0 n n n 1 false := by rw [← hol]; simp only [oV, List.length_cons, Nat.mul_one]
       have e2 : oH 37 (ins (a :: o)) = [(37, ⟨.row, ins (a :: o)⟩)] := rfl
       have z0 : ((0 : Nat) : Int) = 0 := rfl
       simp only [ruS, e1, e2, z0]
       simp (disch := omega) only [ZR, Z8, Zc, Za, Z2, Z1, Z3, Z0, Zm, stp, just, Rd.bind, Rd.run, Rd.opt, upds, aBin, aInt, Nat.reduceBEq, Nat.reduceEqDiff, Nat.reduceLeDiff, ↓reduceIte, Z7, List.elem_cons, List.elem_nil, seqN, bindN, regN, beq_self_eq_true, bne_self_eq_false, Bool.false_eq_true, beq_self_eq_true, ZUk, Ztb, ZtU, Zuq, ZSW, ZO8, ZEP, ZTr, ZV3]) (by simp)
 refine ⟨[(1, ⟨.box, trA ls B n e1 e2⟩), (37, ⟨.row, ins (ruO ls B n)⟩)], ?_, rfl⟩
 have z : ∀ x, hset [(1, ⟨.box, trA ls B n e1 e2⟩), (37, ⟨.row, ins (rO ls B n n)⟩)] 37 x = [(1, ⟨.box, trA ls B n e1 e2⟩), (37, x)] := fun _ => rfl
 rw [z] at hrev'
 simp only [ruS, rS, rC, rO, oV, oH, List.length_nil, ins, List.map_nil] at hloop
 rw [show List.map (fun (i : Nat) => AV.int .i64 (i : Int)) (rO ls B n n) = ins (rO ls B n n) from rfl] at hloop
 simp (disch := omega) only [ZJ, ZF, Zc, Za, Z2, Z0G, Z1, Z3, Z0, Zl, Zd, Zx, Zw, Zo, Zm, stp, opBox, just, Rd.bind, Rd.run, Rd.opt, upds, acells, rdCells, aLoad, resA, resL, fresh, Nat.reduceAdd, Nat.reduceMul, Nat.reduceBEq, Nat.reduceEqDiff, Nat.reduceLeDiff, ↓reduceIte, reduceCtorEq, Zf, Nat.zero_add, Z7, mutX, aCall, snaps, List.append_nil, Option.map_some, List.elem_cons, List.elem_nil, List.length_cons, List.length_nil, List.drop_zero, List.take_succ_cons, List.take_nil, seqN, bindN, regN, Z0n, ZQ, Nat.le_refl, beq_self_eq_true, Bool.false_eq_true, ZZ, beq_self_eq_true, Z0rg, Z0m4, Z0nQ, Z0iB, Z0kU, Z0rh, Z0jL, Z0hT, Z0r9, Z0kE, Z0mC, Z0s3, Z0jX, Z0lO, Z0jf, Z0iy, Z0o2, Z0sZ, Z0rN, Z0nU, Z0g9, Z0eb, Z0gz, Z0ou, Z0fK, Z0dw, Z0eH, Z0di, Z0dC, Z0pd, Z0q4, Z0p0, Z0rM, Z0rJ, Z0s1, Z0r6, b_89, hall, hloop, hrev']
end Go.AM.YtgfnbmfjbjopkaaDoor
end
noncomputable section
namespace Go.AM.YtgfnbmfjbjopkaaDoor
open Go Go.AM Go.AM.Mule
def SV {α : Type} (f : α → List AV) (l : List α) (a : AV) : Prop := (l = [] ∧ a = .nilsl) ∨ ∃ ex, a = .imm (cls f l) l.length ex
abbrev Pr := Int × Int
def bc (p : Pr) : List AV := [.int .i64 p.1, .int .i64 p.2]
theorem Z14 (p : Pr) : (bc p).length = 2 := rfl
theorem Z0jJ {C : Callee} {l : Ld} : rsOf (bodyA E C fg 1000 126 [.agg (lc l)] [] 0) = some (.agg (lc l)) := by
 simp (disch := omega) only [ZF, Zc, Za, Z2, Z1, Z3, Z0, Zl, Zd, Zx, Zi, Zw, Zm, stp, opBox, justO, just, Rd.bind, Rd.run, Rd.opt, upds, acells, zeroCells, tsz, rdCells, fieldOf, Ze, aLoad, aStore, opStore, resA, resL, fresh, putC, evO, Nat.reduceAdd, Nat.reduceGT, Nat.reduceBEq, Nat.reduceEqDiff, Nat.reduceLeDiff, ↓reduceIte, reduceCtorEq, Zf, Nat.zero_add, Nat.add_zero, ne_eq, List.nil_append, not_true_eq_false, or_self, partsOf, fillA, Z7, Zk, and_true, snaps, List.append_nil, Option.map_some, List.elem_cons, List.elem_nil, List.length_cons, List.length_nil, List.getElem?_cons_zero, List.getElem?_cons_succ, List.drop_zero, List.take_succ_cons, List.take_nil, List.set_cons_zero, List.set_cons_succ, Zp, seqN, bindN, regN, Zr, aBuild, Nat.le_refl, Nat.mul_one, List.not_mem_nil, beq_self_eq_true, Nat.lt_irrefl, Bool.false_eq_true, T_3, T_62, Z0E, beq_self_eq_true, Z0oD, Z0gh, Z0fs, Z0ec, Z0pJ, Z0fi, Z0e7, Z0dL, Z0dp, Z0fN, Z0g2, Z0gb, Z0gr, Z0dT, Z0dB, Z0fl, Z09Z, Z08W, Z0qq, Z0qx, Z0q3, Z0rv, lc, putC]
def cl (lo hi x : Int) : Int := if hi < (if lo > x then lo else x) then hi else (if lo > x then lo else x)
def wiL (l : Ld) : List Int := [cl 1 9 l.lo, cl 1 9 l.hi, cl 0 54 l.due, cl 0 9 l.rate, cl 0 20 l.base]
theorem Z07b {C : Callee} {a b c d e : Int} : rsOf (bodyA E C fg 1000 127 [.agg [.int .i64 a, .int .i64 b, .int .i64 c, .int .i64 d, .int .i64 e]] [] 0) = some (.agg (ics [cl 1 9 a, cl 1 9 b, cl 0 54 c, cl 0 9 d, cl 0 20 e])) := by kernel_rfl
def ldI (l : Ld) : List Int := [l.lo, l.hi, l.due, l.rate, l.base]
theorem Zfd : ∀ (xs ys : List Int), xs.length = ys.length → eqInts .i64 (ics xs) (ics ys) = some (decide (xs = ys))
 | [], [], _ => rfl
 | [], _ :: _, h => by simp at h
 | _ :: _, [], h => by simp at h
 | x :: xs, y :: ys, h => by
   have ih := Zfd xs ys (by simpa using h)
   simp only [ics] at ih
   simp only [ics, List.map_cons, eqInts, and_self, if_true, ih, List.cons.injEq]
   by_cases e : x = y
   · subst e; simp
   · have : (x == y) = false := by rw [beq_eq_false_iff_ne]; exact e
     simp [this, e]
def ldB (l : Ld) : Bool := decide ((1 ≤ l.lo ∧ l.lo ≤ 9) ∧ (1 ≤ l.hi ∧ l.hi ≤ 9) ∧ (0 ≤ l.due ∧ l.due ≤ 54) ∧ (0 ≤ l.rate ∧ l.rate ≤ 9) ∧ (0 ≤ l.base ∧ l.base ≤ 20))
theorem Z08r {l : Ld} : ldB l = true ↔ LdOk l := by
 simp only [ldB, decide_eq_true_eq]
 exact ⟨fun ⟨a, b, c, d, e⟩ => ⟨a, b, c, d, e⟩, fun ⟨a, b, c, d, e⟩ => ⟨a, b, c, d, e⟩⟩
theorem Zzl {lo hi x : Int} (h : lo ≤ hi) : x = cl lo hi x ↔ lo ≤ x ∧ x ≤ hi := by
 unfold cl; split <;> split <;> omega
theorem Z0hy (l : Ld) : eqArr E.T 126 (lc l) (ics (wiL l)) = some (ldB l) := by
 have e : lc l = ics (ldI l) := rfl
 rw [e]
 simp only [eqArr, Z0E, T_3, Z0r]
 rw [Zfd (ldI l) (wiL l) rfl]
 simp only [ldI, wiL, List.length_cons, List.length_nil, ldB, List.cons.injEq, Zzl (show (1 : Int) ≤ 9 by omega), Zzl (show (0 : Int) ≤ 54 by omega), Zzl (show (0 : Int) ≤ 9 by omega), Zzl (show (0 : Int) ≤ 20 by omega), and_true, if_true]
theorem ZVg {d : Nat} {site : Nat → Nat} {seen : List Nat} {l : Ld} : aBack site true seen (thaw (callA E fg 1000 (d + 1)) 127 [.agg (lc l)] [] 0) = .pure (.agg (ics (wiL l)), []) := by
 obtain ⟨H, h⟩ := Z1j (Z07b (C := callA E fg 1000 d) (a := l.lo) (b := l.hi) (c := l.due) (d := l.rate) (e := l.base))
 exact Z2L (H' := H) h rfl (fun _ => rfl) rfl
theorem Z0fo {d : Nat} {site : Nat → Nat} {seen : List Nat} {l : Ld} : aBack site true seen (thaw (callA E fg 1000 (d + 1)) 126 [.agg (lc l)] [] 0) = .pure (.agg (lc l), []) := by
 obtain ⟨H, h⟩ := Z1j (Z0jJ (C := callA E fg 1000 d) (l := l))
 exact Z2L (H' := H) h rfl (fun _ => rfl) rfl
theorem Z0hq (p q : Pr) : eqArr E.T 64 (bc p) (bc q) = some (decide (p = q)) := by
 have e : ∀ p : Pr, bc p = ics [p.1, p.2] := fun _ => rfl
 rw [e, e]
 simp only [eqArr, T_64, T_3, Z0r]
 rw [Zfd [p.1, p.2] [q.1, q.2] rfl]
 obtain ⟨a, b⟩ := p
 obtain ⟨c, d⟩ := q
 simp only [List.length_cons, List.length_nil, List.cons.injEq, Prod.mk.injEq, and_true, if_true]
theorem Z0jR {C : Callee} {l : List Pr} {q : Pr} {ex : Bool} (hl : l.length < 900) :
   rsOf (bodyA E C fg 1000 123 [.imm (cls bc l) l.length ex, .agg (bc q)] [] 0) = some (.int .i64 (if l.findIdx (fun p => decide (q = p)) < l.length then (l.findIdx (fun p => decide (q = p)) : Int) else -1)) := by
 have hle := List.findIdx_le_length (xs := l) (p := fun p => decide (q = p))
 have hlen : (cls bc l).length = l.length * 2 := ZA Z14 l
 have hlo : ∀ i, i < l.findIdx (fun p => decide (q = p)) → ∃ s', (execA E C (fg 123) 0 19 [] 1000 ZaC) ([(8, .int .i64 i), (7, .int .i64 l.length), (3, .ptr 3 0 2), (0, .imm (cls bc l) l.length ex)], [(3, ⟨.box, bc q⟩)]) = some (.normal, s') ∧
     headA [] s' = ([(8, .int .i64 (i + 1 : Nat)), (7, .int .i64 l.length), (3, .ptr 3 0 2), (0, .imm (cls bc l) l.length ex)], [(3, ⟨.box, bc q⟩)]) := by
   intro i hi
   have hil : i < l.length := by omega
   have hp := List.not_of_lt_findIdx hi
   have hq := Z0hq q l[i]
   have hat := Z1l Z14 (List.getElem?_eq_getElem hil)
   generalize l[i] = p at *
   have g1 : (i : Int) < l.length := by omega
   rw [show decide (q = p) = false by simpa using hp] at hq
   simp only [bc] at hat hq ⊢
   simp (disch := omega) only [Z8, Zg, Bool.not_true, Bool.not_false, Zc, Za, Z2, Z1, Z3, Z0, Zd, Zo, Zm, stp, just, Rd.bind, Rd.run, Rd.opt, upds, tsz, rdCells, aLoad, Z5, aNum, aBin, aInt, Nat.reduceAdd, Nat.reduceLT, Nat.reduceBEq, Nat.reduceEqDiff, Nat.reduceLeDiff, ↓reduceIte, reduceCtorEq, Zf, Nat.zero_add, ZE, ZH, ZO, ZP, Zz, ZL, Zt, Zn, ZC, Zv, stpT, Rd.foot, writing, Zq, Tr.empty, Zs, apartT, disj, List.isEmpty_nil, List.isEmpty_cons, List.map_nil, Bool.not_false, Bool.not_true, Bool.true_or, Bool.or_true, Bool.or_false, Bool.and_true, Bool.true_and, Bool.and_self, decide_true, Z7, and_true, Int.natCast_nonneg, Int.toNat_natCast, Option.map_some, List.elem_cons, List.elem_nil, List.length_cons, List.length_nil, List.drop_zero, List.take_succ_cons, List.take_nil, seqN, bindN, regN, List.all_nil, Nat.le_refl, beq_self_eq_true, Bool.false_eq_true, T_23, T_64, List.all_nil, beq_self_eq_true, ZRE, ZlK, Zlr, ZtR, ZvL, ZtI, ZVI, ZML, ZEv, ZFd, Z01P, ZSi, ZwJ, ZwC, ZLG, ZDJ, ZGz, ZHv, ZCH, ZR4, Z00z, ZPg, ZIw, ZTj, ZXs, Z02W, Z00Q, ZZr, Z00e, Z05N, ZW7, Z0jm, Z0gs, Z0fF, Z0f3, Z05j, ZS8, ZC7, g1, hat, hlen, hq, if_pos, ZD (show i < 1000000 by omega)]
   exact ⟨_, rfl, rfl⟩
 by_cases hlt : l.findIdx (fun p => decide (q = p)) < l.length
 · rw [if_pos hlt]
   have hp := List.findIdx_getElem (xs := l) (p := fun p => decide (q = p)) (w := hlt)
   have hq := Z0hq q l[l.findIdx (fun p => decide (q = p))]
   have hat := Z1l Z14 (List.getElem?_eq_getElem hlt)
   have hp' : decide (q = l[l.findIdx (fun p => decide (q = p))]) = true := hp
   rw [hp'] at hq
   clear hp hp'
   generalize l[l.findIdx (fun p => decide (q = p))] = p at *
   generalize l.findIdx (fun p => decide (q = p)) = m at *
   have g1 : (m : Int) < l.length := by omega
   simp only [bc] at hat hq hlo ⊢
   have hloop := loopN (f := (execA E C (fg 123) 0 19 [] 1000 ZaC)) (fun i => ([(8, .int .i64 i), (7, .int .i64 l.length), (3, .ptr 3 0 2), (0, .imm (cls bc l) l.length ex)], [(3, ⟨.box, [.int .i64 q.1, .int .i64 q.2]⟩)])) m hlo rfl (by omega)
     (e := .ret) (se := ([(4, .int .i64 m)], [(3, ⟨.box, [.int .i64 q.1, .int .i64 q.2]⟩)]))
     (by simp (disch := omega) only [Z0o, Z8, Z0e, Bool.not_true, Bool.not_false, Zc, Za, Z2, Z1, Z3, Z0, Zd, Zo, Zm, stp, just, Rd.bind, Rd.run, Rd.opt, upds, tsz, rdCells, aLoad, Z5, aNum, aBin, aInt, Nat.reduceAdd, Nat.reduceLT, Nat.reduceBEq, Nat.reduceEqDiff, Nat.reduceLeDiff, ↓reduceIte, reduceCtorEq, Zf, Nat.zero_add, ZE, ZH, ZO, ZP, Zz, ZL, Zt, Zn, ZC, Zv, stpT, Rd.foot, writing, Zq, Tr.empty, Zs, apartT, disj, List.isEmpty_nil, List.isEmpty_cons, List.map_nil, Bool.not_false, Bool.not_true, Bool.true_or, Bool.or_true, Bool.or_false, Bool.and_true, Bool.true_and, Bool.and_self, decide_true, Z7, and_true, Int.natCast_nonneg, Int.toNat_natCast, Option.map_some, List.elem_cons, List.elem_nil, List.length_cons, List.length_nil, List.drop_zero, List.take_succ_cons, List.take_nil, seqN, bindN, regN, List.all_nil, Nat.le_refl, beq_self_eq_true, Bool.false_eq_true, T_23, T_64, List.all_nil, beq_self_eq_true, ZRE, ZlK, Zlr, ZtR, ZvL, ZtI, ZVI, ZML, ZEv, ZFd, Z01P, ZSi, ZwJ, ZwC, ZLG, ZDJ, ZGz, ZHv, ZCH, ZR4, Z00z, ZPg, ZIw, ZTj, ZXs, Z02W, Z00Q, ZZr, Z00e, Z05N, ZW7, Z05j, ZS8, ZC7, g1, hat, hlen, hq, if_pos]) (by simp)
   simp only [cl0] at hloop
   simp (disch := omega) only [Z0o, Z0e, ZF, Zc, Za, Z2, Z1, Z3, Z0, Zl, Zx, Zw, Zm, stp, opBox, just, Rd.bind, Rd.run, upds, acells, resA, resL, fresh, aLen, Zh, Nat.reduceAdd, Nat.reduceBEq, Nat.reduceEqDiff, Nat.reduceLeDiff, ↓reduceIte, reduceCtorEq, Nat.zero_add, List.getElem?_toArray, Z7, Option.map_some, List.elem_cons, List.elem_nil, List.length_cons, List.length_nil, List.getElem?_cons_zero, seqN, bindN, regN, beq_self_eq_true, Bool.false_eq_true, T_23, beq_self_eq_true, Z0b3, ZFP, ZRA, ZBT, Z09T, ZTl, ZP5, ZHN, ZBB, Z08b, Z08i, Z0aM, Z0bK, Z08P, Z0hl, hloop]
 · rw [if_neg hlt]
   have e : l.findIdx (fun p => decide (q = p)) = l.length := by omega
   simp only [bc] at hlo ⊢
   have hloop := loopN (f := (execA E C (fg 123) 0 19 [] 1000 ZaC)) (fun i => ([(8, .int .i64 i), (7, .int .i64 l.length), (3, .ptr 3 0 2), (0, .imm (cls bc l) l.length ex)], [(3, ⟨.box, [.int .i64 q.1, .int .i64 q.2]⟩)])) l.length (fun i hi => hlo i (by omega)) rfl (by omega)
     (e := .exit 0) (se := ([(9, .bool false), (8, .int .i64 l.length), (7, .int .i64 l.length), (3, .ptr 3 0 2), (0, .imm (cls bc l) l.length ex)], [(3, ⟨.box, [.int .i64 q.1, .int .i64 q.2]⟩)]))
     (by simp (disch := omega) only [ZR, Z8, Zc, Za, Z2, Z1, Z3, Z0, Zo, stp, just, Rd.bind, Rd.run, Rd.opt, upds, aBin, aInt, Nat.reduceEqDiff, Nat.reduceLeDiff, ↓reduceIte, decide_false, Z7, List.elem_nil, seqN, bindN, regN, Int.lt_irrefl, Bool.false_eq_true, ZRE, ZlK, Zlr, ZtR, ZvL, ZtI, ZS8, ZC7]) (by simp)
   simp only [cl0] at hloop
   simp (disch := omega) only [ZJ, ZF, Zc, Za, Z2, Z0G, Z1, Z3, Z0, Zl, Zx, Zw, Zo, Zm, stp, opBox, just, Rd.bind, Rd.run, upds, acells, resA, resL, fresh, aLen, Zh, Nat.reduceAdd, Nat.reduceBEq, Nat.reduceEqDiff, Nat.reduceLeDiff, Int.reduceNeg, ↓reduceIte, reduceCtorEq, Nat.zero_add, List.getElem?_toArray, Z7, Option.map_some, List.elem_cons, List.elem_nil, List.length_cons, List.length_nil, List.getElem?_cons_zero, seqN, bindN, regN, beq_self_eq_true, Bool.false_eq_true, T_23, beq_self_eq_true, Z0b3, ZFP, ZRA, ZBT, Z09T, ZTl, ZP5, ZHN, ZBB, Z08b, Z08i, Z0aM, Z0kR, Z0h8, Z0dr, Z0mn, Z0j6, Z0bK, Z08P, Z0hl, hloop]
theorem Z0d4 {d : Nat} {l : List Pr} {q : Pr} {ex : Bool} {site : Nat → Nat} {seen : List Nat} (hl : l.length < 900) :
   aBack site true seen (thaw (callA E fg 1000 (d + 1)) 123 [.imm (cls bc l) l.length ex, .agg (bc q)] [] 0) = .pure (.int .i64 (if l.findIdx (fun p => decide (q = p)) < l.length then (l.findIdx (fun p => decide (q = p)) : Int) else -1), []) :=
 Z1k (Z1j (Z0jR hl))
theorem Z0ip {d : Nat} {l : List Pr} {q : Pr} {ex : Bool} (hl : l.length < 900) :
   rsOf (bodyA E (callA E fg 1000 (d + 1)) fg 1000 79 [.imm (cls bc l) l.length ex, .agg (bc q)] [] 0) = some (.bool (decide (q ∈ l))) := by
 have hc := fun (site : Nat → Nat) seen => Z0d4 (d := d) (ex := ex) (q := q) (site := site) (seen := seen) hl
 have e : decide (q ∈ l) = decide ((if l.findIdx (fun p => decide (q = p)) < l.length then (l.findIdx (fun p => decide (q = p)) : Int) else -1) ≥ 0) := by
   refine decide_eq_decide.2 ?_
   have := List.findIdx_lt_length (xs := l) (p := fun p => decide (q = p))
   have h2 : (∃ x, x ∈ l ∧ decide (q = x) = true) ↔ q ∈ l := by simp
   rw [← h2, ← this]
   split <;> omega
 rw [e]
 generalize (if l.findIdx (fun p => decide (q = p)) < l.length then (l.findIdx (fun p => decide (q = p)) : Int) else -1) = z at *
 simp only [bc] at hc ⊢
 generalize callA E fg 1000 (d + 1) = C at *
 simp (disch := omega) only [ZF, Zc, Za, Z2, Z1, Z3, Z0, Zl, Zd, Zx, Zw, Zm, stp, opBox, just, Rd.bind, Rd.run, Rd.opt, upds, acells, rdCells, aLoad, resA, resL, fresh, aBin, aInt, Nat.reduceAdd, Nat.reduceBEq, Nat.reduceEqDiff, Nat.reduceLeDiff, ↓reduceIte, reduceCtorEq, Zf, Nat.zero_add, Z7, aCall, snaps, List.append_nil, Option.map_some, List.elem_cons, List.elem_nil, List.length_cons, List.length_nil, List.drop_zero, List.take_succ_cons, List.take_nil, seqN, bindN, regN, Zr, Z0n, ZQ, Nat.le_refl, beq_self_eq_true, Bool.false_eq_true, T_64, beq_self_eq_true, Z0rp, Z0iG, Z0jO, Z0nb, Z0rj, Z0if, Z0jw, Z0kc, Z0lI, Z0n3, Z0jY, Z0rr, Z0sl, Z0sU, b_79, hc]
theorem Z0fv {d : Nat} {l : List Pr} {q : Pr} {ex : Bool} {site : Nat → Nat} {seen : List Nat} (hl : l.length < 900) :
   aBack site true seen (thaw (callA E fg 1000 (d + 2)) 79 [.imm (cls bc l) l.length ex, .agg (bc q)] [] 0) = .pure (.bool (decide (q ∈ l)), []) :=
 Z5Z (Z1j (Z0ip hl))
end Go.AM.YtgfnbmfjbjopkaaDoor
end
end
