/- A part of the proof of muleDue_card: DuJ. Own work of this project; texts printed by own programs among it. -/
import Derived.KernelRfl
import Derived.Test.YtgfnbmfjbjopkaaDoorDwI
set_option maxRecDepth 1000000
set_option maxHeartbeats 16000000
noncomputable section
noncomputable section
namespace Go.AM.YtgfnbmfjbjopkaaDoor
open Go Go.AM
variable {C : Callee} {B N : Nat} {E0 : AHeap} (φ : AFr) (H : AHeap) (s : St)
def Zst := kBody Proofs.Tryd.f94
def Z0de := kL Zst
def Z9o := kO Z0de
def Z01Y := opN Z9o 0
def Z0bb := opN Z9o 1
def ZYJ := opN Z9o 2
def Z0bY := opN Z9o 3
theorem Z0FH : XG 94 102 Z0de Z9o [0, 4, 5, 6] := Z7 (by rfl) (by rfl) _
theorem Z0zg : Z9o.toList = [Z01Y, Z0bb, ZYJ, Z0bY] := nf
theorem Z0Ax : stepA E C B 102 Z9o Z01Y (φ, H) = stp (some 2) φ H (opBox (B + 2) (acells (fget φ 0))) := nf
theorem Z0xF : stepA E C B 102 Z9o Z0bb (φ, H) = some (fput φ 4 (.nilsl), H) := nf
theorem Z0yJ : stepA E C B 102 Z9o ZYJ (φ, H) = some (fput φ 5 (.nilsl), H) := nf
theorem Z0vM : stepA E C B 102 Z9o Z0bY (φ, H) = some (fput φ 6 (.nilsl), H) := nf
def ZB3 := kR Zst
def Z0ew := kL ZB3
def Z4D := kO Z0ew
def ZYk := opN Z4D 0
def Z05W := opN Z4D 1
def Z01c := opN Z4D 2
def ZYQ := opN Z4D 3
def Z047 := opN Z4D 4
theorem Z0FA : XG 94 102 Z0ew Z4D [15, 16, 17, 18] := Z7 (by rfl) (by rfl) _
theorem Z0vB : Z4D.toList = [ZYk, Z05W, Z01c, ZYQ, Z047] := nf
theorem Z0x2 : stepA E C B 102 Z4D ZYk (φ, H) = stp (some 15) φ H (just (aLoad E.T 109 (fget φ 2))) := nf
theorem Z0sI : stepA E C B 102 Z4D Z05W (φ, H) = stp (some 16) φ H (aCall C (fun j => B + j * 102 + 16) true 95 [(fget φ 15)]) := nf
theorem Z0AK : stepA E C B 102 Z4D Z01c (φ, H) = stp (some 17) φ H (justO (aConv E.T 121 3 (fget φ 16))) := nf
theorem Z0xP : stepA E C B 102 Z4D ZYQ (φ, H) = stp (some 18) φ H (just (aBin E.T .add 3 (fget φ 17) (.int .i64 1))) := nf
theorem Z0yg : stepA E C B 102 Z4D Z047 (φ, H) = some (fput φ 7 (fget φ 18), H) := nf
def ZBQ := kR ZB3
def Z0dJ := kL ZBQ
def Z0Y := kO Z0dJ
def Z036 := opN Z0Y 0
def Z02r := opN Z0Y 1
def Z01u := opN Z0Y 2
def Z0aD := opN Z0Y 3
def ZXW := opN Z0Y 4
def Z044 := opN Z0Y 5
def Z0aC := opN Z0Y 6
def Z08x := opN Z0Y 7
def Z08D := opN Z0Y 8
theorem Z0GC : XD 94 102 Z0dJ Z0Y [7, 19, 20, 21, 22, 23, 24] := Z0L (by rfl) (by rfl) _
theorem Z0xQ : Z0Y.toList = [Z036, Z02r, Z01u, Z0aD, ZXW, Z044, Z0aC, Z08x, Z08D] := nf
theorem Z0pm : statOk Z0Y = true := by kernel_rfl
theorem Z0nY : drawA E C B 102 Z0Y s = if neat 102 s = true then drX Z0Y (runT E C B 102 Z0Y Z0Y.toList 0 s) else none := Z0w Z0pm s
theorem Z0lv (l : List (Nat × Tr)) : dynOk Z0Y l = (!writing l || Zu [[], [0], [], [2], [], [4], [0, 1], [0, 1, 2, 3, 6], [0, 1, 2, 3, 4, 5, 6, 7]] (Zr l)) := Z0g (by kernel_rfl) l
theorem Z0u9 : stepT E C B 102 Z0Y Z036 (φ, H) = some ((fput φ 19 (fget φ 7), H), ⟨false, [], []⟩) := Z8 rfl (Zt rfl rfl)
theorem Z0uc : stepT E C B 102 Z0Y Z02r (φ, H) = stpT (some 20) φ H (aMake E.T (B + 20) 36 (fget φ 19) (fget φ 19)) := Z8 rfl (Zg rfl rfl)
theorem Z0vE : stepT E C B 102 Z0Y Z01u (φ, H) = some ((fput φ 21 (fget φ 7), H), ⟨false, [], []⟩) := Z8 rfl (Zt rfl rfl)
theorem Z0sY : stepT E C B 102 Z0Y Z0aD (φ, H) = stpT (some 22) φ H (aMake E.T (B + 22) 36 (fget φ 21) (fget φ 21)) := Z8 rfl (Zg rfl rfl)
theorem Z0ve : stepT E C B 102 Z0Y ZXW (φ, H) = some ((fput φ 23 (fget φ 7), H), ⟨false, [], []⟩) := Z8 rfl (Zt rfl rfl)
theorem Z0uv : stepT E C B 102 Z0Y Z044 (φ, H) = stpT (some 24) φ H (aMake E.T (B + 24) 36 (fget φ 23) (fget φ 23)) := Z8 rfl (Zg rfl rfl)
theorem Z0ui : stepT E C B 102 Z0Y Z0aC (φ, H) = some ((fput φ 4 (fget φ 20), H), ⟨false, [], []⟩) := Z8 rfl (Zt rfl rfl)
theorem Z0tu : stepT E C B 102 Z0Y Z08x (φ, H) = some ((fput φ 5 (fget φ 22), H), ⟨false, [], []⟩) := Z8 rfl (Zt rfl rfl)
theorem Z0zA : stepT E C B 102 Z0Y Z08D (φ, H) = some ((fput φ 6 (fget φ 24), H), ⟨false, [], []⟩) := Z8 rfl (Zt rfl rfl)
def ZC5 := kR ZBQ
def Z0ed := kL ZC5
def Z3h := kO Z0ed
def Z04X := opN Z3h 0
def ZYq := opN Z3h 1
def Z08Q := opN Z3h 2
def Z04n := opN Z3h 3
def Z00U := opN Z3h 4
def ZYE := opN Z3h 5
theorem Z0I8 : XG 94 102 Z0ed Z3h [25, 26, 27, 28] := Z7 (by rfl) (by rfl) _
theorem Z0sZ : Z3h.toList = [Z04X, ZYq, Z08Q, Z04n, Z00U, ZYE] := nf
theorem Z0sp : stepA E C B 102 Z3h Z04X (φ, H) = some (fput φ 25 (fget φ 5), H) := nf
theorem Z0wp : stepA E C B 102 Z3h ZYq (φ, H) = some (fput φ 26 (fget φ 6), H) := nf
theorem Z0sS : stepA E C B 102 Z3h Z08Q (φ, H) = stp (some 27) φ H (just (Z6 E.T 36 (fget φ 25) (.int .i64 0))) := nf
theorem Z0w8 : stepA E C B 102 Z3h Z04n (φ, H) = stp none φ H (opStore E.T 3 (fget φ 27) (.int .i64 1)) := nf
theorem Z0wu : stepA E C B 102 Z3h Z00U (φ, H) = stp (some 28) φ H (just (Z6 E.T 36 (fget φ 26) (.int .i64 0))) := nf
theorem Z0vk : stepA E C B 102 Z3h ZYE (φ, H) = stp none φ H (opStore E.T 3 (fget φ 28) (.int .i64 1)) := nf
def ZBP := kR ZC5
def ZB2 := kL ZBP
def ZLS := kL ZB2
def ZAL := kO ZLS
def Z0aX := opN ZAL 0
theorem Z0BP : XG 94 102 ZLS ZAL [] := Z7 (by rfl) (by rfl) _
theorem Z0sc : ZAL.toList = [Z0aX] := nf
theorem Z0vq : stepA E C B 102 ZAL Z0aX (φ, H) = some (fput φ 8 (.int .u64 1), H) := nf
def ZQO := kR ZB2
def ZMP := kB ZQO
def ZbJ := kB ZMP
def Zrg := kL ZbJ
def ZJp := kL Zrg
def Z9f := kO ZJp
def ZZq := opN Z9f 0
def Z03o := opN Z9f 1
def Z00r := opN Z9f 2
def Z0ba := opN Z9f 3
theorem Z0h1 : XG 94 102 ZJp Z9f [29, 30, 31] := Z7 (by rfl) (by rfl) _
theorem Z07m : Z9f.toList = [ZZq, Z03o, Z00r, Z0ba] := nf
theorem Z0c4 : stepA E C B 102 Z9f ZZq (φ, H) = some (fput φ 29 (fget φ 8), H) := nf
theorem Z03k : stepA E C B 102 Z9f Z03o (φ, H) = stp (some 30) φ H (just (aLoad E.T 109 (fget φ 2))) := nf
theorem Z022 : stepA E C B 102 Z9f Z00r (φ, H) = stp (some 31) φ H (aCall C (fun j => B + j * 102 + 31) true 95 [(fget φ 30)]) := nf
theorem ZXU : stepA E C B 102 Z9f Z0ba (φ, H) = stp (some 32) φ H (just (aBin E.T .leq 121 (fget φ 29) (fget φ 31))) := nf
def ZnU := kR Zrg
def Z0iE := kT ZnU
theorem Z0f7 : execA E C (fg 94) B 102 E0 N Z0iE s = some (.normal, s) := ZQ (by rfl) s
def Z0j1 := kE ZnU
theorem Z0i5 : execA E C (fg 94) B 102 E0 N Z0j1 s = some (.exit 0, s) := Z0i (by rfl) s
theorem Z0g8 : XC 94 102 ZnU 32 Z0iE Z0j1 := ZF (by rfl) _
theorem Z0jD : XQ 94 102 Zrg ZJp ZnU := Z1 (by rfl) _
def ZsB := kR ZbJ
def ZCH := kL ZsB
def ZrK := kB ZCH
def ZUt := kL ZrK
def ZBi := kO ZUt
def Z00Z := opN ZBi 0
theorem Z0C8 : XG 94 102 ZUt ZBi [32] := Z7 (by rfl) (by rfl) _
theorem Z0vz : ZBi.toList = [Z00Z] := nf
theorem Z0ze : stepA E C B 102 ZBi Z00Z (φ, H) = some (fput φ 9 (.bool true), H) := nf
def Zpo := kR ZrK
def ZVH := kL Zpo
def Z4F := kO ZVH
def Z0be := opN Z4F 0
def Z029 := opN Z4F 1
def ZZa := opN Z4F 2
def Z00E := opN Z4F 3
def Z00b := opN Z4F 4
theorem Z0EH : XG 94 102 ZVH Z4F [35, 36] := Z7 (by rfl) (by rfl) _
theorem Z0zf : Z4F.toList = [Z0be, Z029, ZZa, Z00E, Z00b] := nf
theorem Z0wL : stepA E C B 102 Z4F Z0be (φ, H) = stp (some 35) φ H (just (aLoad E.T 109 (fget φ 2))) := nf
theorem Z0vR : stepA E C B 102 Z4F Z029 (φ, H) = some (fput φ 36 (fget φ 8), H) := nf
theorem Z0yn : stepA E C B 102 Z4F ZZa (φ, H) = stp (some 37) φ H (aCall C (fun j => B + j * 102 + 37) true 128 [(fget φ 35), (fget φ 36)]) := nf
theorem Z0yv : stepA E C B 102 Z4F Z00E (φ, H) = stp (some 38) φ H (Zf E.T (B + 38) .len #[36] [(fget φ 37)]) := nf
theorem Z0up : stepA E C B 102 Z4F Z00b (φ, H) = some (fput φ 39 (.int .i64 0), H) := nf
def ZLk := kR Zpo
def ZKj := kB ZLk
def Zbg := kB ZKj
def ZWA := kL Zbg
def ZC0 := kO ZWA
def Z05d := opN ZC0 0
theorem Zbh : XG 94 102 ZWA ZC0 [] := Z7 (by rfl) (by rfl) _
theorem Z8r : ZC0.toList = [Z05d] := nf
theorem Z7c : stepA E C B 102 ZC0 Z05d (φ, H) = stp (some 40) φ H (just (aBin E.T .lss 3 (fget φ 39) (fget φ 38))) := nf
def ZrZ := kR Zbg
def Zs2 := kL ZrZ
def Z0gC := kT Zs2
theorem Zb9 : execA E C (fg 94) B 102 E0 N Z0gC s = some (.normal, s) := ZQ (by rfl) s
def Z0jB := kE Zs2
theorem ZbE : execA E C (fg 94) B 102 E0 N Z0jB s = some (.exit 2, s) := Z0i (by rfl) s
theorem Zbb : XC 94 102 Zs2 40 Z0gC Z0jB := ZF (by rfl) _
def Zne := kR ZrZ
def ZSl := kL Zne
def Zr6 := kB ZSl
def ZRX := kL Zr6
def Z9C := kO ZRX
def ZSL := opN Z9C 0
def ZHb := opN Z9C 1
def ZRM := opN Z9C 2
theorem ZdB : XG 94 102 ZRX Z9C [40, 41, 42] := Z7 (by rfl) (by rfl) _
theorem Z8z : Z9C.toList = [ZSL, ZHb, ZRM] := nf
theorem Z60 : stepA E C B 102 Z9C ZSL (φ, H) = stp (some 41) φ H (just (Z6 E.T 36 (fget φ 37) (fget φ 39))) := nf
theorem Z8c : stepA E C B 102 Z9C ZHb (φ, H) = stp (some 42) φ H (just (aLoad E.T 3 (fget φ 41))) := nf
theorem Z8Z : stepA E C B 102 Z9C ZRM (φ, H) = some (fput φ 11 (fget φ 42), H) := nf
def Zr0 := kR Zr6
def ZIb := kL Zr0
def Z36 := kO ZIb
def ZPG := opN Z36 0
def ZRN := opN Z36 1
def ZPr := opN Z36 2
def ZRb := opN Z36 3
def ZMX := opN Z36 4
theorem Zdf : XG 94 102 ZIb Z36 [43, 44, 45, 46] := Z7 (by rfl) (by rfl) _
theorem Z8y : Z36.toList = [ZPG, ZRN, ZPr, ZRb, ZMX] := nf
theorem Z8T : stepA E C B 102 Z36 ZPG (φ, H) = some (fput φ 43 (fget φ 8), H) := nf
theorem Z70 : stepA E C B 102 Z36 ZRN (φ, H) = some (fput φ 44 (fget φ 11), H) := nf
theorem Z6Q : stepA E C B 102 Z36 ZPr (φ, H) = stp (some 45) φ H (just (aBin E.T .shl 121 (.int .u64 1) (fget φ 44))) := nf
theorem Z6c : stepA E C B 102 Z36 ZRb (φ, H) = stp (some 46) φ H (just (aBin E.T .andNot 121 (fget φ 43) (fget φ 45))) := nf
theorem Z5M : stepA E C B 102 Z36 ZMX (φ, H) = some (fput φ 12 (fget φ 46), H) := nf
def Zrw := kR Zr0
def ZCP := kL Zrw
def Z0y := kO ZCP
def ZRi := opN Z0y 0
def ZOg := opN Z0y 1
def ZDL := opN Z0y 2
def ZQq := opN Z0y 3
def ZEG := opN Z0y 4
def ZQ2 := opN Z0y 5
def ZNx := opN Z0y 6
def ZVT := opN Z0y 7
def ZOu := opN Z0y 8
def ZKs := opN Z0y 9
theorem Zd5 : XD 94 102 ZCP Z0y [11, 47, 48, 49, 50, 51, 52, 53, 54, 55] := Z0L (by rfl) (by rfl) _
theorem Z6H : Z0y.toList = [ZRi, ZOg, ZDL, ZQq, ZEG, ZQ2, ZNx, ZVT, ZOu, ZKs] := nf
theorem Z0gi : statOk Z0y = true := by kernel_rfl
theorem Z50 : drawA E C B 102 Z0y s = if neat 102 s = true then drX Z0y (runT E C B 102 Z0y Z0y.toList 0 s) else none := Z0w Z0gi s
theorem Z4Z (l : List (Nat × Tr)) : dynOk Z0y l = (!writing l || Zu [[], [0], [], [0, 1, 2], [0, 1, 2, 3], [], [], [5, 6], [0, 1, 2, 3, 4, 5, 6, 7], [0, 1, 2, 3, 4, 5, 6, 7, 8]] (Zr l)) := Z0g (by kernel_rfl) l
theorem Z8O : stepT E C B 102 Z0y ZRi (φ, H) = stpT (some 47) φ H (just (Zb E.T 109 (fget φ 2) 0)) := Z8 rfl (Zg rfl rfl)
theorem Z8P : stepT E C B 102 Z0y ZOg (φ, H) = stpT (some 48) φ H (just (aLoad E.T 106 (fget φ 47))) := Z8 rfl (Zg rfl rfl)
theorem Z82 : stepT E C B 102 Z0y ZDL (φ, H) = some ((fput φ 49 (fget φ 11), H), ⟨false, [], []⟩) := Z8 rfl (Zt rfl rfl)
theorem Z5U : stepT E C B 102 Z0y ZQq (φ, H) = stpT (some 50) φ H (just (Z6 E.T 106 (fget φ 48) (fget φ 49))) := Z8 rfl (Zg rfl rfl)
theorem Z6o : stepT E C B 102 Z0y ZEG (φ, H) = stpT (some 51) φ H (just (aLoad E.T 126 (fget φ 50))) := Z8 rfl (Zg rfl rfl)
theorem Z7b : stepT E C B 102 Z0y ZQ2 (φ, H) = stpT (some 52) φ H (just (aLoad E.T 109 (fget φ 2))) := Z8 rfl (Zg rfl rfl)
theorem Z7g : stepT E C B 102 Z0y ZNx (φ, H) = some ((fput φ 53 (fget φ 8), H), ⟨false, [], []⟩) := Z8 rfl (Zt rfl rfl)
theorem Z8Q : stepT E C B 102 Z0y ZVT (φ, H) = stpT (some 54) φ H (aCall C (fun j => B + j * 102 + 54) true 100 [(fget φ 52), (fget φ 53)]) := Z8 rfl (Zg rfl rfl)
theorem Z8s : stepT E C B 102 Z0y ZOu (φ, H) = stpT (some 55) φ H (aCall C (fun j => B + j * 102 + 55) true 99 [(fget φ 51), (fget φ 54)]) := Z8 rfl (Zg rfl rfl)
theorem Z5C : stepT E C B 102 Z0y ZKs (φ, H) = some ((fput φ 13 (fget φ 55), H), ⟨false, [], []⟩) := Z8 rfl (Zt rfl rfl)
def Zqx := kR Zrw
def ZUT := kL Zqx
def Z1A := kO ZUT
def ZGg := opN Z1A 0
def ZUd := opN Z1A 1
def ZFs := opN Z1A 2
def ZCA := opN Z1A 3
def ZSM := opN Z1A 4
def ZPK := opN Z1A 5
def ZSC := opN Z1A 6
theorem ZcR : XG 94 102 ZUT Z1A [56, 57, 58, 59, 60, 61] := Z7 (by rfl) (by rfl) _
theorem Z5H : Z1A.toList = [ZGg, ZUd, ZFs, ZCA, ZSM, ZPK, ZSC] := nf
theorem Z8b : stepA E C B 102 Z1A ZGg (φ, H) = some (fput φ 56 (fget φ 4), H) := nf
theorem Z67 : stepA E C B 102 Z1A ZUd (φ, H) = some (fput φ 57 (fget φ 12), H) := nf
theorem Z5P : stepA E C B 102 Z1A ZFs (φ, H) = stp (some 58) φ H (just (Z6 E.T 36 (fget φ 56) (fget φ 57))) := nf
theorem Z6t : stepA E C B 102 Z1A ZCA (φ, H) = stp (some 59) φ H (just (aLoad E.T 3 (fget φ 58))) := nf
theorem Z6g : stepA E C B 102 Z1A ZSM (φ, H) = some (fput φ 60 (fget φ 13), H) := nf
theorem Z86 : stepA E C B 102 Z1A ZPK (φ, H) = stp (some 61) φ H (Zf E.T (B + 61) .max #[3, 3] [(fget φ 59), (fget φ 60)]) := nf
theorem Z6e : stepA E C B 102 Z1A ZSC (φ, H) = some (fput φ 14 (fget φ 61), H) := nf
def Znq := kR Zqx
def Zoj := kL Znq
def ZPj := kL Zoj
def Z17 := kO ZPj
def ZEe := opN Z17 0
def Z3X := opN Z17 1
def ZKF := opN Z17 2
def ZWh := opN Z17 3
def ZW0 := opN Z17 4
def ZNY := opN Z17 5
def ZDP := opN Z17 6
def ZWj := opN Z17 7
def ZXh := opN Z17 8
theorem ZdK : XG 94 102 ZPj Z17 [62, 63, 64, 65, 66, 67, 68, 69] := Z7 (by rfl) (by rfl) _
theorem Z6M : Z17.toList = [ZEe, Z3X, ZKF, ZWh, ZW0, ZNY, ZDP, ZWj, ZXh] := nf
theorem Z7r : stepA E C B 102 Z17 ZEe (φ, H) = some (fput φ 62 (fget φ 9), H) := nf
theorem Z6O : stepA E C B 102 Z17 Z3X (φ, H) = some (fput φ 63 (fget φ 62), H) := nf
theorem Z7l : stepA E C B 102 Z17 ZKF (φ, H) = gd φ 63 false (fun φ => some (fput φ 64 (.tup []), H)) (fun φ => some (fput φ 64 (fget φ 14), H)) := s_gd (j := 1) (oj := Z3X) rfl rfl rfl (fun _ => rfl) (fun _ => rfl)
theorem Z80 : stepA E C B 102 Z17 ZWh (φ, H) = gd φ 63 false (fun φ => some (fput φ 65 (.tup []), H)) (fun φ => some (fput φ 65 (fget φ 4), H)) := s_gd (j := 1) (oj := Z3X) rfl rfl rfl (fun _ => rfl) (fun _ => rfl)
theorem Z5Z : stepA E C B 102 Z17 ZW0 (φ, H) = gd φ 63 false (fun φ => some (fput φ 66 (.tup []), H)) (fun φ => some (fput φ 66 (fget φ 8), H)) := s_gd (j := 1) (oj := Z3X) rfl rfl rfl (fun _ => rfl) (fun _ => rfl)
theorem Z8q : stepA E C B 102 Z17 ZNY (φ, H) = gd φ 63 false (fun φ => some (fput φ 67 (.tup []), H)) (fun φ => stp (some 67) φ H (just (Z6 E.T 36 (fget φ 65) (fget φ 66)))) := s_gd (j := 1) (oj := Z3X) rfl rfl rfl (fun _ => rfl) (fun _ => rfl)
theorem Z5Y : stepA E C B 102 Z17 ZDP (φ, H) = gd φ 63 false (fun φ => some (fput φ 68 (.tup []), H)) (fun φ => stp (some 68) φ H (just (aLoad E.T 3 (fget φ 67)))) := s_gd (j := 1) (oj := Z3X) rfl rfl rfl (fun _ => rfl) (fun _ => rfl)
theorem Z8J : stepA E C B 102 Z17 ZWj (φ, H) = gd φ 63 false (fun φ => some (fput φ 69 (.tup []), H)) (fun φ => stp (some 69) φ H (just (aBin E.T .lss 3 (fget φ 64) (fget φ 68)))) := s_gd (j := 1) (oj := Z3X) rfl rfl rfl (fun _ => rfl) (fun _ => rfl)
theorem Z7z : stepA E C B 102 Z17 ZXh (φ, H) = stp (some 70) φ H (opPick (fget φ 63) (.bool true) (fget φ 69)) := nf
def ZpP := kR Zoj
def ZO6 := kT ZpP
def Z28 := kO ZO6
def ZXr := opN Z28 0
def ZNN := opN Z28 1
def ZVL := opN Z28 2
def ZGT := opN Z28 3
def ZHi := opN Z28 4
def ZV4 := opN Z28 5
theorem Zel : XG 94 102 ZO6 Z28 [14, 70, 71, 72, 73, 74] := Z7 (by rfl) (by rfl) _
theorem Z8G : Z28.toList = [ZXr, ZNN, ZVL, ZGT, ZHi, ZV4] := nf
theorem Z95 : stepA E C B 102 Z28 ZXr (φ, H) = some (fput φ 71 (fget φ 4), H) := nf
theorem Z8L : stepA E C B 102 Z28 ZNN (φ, H) = some (fput φ 72 (fget φ 8), H) := nf
theorem Z8o : stepA E C B 102 Z28 ZVL (φ, H) = some (fput φ 73 (fget φ 14), H) := nf
theorem Z5Q : stepA E C B 102 Z28 ZGT (φ, H) = stp (some 74) φ H (just (Z6 E.T 36 (fget φ 71) (fget φ 72))) := nf
theorem Z93 : stepA E C B 102 Z28 ZHi (φ, H) = stp none φ H (opStore E.T 3 (fget φ 74) (fget φ 73)) := nf
theorem Z68 : stepA E C B 102 Z28 ZV4 (φ, H) = some (fput φ 9 (.bool false), H) := nf
def Z0gE := kE ZpP
theorem Zdi : execA E C (fg 94) B 102 E0 N Z0gE s = some (.normal, s) := ZQ (by rfl) s
theorem Ze4 : XC 94 102 ZpP 70 ZO6 Z0gE := ZF (by rfl) _
theorem ZdV : XQ 94 102 Zoj ZPj ZpP := Z1 (by rfl) _
def Zsg := kR Znq
def ZX2 := kL Zsg
def Z0n := kO ZX2
def ZOy := opN Z0n 0
def ZKB := opN Z0n 1
def ZWd := opN Z0n 2
def ZSb := opN Z0n 3
def ZDd := opN Z0n 4
def ZO2 := opN Z0n 5
def ZGa := opN Z0n 6
def ZQL := opN Z0n 7
def ZRt := opN Z0n 8
def ZQ1 := opN Z0n 9
def Zzs := opN Z0n 10
theorem ZcM : XD 94 102 ZX2 Z0n [14, 70, 75, 76, 77, 78, 79, 80, 81, 82, 83, 84] := Z0L (by rfl) (by rfl) _
theorem Z7O : Z0n.toList = [ZOy, ZKB, ZWd, ZSb, ZDd, ZO2, ZGa, ZQL, ZRt, ZQ1, Zzs] := nf
theorem Z0jg : statOk Z0n = true := by kernel_rfl
theorem Z4U : drawA E C B 102 Z0n s = if neat 102 s = true then drX Z0n (runT E C B 102 Z0n Z0n.toList 0 s) else none := Z0w Z0jg s
theorem Z58 (l : List (Nat × Tr)) : dynOk Z0n l = (!writing l || Zu [[], [], [0, 1], [0, 1, 2], [], [], [4, 5], [4, 5, 6], [0, 1, 2, 3, 4, 5, 6, 7], [0, 1, 2, 3, 4, 5, 6, 7, 8], [0, 1, 2, 3, 4, 5, 6, 7, 8, 9]] (Zr l)) := Z0g (by kernel_rfl) l
theorem Z8e : stepT E C B 102 Z0n ZOy (φ, H) = some ((fput φ 75 (fget φ 5), H), ⟨false, [], []⟩) := Z8 rfl (Zt rfl rfl)
theorem Z8f : stepT E C B 102 Z0n ZKB (φ, H) = some ((fput φ 76 (fget φ 8), H), ⟨false, [], []⟩) := Z8 rfl (Zt rfl rfl)
theorem Z8F : stepT E C B 102 Z0n ZWd (φ, H) = stpT (some 77) φ H (just (Z6 E.T 36 (fget φ 75) (fget φ 76))) := Z8 rfl (Zg rfl rfl)
theorem Z7k : stepT E C B 102 Z0n ZSb (φ, H) = stpT (some 78) φ H (just (aLoad E.T 3 (fget φ 77))) := Z8 rfl (Zg rfl rfl)
theorem Z76 : stepT E C B 102 Z0n ZDd (φ, H) = some ((fput φ 79 (fget φ 5), H), ⟨false, [], []⟩) := Z8 rfl (Zt rfl rfl)
theorem Z8j : stepT E C B 102 Z0n ZO2 (φ, H) = some ((fput φ 80 (fget φ 12), H), ⟨false, [], []⟩) := Z8 rfl (Zt rfl rfl)
theorem Z7q : stepT E C B 102 Z0n ZGa (φ, H) = stpT (some 81) φ H (just (Z6 E.T 36 (fget φ 79) (fget φ 80))) := Z8 rfl (Zg rfl rfl)
theorem Z7T : stepT E C B 102 Z0n ZQL (φ, H) = stpT (some 82) φ H (just (aLoad E.T 3 (fget φ 81))) := Z8 rfl (Zg rfl rfl)
theorem Z8K : stepT E C B 102 Z0n ZRt (φ, H) = stpT (some 83) φ H (just (aBin E.T .add 3 (fget φ 78) (fget φ 82))) := Z8 rfl (Zg rfl rfl)
theorem Z8S : stepT E C B 102 Z0n ZQ1 (φ, H) = stpT (some 84) φ H (just (Z6 E.T 36 (fget φ 75) (fget φ 76))) := Z8 rfl (Zg rfl rfl)
theorem Z4P : stepT E C B 102 Z0n Zzs (φ, H) = stpT none φ H (opStore E.T 3 (fget φ 84) (fget φ 83)) := Z8 rfl (Zg rfl rfl)
def Zp5 := kR Zsg
def ZVn := kL Zp5
def Z9W := kO ZVn
def ZX8 := opN Z9W 0
def ZUG := opN Z9W 1
def ZHR := opN Z9W 2
theorem ZcU : XG 94 102 ZVn Z9W [13, 85, 86] := Z7 (by rfl) (by rfl) _
theorem Z7m : Z9W.toList = [ZX8, ZUG, ZHR] := nf
theorem Z6P : stepA E C B 102 Z9W ZX8 (φ, H) = some (fput φ 85 (fget φ 13), H) := nf
theorem Z6h : stepA E C B 102 Z9W ZUG (φ, H) = some (fput φ 86 (fget φ 1), H) := nf
theorem Z7D : stepA E C B 102 Z9W ZHR (φ, H) = stp (some 87) φ H (just (aBin E.T .leq 3 (fget φ 85) (fget φ 86))) := nf
def Zr5 := kR Zp5
def ZQv := kT Zr5
def Z0o := kO ZQv
def ZXk := opN Z0o 0
def ZMe := opN Z0o 1
def ZKg := opN Z0o 2
def ZTV := opN Z0o 3
def ZEX := opN Z0o 4
def ZW9 := opN Z0o 5
def ZCZ := opN Z0o 6
def ZUb := opN Z0o 7
def ZRf := opN Z0o 8
def ZOq := opN Z0o 9
def Zy4 := opN Z0o 10
theorem Zda : XD 94 102 ZQv Z0o [12, 87, 88, 89, 90, 91, 92, 93, 94, 95, 96, 97] := Z0L (by rfl) (by rfl) _
theorem Z77 : Z0o.toList = [ZXk, ZMe, ZKg, ZTV, ZEX, ZW9, ZCZ, ZUb, ZRf, ZOq, Zy4] := nf
theorem Z0iq : statOk Z0o = true := by kernel_rfl
theorem Z52 : drawA E C B 102 Z0o s = if neat 102 s = true then drX Z0o (runT E C B 102 Z0o Z0o.toList 0 s) else none := Z0w Z0iq s
theorem Z4R (l : List (Nat × Tr)) : dynOk Z0o l = (!writing l || Zu [[], [], [0, 1], [0, 1, 2], [], [], [4, 5], [4, 5, 6], [0, 1, 2, 3, 4, 5, 6, 7], [0, 1, 2, 3, 4, 5, 6, 7, 8], [0, 1, 2, 3, 4, 5, 6, 7, 8, 9]] (Zr l)) := Z0g (by kernel_rfl) l
theorem Z7L : stepT E C B 102 Z0o ZXk (φ, H) = some ((fput φ 88 (fget φ 6), H), ⟨false, [], []⟩) := Z8 rfl (Zt rfl rfl)
theorem Z7Z : stepT E C B 102 Z0o ZMe (φ, H) = some ((fput φ 89 (fget φ 8), H), ⟨false, [], []⟩) := Z8 rfl (Zt rfl rfl)
theorem Z6C : stepT E C B 102 Z0o ZKg (φ, H) = stpT (some 90) φ H (just (Z6 E.T 36 (fget φ 88) (fget φ 89))) := Z8 rfl (Zg rfl rfl)
theorem Z8d : stepT E C B 102 Z0o ZTV (φ, H) = stpT (some 91) φ H (just (aLoad E.T 3 (fget φ 90))) := Z8 rfl (Zg rfl rfl)
theorem Z6l : stepT E C B 102 Z0o ZEX (φ, H) = some ((fput φ 92 (fget φ 6), H), ⟨false, [], []⟩) := Z8 rfl (Zt rfl rfl)
theorem Z5E : stepT E C B 102 Z0o ZW9 (φ, H) = some ((fput φ 93 (fget φ 12), H), ⟨false, [], []⟩) := Z8 rfl (Zt rfl rfl)
theorem Z78 : stepT E C B 102 Z0o ZCZ (φ, H) = stpT (some 94) φ H (just (Z6 E.T 36 (fget φ 92) (fget φ 93))) := Z8 rfl (Zg rfl rfl)
theorem Z8A : stepT E C B 102 Z0o ZUb (φ, H) = stpT (some 95) φ H (just (aLoad E.T 3 (fget φ 94))) := Z8 rfl (Zg rfl rfl)
theorem Z7U : stepT E C B 102 Z0o ZRf (φ, H) = stpT (some 96) φ H (just (aBin E.T .add 3 (fget φ 91) (fget φ 95))) := Z8 rfl (Zg rfl rfl)
theorem Z8l : stepT E C B 102 Z0o ZOq (φ, H) = stpT (some 97) φ H (just (Z6 E.T 36 (fget φ 88) (fget φ 89))) := Z8 rfl (Zg rfl rfl)
theorem Z54 : stepT E C B 102 Z0o Zy4 (φ, H) = stpT none φ H (opStore E.T 3 (fget φ 97) (fget φ 96)) := Z8 rfl (Zg rfl rfl)
def Z0gY := kE Zr5
theorem ZcW : execA E C (fg 94) B 102 E0 N Z0gY s = some (.normal, s) := ZQ (by rfl) s
theorem ZdE : XC 94 102 Zr5 87 ZQv Z0gY := ZF (by rfl) _
theorem Zdx : XQ 94 102 Zp5 ZVn Zr5 := Z1 (by rfl) _
theorem Zea : XQ 94 102 Zsg ZX2 Zp5 := Z1 (by rfl) _
theorem Ze8 : XQ 94 102 Znq Zoj Zsg := Z1 (by rfl) _
theorem ZcJ : XQ 94 102 Zqx ZUT Znq := Z1 (by rfl) _
theorem Zd6 : XQ 94 102 Zrw ZCP Zqx := Z1 (by rfl) _
theorem Zdd : XQ 94 102 Zr0 ZIb Zrw := Z1 (by rfl) _
theorem Zek : XQ 94 102 Zr6 ZRX Zr0 := Z1 (by rfl) _
theorem Zej : execA E C (fg 94) B 102 E0 N ZSl s = blockX 3 (fun s => (forget s.1 [12, 87], s.2)) (execA E C (fg 94) B 102 E0 N Zr6 s) := Zy (by rfl) (by rfl) s
def ZSi := kR Zne
def ZcS := kO ZSi
def ZGD := opN ZcS 0
def ZW4 := opN ZcS 1
theorem Ze9 : XG 94 102 ZSi ZcS [98] := Z7 (by rfl) (by rfl) _
theorem Z8p : ZcS.toList = [ZGD, ZW4] := nf
theorem Z7R : stepA E C B 102 ZcS ZGD (φ, H) = stp (some 98) φ H (just (aBin E.T .add 3 (fget φ 39) (.int .i64 1))) := nf
theorem Z6L : stepA E C B 102 ZcS ZW4 (φ, H) = some (fput φ 39 (fget φ 98), H) := nf
theorem Zd3 : XQ 94 102 Zne ZSl ZSi := Z1 (by rfl) _
theorem Zbl : XQ 94 102 ZrZ Zs2 Zne := Z1 (by rfl) _
theorem Zbd : XQ 94 102 Zbg ZWA ZrZ := Z1 (by rfl) _
theorem Z0EK : execA E C (fg 94) B 102 E0 N ZKj s = iterA (execA E C (fg 94) B 102 E0 N Zbg) (headA E0) N s := Z0h (by rfl) s
theorem Z0Bg : execA E C (fg 94) B 102 E0 N ZLk s = blockX 2 (fun s => (forget s.1 [9, 37, 38, 39, 40], s.2)) (execA E C (fg 94) B 102 E0 N ZKj s) := Zy (by rfl) (by rfl) s
theorem Z0Bj : XQ 94 102 Zpo ZVH ZLk := Z1 (by rfl) _
theorem Z0Bn : XQ 94 102 ZrK ZUt Zpo := Z1 (by rfl) _
theorem Z0Cw : execA E C (fg 94) B 102 E0 N ZCH s = blockX 1 (fun s => (forget s.1 [], s.2)) (execA E C (fg 94) B 102 E0 N ZrK s) := Zy (by rfl) (by rfl) s
def ZUC := kR ZsB
def Zc4 := kO ZUC
def ZZz := opN Zc4 0
def Z0ar := opN Zc4 1
def Z07M := opN Zc4 2
theorem Z0Cu : XG 94 102 ZUC Zc4 [33, 34] := Z7 (by rfl) (by rfl) _
theorem Z0tp : Zc4.toList = [ZZz, Z0ar, Z07M] := nf
theorem Z0wi : stepA E C B 102 Zc4 ZZz (φ, H) = some (fput φ 33 (fget φ 8), H) := nf
theorem Z0zb : stepA E C B 102 Zc4 Z0ar (φ, H) = stp (some 34) φ H (just (aBin E.T .add 121 (fget φ 33) (.int .u64 1))) := nf
theorem Z0vd : stepA E C B 102 Zc4 Z07M (φ, H) = some (fput φ 8 (fget φ 34), H) := nf
theorem Z0F1 : XQ 94 102 ZsB ZCH ZUC := Z1 (by rfl) _
theorem Z0fH : XQ 94 102 ZbJ Zrg ZsB := Z1 (by rfl) _
theorem Z0F0 : execA E C (fg 94) B 102 E0 N ZMP s = iterA (execA E C (fg 94) B 102 E0 N ZbJ) (headA E0) N s := Z0h (by rfl) s
theorem Z0D6 : execA E C (fg 94) B 102 E0 N ZQO s = blockX 0 (fun s => (forget s.1 [1, 2, 8, 32], s.2)) (execA E C (fg 94) B 102 E0 N ZMP s) := Zy (by rfl) (by rfl) s
theorem Z0GG : XQ 94 102 ZB2 ZLS ZQO := Z1 (by rfl) _
def ZqM := kR ZBP
def ZKQ := kL ZqM
def Z2a := kO ZKQ
def ZLF := opN Z2a 0
def ZOr := opN Z2a 1
def ZMo := opN Z2a 2
def ZVl := opN Z2a 3
def ZM3 := opN Z2a 4
def ZWX := opN Z2a 5
theorem Z0Bt : XG 94 102 ZKQ Z2a [99, 100, 101] := Z7 (by rfl) (by rfl) _
theorem Z0oQ : Z2a.toList = [ZLF, ZOr, ZMo, ZVl, ZM3, ZWX] := nf
theorem Z0q5 : stepA E C B 102 Z2a ZLF (φ, H) = some (fput φ 99 (fget φ 4), H) := nf
theorem Z0li : stepA E C B 102 Z2a ZOr (φ, H) = some (fput φ 100 (fget φ 5), H) := nf
theorem Z0qI : stepA E C B 102 Z2a ZMo (φ, H) = some (fput φ 101 (fget φ 6), H) := nf
theorem Z0od : stepA E C B 102 Z2a ZVl (φ, H) = some (fput φ 4 (fget φ 99), H) := nf
theorem Z0qF : stepA E C B 102 Z2a ZM3 (φ, H) = some (fput φ 5 (fget φ 100), H) := nf
theorem Z0nH : stepA E C B 102 Z2a ZWX (φ, H) = some (fput φ 6 (fget φ 101), H) := nf
def Z0jf := kR ZqM
theorem Z0Ck : execA E C (fg 94) B 102 E0 N Z0jf s = some (.ret, s) := Z00 (by rfl) s
theorem Z0BD : XQ 94 102 ZqM ZKQ Z0jf := Z1 (by rfl) _
theorem Z0FU : XQ 94 102 ZBP ZB2 ZqM := Z1 (by rfl) _
theorem Z0Hc : XQ 94 102 ZC5 Z0ed ZBP := Z1 (by rfl) _
theorem Z0H5 : XQ 94 102 ZBQ Z0dJ ZC5 := Z1 (by rfl) _
theorem Z0FJ : XQ 94 102 ZB3 Z0ew ZBQ := Z1 (by rfl) _
theorem Z0Gu : XQ 94 102 Zst Z0de ZB3 := Z1 (by rfl) _
theorem Z0Ho : fInfo E 94 = some ⟨102, #[.tmp 4, .tmp 5, .tmp 6], Zst⟩ := nf
theorem b_94 (args : List AV) : bodyA E C fg N 94 args H B = bodyX E [.tmp 4, .tmp 5, .tmp 6] (execA E C (fg 94) B 102 H N Zst (Zm args 0 [], H)) := ZV Z0Ho args H
def Zpr := kBody Proofs.Tryd.f61
def Z0dB := kL Zpr
def Zcx := kO Z0dB
def Z0ay := opN Zcx 0
def Z01A := opN Zcx 1
def Z05Z := opN Zcx 2
theorem Z0Gc : XG 61 28 Z0dB Zcx [0, 2, 3] := Z7 (by rfl) (by rfl) _
theorem Z0sW : Zcx.toList = [Z0ay, Z01A, Z05Z] := nf
theorem Z0tl : stepA E C B 28 Zcx Z0ay (φ, H) = stp (some 1) φ H (opBox (B + 1) (acells (fget φ 0))) := nf
theorem Z0yb : stepA E C B 28 Zcx Z01A (φ, H) = some (fput φ 2 (.int .i64 0), H) := nf
theorem Z0sm : stepA E C B 28 Zcx Z05Z (φ, H) = some (fput φ 3 (.int .i64 0), H) := nf
def ZC7 := kR Zpr
def Z0e3 := kL ZC7
def Z1O := kO Z0e3
def Z05x := opN Z1O 0
def ZXS := opN Z1O 1
def Z04N := opN Z1O 2
def ZYM := opN Z1O 3
def Z04S := opN Z1O 4
def Z0bE := opN Z1O 5
def Z0a3 := opN Z1O 6
def Z00G := opN Z1O 7
theorem Z0GV : XG 61 28 Z0e3 Z1O [1, 9, 10, 11, 12, 13] := Z7 (by rfl) (by rfl) _
theorem Z0Ae : Z1O.toList = [Z05x, ZXS, Z04N, ZYM, Z04S, Z0bE, Z0a3, Z00G] := nf
theorem Z0ux : stepA E C B 28 Z1O Z05x (φ, H) = stp (some 10) φ H (just (aLoad E.T 25 (fget φ 1))) := nf
theorem Z0xt : stepA E C B 28 Z1O ZXS (φ, H) = stp (some 11) φ H (aCall C (fun j => B + j * 28 + 11) true 88 [(fget φ 10)]) := nf
theorem Z0zl : stepA E C B 28 Z1O Z04N (φ, H) = some (fput φ 9 (fget φ 11), H) := nf
theorem Z0v8 : stepA E C B 28 Z1O ZYM (φ, H) = stp (some 12) φ H (Zx (fget φ 9) 0) := nf
theorem Z0z3 : stepA E C B 28 Z1O Z04S (φ, H) = stp (some 13) φ H (Zx (fget φ 9) 1) := nf
theorem Z0w4 : stepA E C B 28 Z1O Z0bE (φ, H) = stp (some 4) φ H (opBox (B + 4) (zeroCells E.T 109)) := nf
theorem Z0wH : stepA E C B 28 Z1O Z0a3 (φ, H) = stp none φ H (opStore E.T 109 (fget φ 4) (fget φ 12)) := nf
theorem Z0sw : stepA E C B 28 Z1O Z00G (φ, H) = some (fput φ 5 (fget φ 13), H) := nf
def ZC8 := kR ZC7
def ZAt := kL ZC8
def Z0dr := kL ZAt
def Zl5 := kO Z0dr
def Z0cq := opN Zl5 0
def Z06o := opN Zl5 1
theorem Z0Hg : XG 61 28 Z0dr Zl5 [14] := Z7 (by rfl) (by rfl) _
theorem Z0zG : Zl5.toList = [Z0cq, Z06o] := nf
theorem Z0wF : stepA E C B 28 Zl5 Z0cq (φ, H) = some (fput φ 14 (fget φ 5), H) := nf
theorem Z0yx : stepA E C B 28 Zl5 Z06o (φ, H) = stp (some 15) φ H (just (aBin E.T .neq 32 (fget φ 14) (.int .i64 0))) := nf
def ZAB := kR ZAt
def ZBG := kT ZAB
def Z0dG := kL ZBG
def Zcs := kO Z0dG
def Z0ax := opN Zcs 0
def Z09L := opN Zcs 1
def Z0bz := opN Zcs 2
theorem Z0Fp : XG 61 28 Z0dG Zcs [4, 5, 15, 16] := Z7 (by rfl) (by rfl) _
theorem Z0Aj : Zcs.toList = [Z0ax, Z09L, Z0bz] := nf
theorem Z0wO : stepA E C B 28 Zcs Z0ax (φ, H) = some (fput φ 16 (fget φ 5), H) := nf
theorem Z0yj : stepA E C B 28 Zcs Z09L (φ, H) = some (fput φ 2 (.int .i64 0), H) := nf
theorem Z0uY : stepA E C B 28 Zcs Z0bz (φ, H) = some (fput φ 3 (fget φ 16), H) := nf
def Z0fV := kR ZBG
theorem Z0Ez : execA E C (fg 61) B 28 E0 N Z0fV s = some (.ret, s) := Z00 (by rfl) s
theorem Z0FT : XQ 61 28 ZBG Z0dG Z0fV := Z1 (by rfl) _
def Z0ji := kE ZAB
theorem Z0DF : execA E C (fg 61) B 28 E0 N Z0ji s = some (.normal, s) := ZQ (by rfl) s
theorem Z0GQ : XC 61 28 ZAB 15 ZBG Z0ji := ZF (by rfl) _
theorem Z0Gx : XQ 61 28 ZAt Z0dr ZAB := Z1 (by rfl) _
def ZnV := kR ZC8
def ZRD := kL ZnV
def Z1q := kO ZRD
def Z07E := opN Z1q 0
def Z04E := opN Z1q 1
def Z07w := opN Z1q 2
def Z004 := opN Z1q 3
def Z0aF := opN Z1q 4
def Z06f := opN Z1q 5
def Z06d := opN Z1q 6
def Z08j := opN Z1q 7
def ZZ6 := opN Z1q 8
theorem Z0Cb : XG 61 28 ZRD Z1q [5, 6, 8, 15, 17, 18, 19, 20, 21, 22] := Z7 (by rfl) (by rfl) _
theorem Z0v4 : Z1q.toList = [Z07E, Z04E, Z07w, Z004, Z0aF, Z06f, Z06d, Z08j, ZZ6] := nf
theorem Z0wd : stepA E C B 28 Z1q Z07E (φ, H) = stp (some 18) φ H (just (aLoad E.T 109 (fget φ 4))) := nf
theorem Z0tD : stepA E C B 28 Z1q Z04E (φ, H) = stp (some 19) φ H (aCall C (fun j => B + j * 28 + 19) true 94 [(fget φ 18), (.int .i64 0)]) := nf
theorem Z0A6 : stepA E C B 28 Z1q Z07w (φ, H) = some (fput φ 17 (fget φ 19), H) := nf
theorem Z0uR : stepA E C B 28 Z1q Z004 (φ, H) = stp (some 20) φ H (Zx (fget φ 17) 0) := nf
theorem Z0vQ : stepA E C B 28 Z1q Z0aF (φ, H) = stp (some 21) φ H (Zx (fget φ 17) 1) := nf
theorem Z0vf : stepA E C B 28 Z1q Z06f (φ, H) = stp (some 22) φ H (Zx (fget φ 17) 2) := nf
theorem Z0z7 : stepA E C B 28 Z1q Z06d (φ, H) = some (fput φ 6 (fget φ 20), H) := nf
theorem Z0t8 : stepA E C B 28 Z1q Z08j (φ, H) = some (fput φ 7 (fget φ 21), H) := nf
theorem Z0xH : stepA E C B 28 Z1q ZZ6 (φ, H) = some (fput φ 8 (fget φ 22), H) := nf
def Zrp := kR ZnV
def ZHI := kL Zrp
def Z2k := kO ZHI
def ZZT := opN Z2k 0
def Z02s := opN Z2k 1
def Z09V := opN Z2k 2
def Z08r := opN Z2k 3
def Z07x := opN Z2k 4
def Z0bS := opN Z2k 5
def Z090 := opN Z2k 6
theorem Z0DN : XG 61 28 ZHI Z2k [4, 7, 23, 24, 25, 26, 27] := Z7 (by rfl) (by rfl) _
theorem Z0t1 : Z2k.toList = [ZZT, Z02s, Z09V, Z08r, Z07x, Z0bS, Z090] := nf
theorem Z0Ar : stepA E C B 28 Z2k ZZT (φ, H) = some (fput φ 23 (fget φ 7), H) := nf
theorem Z0Al : stepA E C B 28 Z2k Z02s (φ, H) = stp (some 24) φ H (just (aLoad E.T 109 (fget φ 4))) := nf
theorem Z0ys : stepA E C B 28 Z2k Z09V (φ, H) = stp (some 25) φ H (aCall C (fun j => B + j * 28 + 25) true 95 [(fget φ 24)]) := nf
theorem Z0yK : stepA E C B 28 Z2k Z08r (φ, H) = stp (some 26) φ H (just (Z6 E.T 36 (fget φ 23) (fget φ 25))) := nf
theorem Z0uJ : stepA E C B 28 Z2k Z07x (φ, H) = stp (some 27) φ H (just (aLoad E.T 3 (fget φ 26))) := nf
theorem Z0tR : stepA E C B 28 Z2k Z0bS (φ, H) = some (fput φ 2 (fget φ 27), H) := nf
theorem Z0xM : stepA E C B 28 Z2k Z090 (φ, H) = some (fput φ 3 (.int .i64 0), H) := nf
def Z0kp := kR Zrp
theorem Z0DI : execA E C (fg 61) B 28 E0 N Z0kp s = some (.ret, s) := Z00 (by rfl) s
theorem Z0Cg : XQ 61 28 Zrp ZHI Z0kp := Z1 (by rfl) _
theorem Z0Dr : XQ 61 28 ZnV ZRD Zrp := Z1 (by rfl) _
theorem Z0G2 : XQ 61 28 ZC8 ZAt ZnV := Z1 (by rfl) _
theorem Z0GJ : XQ 61 28 ZC7 Z0e3 ZC8 := Z1 (by rfl) _
theorem Z0HH : XQ 61 28 Zpr Z0dB ZC7 := Z1 (by rfl) _
theorem Z0Hi : fInfo E 61 = some ⟨28, #[.tmp 2, .tmp 3], Zpr⟩ := nf
theorem b_61 (args : List AV) : bodyA E C fg N 61 args H B = bodyX E [.tmp 2, .tmp 3] (execA E C (fg 61) B 28 H N Zpr (Zm args 0 [], H)) := ZV Z0Hi args H
def ZhV := kBody Proofs.Tryd.f114
def ZK1 := kL ZhV
def Z4r := kO ZK1
def ZIh := opN Z4r 0
def ZXc := opN Z4r 1
def ZVE := opN Z4r 2
def ZF6 := opN Z4r 3
theorem Ze7 : XG 114 67 ZK1 Z4r [0, 7, 8] := Z7 (by rfl) (by rfl) _
theorem Z6n : Z4r.toList = [ZIh, ZXc, ZVE, ZF6] := nf
theorem Z6N : stepA E C B 67 Z4r ZIh (φ, H) = stp (some 3) φ H (opBox (B + 3) (acells (fget φ 0))) := nf
theorem Z7F : stepA E C B 67 Z4r ZXc (φ, H) = stp (some 6) φ H (opBox (B + 6) (zeroCells E.T 109)) := nf
theorem Z64 : stepA E C B 67 Z4r ZVE (φ, H) = some (fput φ 7 (.nilsl), H) := nf
theorem Z6d : stepA E C B 67 Z4r ZF6 (φ, H) = some (fput φ 8 (.int .i64 0), H) := nf
def Zs6 := kR ZhV
def ZDn := kL Zs6
def Z1k := kO ZDn
def ZXz := opN Z1k 0
def ZPx := opN Z1k 1
def ZEN := opN Z1k 2
def ZPv := opN Z1k 3
def ZDf := opN Z1k 4
def ZLr := opN Z1k 5
def ZD4 := opN Z1k 6
def ZT9 := opN Z1k 7
theorem ZcL : XG 114 67 ZDn Z1k [3, 13, 14, 15, 16, 17] := Z7 (by rfl) (by rfl) _
theorem Z7s : Z1k.toList = [ZXz, ZPx, ZEN, ZPv, ZDf, ZLr, ZD4, ZT9] := nf
theorem Z8v : stepA E C B 67 Z1k ZXz (φ, H) = stp (some 14) φ H (just (aLoad E.T 25 (fget φ 3))) := nf
theorem Z8Y : stepA E C B 67 Z1k ZPx (φ, H) = stp (some 15) φ H (aCall C (fun j => B + j * 67 + 15) true 88 [(fget φ 14)]) := nf
theorem Z6T : stepA E C B 67 Z1k ZEN (φ, H) = some (fput φ 13 (fget φ 15), H) := nf
theorem Z8u : stepA E C B 67 Z1k ZPv (φ, H) = stp (some 16) φ H (Zx (fget φ 13) 0) := nf
theorem Z7e : stepA E C B 67 Z1k ZDf (φ, H) = stp (some 17) φ H (Zx (fget φ 13) 1) := nf
theorem Z7S : stepA E C B 67 Z1k ZLr (φ, H) = stp (some 9) φ H (opBox (B + 9) (zeroCells E.T 109)) := nf
theorem Z75 : stepA E C B 67 Z1k ZD4 (φ, H) = stp none φ H (opStore E.T 109 (fget φ 9) (fget φ 16)) := nf
theorem Z61 : stepA E C B 67 Z1k ZT9 (φ, H) = some (fput φ 10 (fget φ 17), H) := nf
def ZoV := kR Zs6
def Zsk := kL ZoV
def ZIl := kL Zsk
def ZdJ := kO ZIl
def ZGI := opN ZdJ 0
def ZGo := opN ZdJ 1
theorem Zdt : XG 114 67 ZIl ZdJ [18] := Z7 (by rfl) (by rfl) _
theorem Z8D : ZdJ.toList = [ZGI, ZGo] := nf
theorem Z5S : stepA E C B 67 ZdJ ZGI (φ, H) = some (fput φ 18 (fget φ 10), H) := nf
theorem Z6A : stepA E C B 67 ZdJ ZGo (φ, H) = stp (some 19) φ H (just (aBin E.T .eql 32 (fget φ 18) (.int .i64 0))) := nf
def ZmW := kR Zsk
def ZDY := kT ZmW
def Z4m := kO ZDY
def ZFG := opN Z4m 0
def ZGe := opN Z4m 1
def ZPL := opN Z4m 2
def ZWx := opN Z4m 3
theorem ZdO : XG 114 67 ZDY Z4m [19, 20, 21, 22] := Z7 (by rfl) (by rfl) _
theorem Z6J : Z4m.toList = [ZFG, ZGe, ZPL, ZWx] := nf
theorem Z6j : stepA E C B 67 Z4m ZFG (φ, H) = stp (some 20) φ H (just (aLoad E.T 109 (fget φ 9))) := nf
theorem Z66 : stepA E C B 67 Z4m ZGe (φ, H) = some (fput φ 21 (fget φ 1), H) := nf
theorem Z7I : stepA E C B 67 Z4m ZPL (φ, H) = stp (some 22) φ H (aCall C (fun j => B + j * 67 + 22) true 105 [(fget φ 20), (fget φ 21)]) := nf
theorem Zbn : stepA E C B 67 Z4m ZWx (φ, H) = some (fput φ 10 (fget φ 22), H) := nf
def Z0kX := kE ZmW
theorem ZdW : execA E C (fg 114) B 67 E0 N Z0kX s = some (.normal, s) := ZQ (by rfl) s
theorem Zdv : XC 114 67 ZmW 19 ZDY Z0kX := ZF (by rfl) _
theorem Zer : XQ 114 67 Zsk ZIl ZmW := Z1 (by rfl) _
def Zjj := kR ZoV
def ZsZ := kL Zjj
def Zij := kB ZsZ
def ZvM := kL Zij
def Z9X := kO ZvM
def ZFz := opN Z9X 0
def ZGt := opN Z9X 1
def ZCM := opN Z9X 2
theorem ZaA : XG 114 67 ZvM Z9X [19, 24, 25] := Z7 (by rfl) (by rfl) _
theorem Z5D : Z9X.toList = [ZFz, ZGt, ZCM] := nf
theorem Z6s : stepA E C B 67 Z9X ZFz (φ, H) = some (fput φ 24 (fget φ 10), H) := nf
theorem Z84 : stepA E C B 67 Z9X ZGt (φ, H) = stp (some 25) φ H (just (aBin E.T .neq 32 (fget φ 24) (.int .i64 0))) := nf
theorem Z81 : stepA E C B 67 Z9X ZCM (φ, H) = some (fput φ 23 (fget φ 25), H) := nf
def Ziw := kR Zij
def ZkE := kT Ziw
def Zue := kL ZkE
def Z2Z := kO Zue
def ZDb := opN Z2Z 0
def ZDQ := opN Z2Z 1
def ZX1 := opN Z2Z 2
def ZEl := opN Z2Z 3
def ZPt := opN Z2Z 4
theorem ZaX : XG 114 67 Zue Z2Z [1, 2, 9, 10, 23, 26, 27] := Z7 (by rfl) (by rfl) _
theorem Z7y : Z2Z.toList = [ZDb, ZDQ, ZX1, ZEl, ZPt] := nf
theorem Z6K : stepA E C B 67 Z2Z ZDb (φ, H) = stp (some 26) φ H (just (aLoad E.T 109 (fget φ 9))) := nf
theorem Z74 : stepA E C B 67 Z2Z ZDQ (φ, H) = some (fput φ 27 (fget φ 10), H) := nf
theorem Z8g : stepA E C B 67 Z2Z ZX1 (φ, H) = stp none φ H (opStore E.T 109 (fget φ 6) (fget φ 26)) := nf
theorem Z5F : stepA E C B 67 Z2Z ZEl (φ, H) = some (fput φ 7 (.nilsl), H) := nf
theorem Z7x : stepA E C B 67 Z2Z ZPt (φ, H) = some (fput φ 8 (fget φ 27), H) := nf
def Z07N := kR ZkE
theorem ZaS : execA E C (fg 114) B 67 E0 N Z07N s = some (.ret, s) := Z00 (by rfl) s
theorem ZaN : XQ 114 67 ZkE Zue Z07N := Z1 (by rfl) _
def Zky := kE Ziw
def Zwn := kL Zky
def Z1X := kO Zwn
def ZN5 := opN Z1X 0
def ZEC := opN Z1X 1
def ZQm := opN Z1X 2
def ZEO := opN Z1X 3
def ZLU := opN Z1X 4
def ZFd := opN Z1X 5
theorem ZaR : XG 114 67 Zwn Z1X [10, 23, 29, 30, 31, 32, 33] := Z7 (by rfl) (by rfl) _
theorem Z8x : Z1X.toList = [ZN5, ZEC, ZQm, ZEO, ZLU, ZFd] := nf
theorem Z5L : stepA E C B 67 Z1X ZN5 (φ, H) = some (fput φ 29 (fget φ 2), H) := nf
theorem Z7t : stepA E C B 67 Z1X ZEC (φ, H) = stp (some 30) φ H (Zf E.T (B + 30) .len #[36] [(fget φ 29)]) := nf
theorem ZeD : stepA E C B 67 Z1X ZQm (φ, H) = some (fput φ 31 (fget φ 1), H) := nf
theorem ZeH : stepA E C B 67 Z1X ZEO (φ, H) = stp (some 32) φ H (Zf E.T (B + 32) .len #[36] [(fget φ 31)]) := nf
theorem Zgw : stepA E C B 67 Z1X ZLU (φ, H) = stp (some 33) φ H (just (aBin E.T .neq 3 (fget φ 30) (fget φ 32))) := nf
theorem ZfD : stepA E C B 67 Z1X ZFd (φ, H) = some (fput φ 28 (fget φ 33), H) := nf
def Zkj := kR Zky
def Zlo := kT Zkj
def ZsU := kL Zlo
def Z4u := kO ZsU
def ZHk := opN Z4u 0
def ZQD := opN Z4u 1
def ZPb := opN Z4u 2
def ZVC := opN Z4u 3
theorem Zim : XG 114 67 ZsU Z4u [1, 2, 9, 28, 34] := Z7 (by rfl) (by rfl) _
theorem ZfB : Z4u.toList = [ZHk, ZQD, ZPb, ZVC] := nf
theorem ZeN : stepA E C B 67 Z4u ZHk (φ, H) = stp (some 34) φ H (just (aLoad E.T 109 (fget φ 9))) := nf
theorem Zfd : stepA E C B 67 Z4u ZQD (φ, H) = stp none φ H (opStore E.T 109 (fget φ 6) (fget φ 34)) := nf
theorem Zgv : stepA E C B 67 Z4u ZPb (φ, H) = some (fput φ 7 (.nilsl), H) := nf
theorem Zg5 : stepA E C B 67 Z4u ZVC (φ, H) = some (fput φ 8 (.int .i64 3), H) := nf
def Z05u := kR Zlo
theorem ZjY : execA E C (fg 114) B 67 E0 N Z05u s = some (.ret, s) := Z00 (by rfl) s
theorem ZiI : XQ 114 67 Zlo ZsU Z05u := Z1 (by rfl) _
def ZYU := kE Zkj
theorem Zje : execA E C (fg 114) B 67 E0 N ZYU s = some (.normal, s) := ZQ (by rfl) s
theorem Zjh : XC 114 67 Zkj 28 Zlo ZYU := ZF (by rfl) _
theorem ZaB : XQ 114 67 Zky Zwn Zkj := Z1 (by rfl) _
theorem ZaV : XC 114 67 Ziw 23 ZkE Zky := ZF (by rfl) _
theorem ZaF : XQ 114 67 Zij ZvM Ziw := Z1 (by rfl) _
theorem ZaU : execA E C (fg 114) B 67 E0 N ZsZ s = blockX 0 (fun s => (forget s.1 [28], s.2)) (execA E C (fg 114) B 67 E0 N Zij s) := Zy (by rfl) (by rfl) s
def Zle := kR Zjj
def Zjn := kL Zle
def Zu9 := kL Zjn
def Z9H := kO Zu9
def ZSG := opN Z9H 0
def ZQQ := opN Z9H 1
def ZUF := opN Z9H 2
theorem Z01g : XG 114 67 Zu9 Z9H [] := Z7 (by rfl) (by rfl) _
theorem ZPp : Z9H.toList = [ZSG, ZQQ, ZUF] := nf
theorem ZD6 : stepA E C B 67 Z9H ZSG (φ, H) = some (fput φ 35 (fget φ 2), H) := nf
theorem ZQ4 : stepA E C B 67 Z9H ZQQ (φ, H) = stp (some 36) φ H (Zf E.T (B + 36) .len #[36] [(fget φ 35)]) := nf
theorem ZNl : stepA E C B 67 Z9H ZUF (φ, H) = some (fput φ 37 (.int .i64 0), H) := nf
def Zug := kR Zjn
def ZtL := kB Zug
def Z57 := kB ZtL
def Zv5 := kL Z57
def ZrX := kO Zv5
def ZLq := opN ZrX 0
theorem ZiF : XG 114 67 Zv5 ZrX [] := Z7 (by rfl) (by rfl) _
theorem Zf3 : ZrX.toList = [ZLq] := nf
theorem Zge : stepA E C B 67 ZrX ZLq (φ, H) = stp (some 38) φ H (just (aBin E.T .lss 3 (fget φ 37) (fget φ 36))) := nf
def Zkq := kR Z57
def Zix := kL Zkq
def Z008 := kT Zix
theorem Zlu : execA E C (fg 114) B 67 E0 N Z008 s = some (.normal, s) := ZQ (by rfl) s
def ZYK := kE Zix
theorem Zkd : execA E C (fg 114) B 67 E0 N ZYK s = some (.exit 1, s) := Z0i (by rfl) s
theorem ZiT : XC 114 67 Zix 38 Z008 ZYK := ZF (by rfl) _
def ZkQ := kR Zkq
def ZwM := kL ZkQ
def Zjp := kB ZwM
def ZvE := kL Zjp
def Z1U := kO ZvE
def ZAm := opN Z1U 0
def ZxW := opN Z1U 1
def Zzw := opN Z1U 2
def ZwV := opN Z1U 3
def ZyV := opN Z1U 4
theorem ZvW : XG 114 67 ZvE Z1U [38, 39, 40, 41] := Z7 (by rfl) (by rfl) _
theorem Zhx : Z1U.toList = [ZAm, ZxW, Zzw, ZwV, ZyV] := nf
theorem ZgR : stepA E C B 67 Z1U ZAm (φ, H) = some (fput φ 39 (fget φ 37), H) := nf
theorem ZhI : stepA E C B 67 Z1U ZxW (φ, H) = stp (some 40) φ H (just (Z6 E.T 36 (fget φ 35) (fget φ 37))) := nf
theorem ZgN : stepA E C B 67 Z1U Zzw (φ, H) = stp (some 41) φ H (just (aLoad E.T 3 (fget φ 40))) := nf
theorem ZgI : stepA E C B 67 Z1U ZwV (φ, H) = some (fput φ 11 (fget φ 39), H) := nf
theorem ZgE : stepA E C B 67 Z1U ZyV (φ, H) = some (fput φ 12 (fget φ 41), H) := nf
def Zlb := kR Zjp
def ZwG := kL Zlb
def Z03 := kO ZwG
def ZyE := opN Z03 0
def ZA4 := opN Z03 1
def Zxw := opN Z03 2
def ZyK := opN Z03 3
def ZxA := opN Z03 4
def Zxf := opN Z03 5
def ZxN := opN Z03 6
def ZxI := opN Z03 7
def Z1I := opN Z03 8
def Zxi := opN Z03 9
def Zrl := opN Z03 10
def Zsl := opN Z03 11
def Zqf := opN Z03 12
def ZqQ := opN Z03 13
def ZrP := opN Z03 14
def ZpJ := opN Z03 15
def Zse := opN Z03 16
def Zrv := opN Z03 17
theorem ZtP : XG 114 67 ZwG Z03 [11, 12, 42, 43, 44, 45, 46, 47, 48, 49, 50, 51, 52, 53, 54, 55, 56, 57, 58] := Z7 (by rfl) (by rfl) _
theorem Zia : Z03.toList = [ZyE, ZA4, Zxw, ZyK, ZxA, Zxf, ZxN, ZxI, Z1I, Zxi, Zrl, Zsl, Zqf, ZqQ, ZrP, ZpJ, Zse, Zrv] := nf
theorem Zib : stepA E C B 67 Z03 ZyE (φ, H) = some (fput φ 42 (fget φ 12), H) := nf
theorem ZhU : stepA E C B 67 Z03 ZA4 (φ, H) = stp (some 43) φ H (just (Zb E.T 109 (fget φ 9) 0)) := nf
theorem Zhm : stepA E C B 67 Z03 Zxw (φ, H) = stp (some 44) φ H (just (aLoad E.T 106 (fget φ 43))) := nf
theorem Zhr : stepA E C B 67 Z03 ZyK (φ, H) = some (fput φ 45 (fget φ 11), H) := nf
theorem Zh9 : stepA E C B 67 Z03 ZxA (φ, H) = stp (some 46) φ H (just (Z6 E.T 106 (fget φ 44) (fget φ 45))) := nf
theorem ZhZ : stepA E C B 67 Z03 Zxf (φ, H) = stp (some 47) φ H (just (Z6 E.T 126 (fget φ 46) (.int .i64 0))) := nf
theorem Zhz : stepA E C B 67 Z03 ZxN (φ, H) = stp (some 48) φ H (just (aLoad E.T 3 (fget φ 47))) := nf
theorem Zhc : stepA E C B 67 Z03 ZxI (φ, H) = stp (some 49) φ H (just (aBin E.T .lss 3 (fget φ 42) (fget φ 48))) := nf
theorem ZhF : stepA E C B 67 Z03 Z1I (φ, H) = some (fput φ 50 (fget φ 49), H) := nf
theorem Zh5 : stepA E C B 67 Z03 Zxi (φ, H) = gd φ 50 false (fun φ => some (fput φ 51 (.tup []), H)) (fun φ => some (fput φ 51 (fget φ 12), H)) := s_gd (j := 8) (oj := Z1I) rfl rfl rfl (fun _ => rfl) (fun _ => rfl)
theorem ZfG : stepA E C B 67 Z03 Zrl (φ, H) = gd φ 50 false (fun φ => some (fput φ 52 (.tup []), H)) (fun φ => stp (some 52) φ H (just (Zb E.T 109 (fget φ 9) 0))) := s_gd (j := 8) (oj := Z1I) rfl rfl rfl (fun _ => rfl) (fun _ => rfl)
theorem ZfA : stepA E C B 67 Z03 Zsl (φ, H) = gd φ 50 false (fun φ => some (fput φ 53 (.tup []), H)) (fun φ => stp (some 53) φ H (just (aLoad E.T 106 (fget φ 52)))) := s_gd (j := 8) (oj := Z1I) rfl rfl rfl (fun _ => rfl) (fun _ => rfl)
theorem Zf9 : stepA E C B 67 Z03 Zqf (φ, H) = gd φ 50 false (fun φ => some (fput φ 54 (.tup []), H)) (fun φ => some (fput φ 54 (fget φ 11), H)) := s_gd (j := 8) (oj := Z1I) rfl rfl rfl (fun _ => rfl) (fun _ => rfl)
theorem ZfY : stepA E C B 67 Z03 ZqQ (φ, H) = gd φ 50 false (fun φ => some (fput φ 55 (.tup []), H)) (fun φ => stp (some 55) φ H (just (Z6 E.T 106 (fget φ 53) (fget φ 54)))) := s_gd (j := 8) (oj := Z1I) rfl rfl rfl (fun _ => rfl) (fun _ => rfl)
theorem ZeK : stepA E C B 67 Z03 ZrP (φ, H) = gd φ 50 false (fun φ => some (fput φ 56 (.tup []), H)) (fun φ => stp (some 56) φ H (just (Z6 E.T 126 (fget φ 55) (.int .i64 1)))) := s_gd (j := 8) (oj := Z1I) rfl rfl rfl (fun _ => rfl) (fun _ => rfl)
theorem ZeC : stepA E C B 67 Z03 ZpJ (φ, H) = gd φ 50 false (fun φ => some (fput φ 57 (.tup []), H)) (fun φ => stp (some 57) φ H (just (aLoad E.T 3 (fget φ 56)))) := s_gd (j := 8) (oj := Z1I) rfl rfl rfl (fun _ => rfl) (fun _ => rfl)
theorem Zf8 : stepA E C B 67 Z03 Zse (φ, H) = gd φ 50 false (fun φ => some (fput φ 58 (.tup []), H)) (fun φ => stp (some 58) φ H (just (aBin E.T .gtr 3 (fget φ 51) (fget φ 57)))) := s_gd (j := 8) (oj := Z1I) rfl rfl rfl (fun _ => rfl) (fun _ => rfl)
theorem ZeZ : stepA E C B 67 Z03 Zrv (φ, H) = stp (some 59) φ H (opPick (fget φ 50) (.bool true) (fget φ 58)) := nf
def ZkX := kR Zlb
def Zla := kT ZkX
def ZuQ := kL Zla
def Z3b := kO ZuQ
def ZzQ := opN Z3b 0
def Zxk := opN Z3b 1
def Zzz := opN Z3b 2
def ZwW := opN Z3b 3
theorem ZwO : XG 114 67 ZuQ Z3b [1, 2, 9, 35, 36, 37, 59, 60] := Z7 (by rfl) (by rfl) _
theorem Zi0 : Z3b.toList = [ZzQ, Zxk, Zzz, ZwW] := nf
theorem ZgQ : stepA E C B 67 Z3b ZzQ (φ, H) = stp (some 60) φ H (just (aLoad E.T 109 (fget φ 9))) := nf
theorem ZhJ : stepA E C B 67 Z3b Zxk (φ, H) = stp none φ H (opStore E.T 109 (fget φ 6) (fget φ 60)) := nf
theorem ZhS : stepA E C B 67 Z3b Zzz (φ, H) = some (fput φ 7 (.nilsl), H) := nf
theorem ZgO : stepA E C B 67 Z3b ZwW (φ, H) = some (fput φ 8 (.int .i64 1), H) := nf
def Z07s := kR Zla
theorem Zu0 : execA E C (fg 114) B 67 E0 N Z07s s = some (.ret, s) := Z00 (by rfl) s
theorem Zuo : XQ 114 67 Zla ZuQ Z07s := Z1 (by rfl) _
def Z0ca := kE ZkX
theorem ZvI : execA E C (fg 114) B 67 E0 N Z0ca s = some (.normal, s) := ZQ (by rfl) s
theorem Zwl : XC 114 67 ZkX 59 Zla Z0ca := ZF (by rfl) _
theorem Zus : XQ 114 67 Zlb ZwG ZkX := Z1 (by rfl) _
theorem ZtW : XQ 114 67 Zjp ZvE Zlb := Z1 (by rfl) _
theorem Zwv : execA E C (fg 114) B 67 E0 N ZwM s = blockX 2 (fun s => (forget s.1 [59], s.2)) (execA E C (fg 114) B 67 E0 N Zjp s) := Zy (by rfl) (by rfl) s
def Zvt := kR ZkQ
def Zb0 := kO Zvt
def ZyU := opN Zb0 0
def ZwT := opN Zb0 1
theorem Z0uj : XG 114 67 Zvt Zb0 [61] := Z7 (by rfl) (by rfl) _
theorem Z0hO : Zb0.toList = [ZyU, ZwT] := nf
theorem Z0g9 : stepA E C B 67 Zb0 ZyU (φ, H) = stp (some 61) φ H (just (aBin E.T .add 3 (fget φ 37) (.int .i64 1))) := nf
theorem Z0kt : stepA E C B 67 Zb0 ZwT (φ, H) = some (fput φ 37 (fget φ 61), H) := nf
theorem Zv3 : XQ 114 67 ZkQ ZwM Zvt := Z1 (by rfl) _
theorem ZkH : XQ 114 67 Zkq Zix ZkQ := Z1 (by rfl) _
theorem ZkR : XQ 114 67 Z57 Zv5 Zkq := Z1 (by rfl) _
theorem Z0bx : execA E C (fg 114) B 67 E0 N ZtL s = iterA (execA E C (fg 114) B 67 E0 N Z57) (headA E0) N s := Z0h (by rfl) s
theorem Z09z : execA E C (fg 114) B 67 E0 N Zug s = blockX 1 (fun s => (forget s.1 [35, 36, 37, 38], s.2)) (execA E C (fg 114) B 67 E0 N ZtL s) := Zy (by rfl) (by rfl) s
theorem Z06P : XQ 114 67 Zjn Zu9 Zug := Z1 (by rfl) _
def ZiR := kR Zle
def Zvr := kL ZiR
def Z0v := kO Zvr
def Zxy := opN Z0v 0
def ZwU := opN Z0v 1
def ZyJ := opN Z0v 2
def Zzc := opN Z0v 3
def Zzx := opN Z0v 4
def ZzX := opN Z0v 5
def ZwS := opN Z0v 6
def ZyC := opN Z0v 7
theorem Z0zi : XD 114 67 Zvr Z0v [1, 2, 9, 62, 63, 64, 65, 66] := Z0L (by rfl) (by rfl) _
theorem Z0fu : Z0v.toList = [Zxy, ZwU, ZyJ, Zzc, Zzx, ZzX, ZwS, ZyC] := nf
theorem Z0eS : statOk Z0v = true := by kernel_rfl
theorem Z0du : drawA E C B 67 Z0v s = if neat 67 s = true then drX Z0v (runT E C B 67 Z0v Z0v.toList 0 s) else none := Z0w Z0eS s
theorem Z0dV (l : List (Nat × Tr)) : dynOk Z0v l = (!writing l || Zu [[], [], [], [], [1, 2, 3], [0, 1, 2, 3, 4], [0, 1, 2, 3, 4, 5], [0, 1, 2, 3, 4, 5, 6]] (Zr l)) := Z0g (by kernel_rfl) l
theorem Z0fX : stepT E C B 67 Z0v Zxy (φ, H) = stpT (some 62) φ H (just (aLoad E.T 109 (fget φ 9))) := Z8 rfl (Zg rfl rfl)
theorem Z0il : stepT E C B 67 Z0v ZwU (φ, H) = stpT (some 63) φ H (just (aLoad E.T 109 (fget φ 9))) := Z8 rfl (Zg rfl rfl)
theorem Z0fw : stepT E C B 67 Z0v ZyJ (φ, H) = some ((fput φ 64 (fget φ 1), H), ⟨false, [], []⟩) := Z8 rfl (Zt rfl rfl)
theorem Z0h5 : stepT E C B 67 Z0v Zzc (φ, H) = some ((fput φ 65 (fget φ 2), H), ⟨false, [], []⟩) := Z8 rfl (Zt rfl rfl)
theorem Z0fn : stepT E C B 67 Z0v Zzx (φ, H) = stpT (some 66) φ H (aCall C (fun j => B + j * 67 + 66) true 136 [(fget φ 63), (fget φ 64), (fget φ 65)]) := Z8 rfl (Zg rfl rfl)
theorem Z0kT : stepT E C B 67 Z0v ZzX (φ, H) = stpT none φ H (opStore E.T 109 (fget φ 6) (fget φ 62)) := Z8 rfl (Zg rfl rfl)
theorem Z0ju : stepT E C B 67 Z0v ZwS (φ, H) = some ((fput φ 7 (fget φ 66), H), ⟨false, [], []⟩) := Z8 rfl (Zt rfl rfl)
theorem Z0fI : stepT E C B 67 Z0v ZyC (φ, H) = some ((fput φ 8 (.int .i64 0), H), ⟨false, [], []⟩) := Z8 rfl (Zt rfl rfl)
def ZZB := kR ZiR
theorem Z0zj : execA E C (fg 114) B 67 E0 N ZZB s = some (.ret, s) := Z00 (by rfl) s
theorem Z0wT : XQ 114 67 ZiR Zvr ZZB := Z1 (by rfl) _
theorem Z02v : XQ 114 67 Zle Zjn ZiR := Z1 (by rfl) _
theorem ZaD : XQ 114 67 Zjj ZsZ Zle := Z1 (by rfl) _
theorem ZdR : XQ 114 67 ZoV Zsk Zjj := Z1 (by rfl) _
theorem ZdS : XQ 114 67 Zs6 ZDn ZoV := Z1 (by rfl) _
theorem Zdz : XQ 114 67 ZhV ZK1 Zs6 := Z1 (by rfl) _
theorem Z0BA : fInfo E 114 = some ⟨67, #[.cell 6 109, .tmp 7, .tmp 8], ZhV⟩ := nf
theorem Zl9 (args : List AV) : bodyA E C fg N 114 args H B = bodyX E [.cell 6 109, .tmp 7, .tmp 8] (execA E C (fg 114) B 67 H N ZhV (Zm args 0 [], H)) := ZV Z0BA args H
def ZgH := kBody Proofs.Tryd.f136
def ZOd := kL ZgH
def ZdF := kO ZOd
def ZT3 := opN ZdF 0
def ZCC := opN ZdF 1
theorem Z0CB : XG 136 32 ZOd ZdF [0, 3, 6] := Z7 (by rfl) (by rfl) _
theorem Z0nu : ZdF.toList = [ZT3, ZCC] := nf
theorem Z0oD : stepA E C B 32 ZdF ZT3 (φ, H) = stp (some 3) φ H (opBox (B + 3) (acells (fget φ 0))) := nf
theorem Z0q6 : stepA E C B 32 ZdF ZCC (φ, H) = some (fput φ 6 (.nilsl), H) := nf
def Zr4 := kR ZgH
def ZSm := kL Zr4
def Z4i := kO ZSm
def ZVy := opN Z4i 0
def ZWT := opN Z4i 1
def ZKd := opN Z4i 2
def ZTD := opN Z4i 3
theorem Z0Cp : XG 136 32 ZSm Z4i [11, 12, 13] := Z7 (by rfl) (by rfl) _
theorem Z0mJ : Z4i.toList = [ZVy, ZWT, ZKd, ZTD] := nf
theorem Z0q7 : stepA E C B 32 Z4i ZVy (φ, H) = some (fput φ 11 (fget φ 1), H) := nf
theorem Z0qR : stepA E C B 32 Z4i ZWT (φ, H) = stp (some 12) φ H (Zf E.T (B + 12) .len #[36] [(fget φ 11)]) := nf
theorem Z0lL : stepA E C B 32 Z4i ZKd (φ, H) = stp (some 13) φ H (aMake E.T (B + 13) 36 (fget φ 12) (fget φ 12)) := nf
theorem Z0mk : stepA E C B 32 Z4i ZTD (φ, H) = some (fput φ 7 (fget φ 13), H) := nf
def ZpL := kR Zr4
def ZFW := kL ZpL
def ZqU := kO ZFW
def ZOD := opN ZqU 0
theorem Z0Bb : XG 136 32 ZFW ZqU [] := Z7 (by rfl) (by rfl) _
theorem Z0mM : ZqU.toList = [ZOD] := nf
theorem Z0qL : stepA E C B 32 ZqU ZOD (φ, H) = some (fput φ 8 (.int .i64 0), H) := nf
def Zp9 := kR ZpL
def Zs7 := kL Zp9
def ZLB := kL Zs7
def Zac := kO ZLB
def ZKT := opN Zac 0
def ZFK := opN Zac 1
def ZDe := opN Zac 2
theorem Z0Ci : XG 136 32 ZLB Zac [1] := Z7 (by rfl) (by rfl) _
theorem Z0mH : Zac.toList = [ZKT, ZFK, ZDe] := nf
theorem Z0oF : stepA E C B 32 Zac ZKT (φ, H) = some (fput φ 14 (fget φ 1), H) := nf
theorem Z0oG : stepA E C B 32 Zac ZFK (φ, H) = stp (some 15) φ H (Zf E.T (B + 15) .len #[36] [(fget φ 14)]) := nf
theorem Z0oL : stepA E C B 32 Zac ZDe (φ, H) = some (fput φ 16 (.int .i64 0), H) := nf
def ZEu := kR Zs7
def Zui := kB ZEu
def Zb2 := kB Zui
def Zwg := kL Zb2
def Zni := kO Zwg
def ZCq := opN Zni 0
theorem Z04U : XG 136 32 Zwg Zni [] := Z7 (by rfl) (by rfl) _
theorem ZKL : Zni.toList = [ZCq] := nf
theorem ZVe : stepA E C B 32 Zni ZCq (φ, H) = stp (some 17) φ H (just (aBin E.T .lss 3 (fget φ 16) (fget φ 15))) := nf
def Zii := kR Zb2
def ZjU := kL Zii
def Z04g := kT ZjU
theorem Z00c : execA E C (fg 136) B 32 E0 N Z04g s = some (.normal, s) := ZQ (by rfl) s
def Z09P := kE ZjU
theorem Z08R : execA E C (fg 136) B 32 E0 N Z09P s = some (.exit 0, s) := Z0i (by rfl) s
theorem Z0bD : XC 136 32 ZjU 17 Z04g Z09P := ZF (by rfl) _
def ZjQ := kR Zii
def ZtT := kL ZjQ
def Zin := kB ZtT
def ZuA := kL Zin
def Z9E := kO ZuA
def ZQH := opN Z9E 0
def ZDg := opN Z9E 1
def ZUs := opN Z9E 2
theorem Z0sn : XG 136 32 ZuA Z9E [17, 18, 19] := Z7 (by rfl) (by rfl) _
theorem Z0qD : Z9E.toList = [ZQH, ZDg, ZUs] := nf
theorem Z0n3 : stepA E C B 32 Z9E ZQH (φ, H) = stp (some 18) φ H (just (Z6 E.T 36 (fget φ 14) (fget φ 16))) := nf
theorem Z0lR : stepA E C B 32 Z9E ZDg (φ, H) = stp (some 19) φ H (just (aLoad E.T 3 (fget φ 18))) := nf
theorem Z0rj : stepA E C B 32 Z9E ZUs (φ, H) = some (fput φ 10 (fget φ 19), H) := nf
def Zk8 := kR Zin
def Ztq := kL Zk8
def Z1w := kO Ztq
def ZW5 := opN Z1w 0
def ZGv := opN Z1w 1
def ZIf := opN Z1w 2
def ZSZ := opN Z1w 3
def ZXv := opN Z1w 4
def ZCG := opN Z1w 5
def ZOi := opN Z1w 6
theorem Z0vH : XG 136 32 Ztq Z1w [20, 21, 22, 23, 24, 25] := Z7 (by rfl) (by rfl) _
theorem Z0nZ : Z1w.toList = [ZW5, ZGv, ZIf, ZSZ, ZXv, ZCG, ZOi] := nf
theorem Z0mo : stepA E C B 32 Z1w ZW5 (φ, H) = some (fput φ 20 (fget φ 8), H) := nf
theorem Z0mp : stepA E C B 32 Z1w ZGv (φ, H) = some (fput φ 21 (fget φ 2), H) := nf
theorem Z0lC : stepA E C B 32 Z1w ZIf (φ, H) = some (fput φ 22 (fget φ 10), H) := nf
theorem Z0ri : stepA E C B 32 Z1w ZSZ (φ, H) = stp (some 23) φ H (just (Z6 E.T 36 (fget φ 21) (fget φ 22))) := nf
theorem Z0oa : stepA E C B 32 Z1w ZXv (φ, H) = stp (some 24) φ H (just (aLoad E.T 3 (fget φ 23))) := nf
theorem Z0mG : stepA E C B 32 Z1w ZCG (φ, H) = stp (some 25) φ H (just (aBin E.T .add 3 (fget φ 20) (fget φ 24))) := nf
theorem Z0o8 : stepA E C B 32 Z1w ZOi (φ, H) = some (fput φ 8 (fget φ 25), H) := nf
def Zwu := kR Zk8
def Z3a := kO Zwu
def ZOm := opN Z3a 0
def ZGc := opN Z3a 1
def ZER := opN Z3a 2
def ZEk := opN Z3a 3
def ZSx := opN Z3a 4
theorem Z0wl : XG 136 32 Zwu Z3a [10, 26, 27, 28, 29] := Z7 (by rfl) (by rfl) _
theorem Z0pv : Z3a.toList = [ZOm, ZGc, ZER, ZEk, ZSx] := nf
theorem Z0mr : stepA E C B 32 Z3a ZOm (φ, H) = some (fput φ 26 (fget φ 7), H) := nf
theorem Z0ne : stepA E C B 32 Z3a ZGc (φ, H) = some (fput φ 27 (fget φ 10), H) := nf
theorem Z0nk : stepA E C B 32 Z3a ZER (φ, H) = some (fput φ 28 (fget φ 8), H) := nf
theorem Z0n9 : stepA E C B 32 Z3a ZEk (φ, H) = stp (some 29) φ H (just (Z6 E.T 36 (fget φ 26) (fget φ 27))) := nf
theorem Z0qn : stepA E C B 32 Z3a ZSx (φ, H) = stp none φ H (opStore E.T 3 (fget φ 29) (fget φ 28)) := nf
theorem Z0xy : XQ 136 32 Zk8 Ztq Zwu := Z1 (by rfl) _
theorem Z0sC : XQ 136 32 Zin ZuA Zk8 := Z1 (by rfl) _
theorem Z0yM : execA E C (fg 136) B 32 E0 N ZtT s = blockX 1 (fun s => (forget s.1 [], s.2)) (execA E C (fg 136) B 32 E0 N Zin s) := Zy (by rfl) (by rfl) s
def ZsV := kR ZjQ
def Zdh := kO ZsV
def ZTk := opN Zdh 0
def ZGM := opN Zdh 1
theorem Z0Am : XG 136 32 ZsV Zdh [30] := Z7 (by rfl) (by rfl) _
theorem Z0qr : Zdh.toList = [ZTk, ZGM] := nf
theorem Z0nE : stepA E C B 32 Zdh ZTk (φ, H) = stp (some 30) φ H (just (aBin E.T .add 3 (fget φ 16) (.int .i64 1))) := nf
theorem Z0nD : stepA E C B 32 Zdh ZGM (φ, H) = some (fput φ 16 (fget φ 30), H) := nf
theorem Z0wj : XQ 136 32 ZjQ ZtT ZsV := Z1 (by rfl) _
theorem Z00J : XQ 136 32 Zii ZjU ZjQ := Z1 (by rfl) _
theorem Z071 : XQ 136 32 Zb2 Zwg Zii := Z1 (by rfl) _
theorem Z0x5 : execA E C (fg 136) B 32 E0 N Zui s = iterA (execA E C (fg 136) B 32 E0 N Zb2) (headA E0) N s := Z0h (by rfl) s
theorem Z0F4 : execA E C (fg 136) B 32 E0 N ZEu s = blockX 0 (fun s => (forget s.1 [2, 8, 14, 15, 16, 17], s.2)) (execA E C (fg 136) B 32 E0 N Zui s) := Zy (by rfl) (by rfl) s
theorem Z0C3 : XQ 136 32 Zs7 ZLB ZEu := Z1 (by rfl) _
def Zji := kR Zp9
def Zwa := kL Zji
def Zde := kO Zwa
def ZPC := opN Zde 0
def ZNc := opN Zde 1
theorem Z0wX : XG 136 32 Zwa Zde [7, 31] := Z7 (by rfl) (by rfl) _
theorem Z0oC : Zde.toList = [ZPC, ZNc] := nf
theorem Z0oM : stepA E C B 32 Zde ZPC (φ, H) = some (fput φ 31 (fget φ 7), H) := nf
theorem Z0qX : stepA E C B 32 Zde ZNc (φ, H) = some (fput φ 6 (fget φ 31), H) := nf
def ZY2 := kR Zji
theorem Z0xV : execA E C (fg 136) B 32 E0 N ZY2 s = some (.ret, s) := Z00 (by rfl) s
theorem Z0vl : XQ 136 32 Zji Zwa ZY2 := Z1 (by rfl) _
theorem Z0D1 : XQ 136 32 Zp9 Zs7 Zji := Z1 (by rfl) _
theorem Z0Do : XQ 136 32 ZpL ZFW Zp9 := Z1 (by rfl) _
theorem Z0Cf : XQ 136 32 Zr4 ZSm ZpL := Z1 (by rfl) _
theorem Z0BN : XQ 136 32 ZgH ZOd Zr4 := Z1 (by rfl) _
theorem Z0BU : fInfo E 136 = some ⟨32, #[.tmp 6], ZgH⟩ := nf
theorem Z0FY (args : List AV) : bodyA E C fg N 136 args H B = bodyX E [.tmp 6] (execA E C (fg 136) B 32 H N ZgH (Zm args 0 [], H)) := ZV Z0BU args H
def Zok := kBody Proofs.Tryd.f48
def Z0ex := kL Zok
def ZbZ := kO Z0ex
def Z075 := opN ZbZ 0
def Z097 := opN ZbZ 1
def Z04A := opN ZbZ 2
theorem Z0cX : XG 48 41 Z0ex ZbZ [0, 6, 7] := Z7 (by rfl) (by rfl) _
theorem Zv4 : ZbZ.toList = [Z075, Z097, Z04A] := nf
theorem Zv7 : stepA E C B 41 ZbZ Z075 (φ, H) = stp (some 3) φ H (opBox (B + 3) (acells (fget φ 0))) := nf
theorem ZuC : stepA E C B 41 ZbZ Z097 (φ, H) = some (fput φ 6 (.nilsl), H) := nf
theorem Zwy : stepA E C B 41 ZbZ Z04A (φ, H) = some (fput φ 7 (.int .i64 0), H) := nf
def ZBY := kR Zok
def Z0dU := kL ZBY
def Z0V := kO Z0dU
def Z08L := opN Z0V 0
def Z074 := opN Z0V 1
def Z04O := opN Z0V 2
def Z0bB := opN Z0V 3
def Z03R := opN Z0V 4
def ZZF := opN Z0V 5
def Z05y := opN Z0V 6
def Z0bW := opN Z0V 7
def Z0aI := opN Z0V 8
def Z03N := opN Z0V 9
def ZCX := opN Z0V 10
def ZR6 := opN Z0V 11
theorem Z0cW : XG 48 41 Z0dU Z0V [1, 2, 3, 12, 13, 14, 15, 16, 17, 18, 19] := Z7 (by rfl) (by rfl) _
theorem Zv9 : Z0V.toList = [Z08L, Z074, Z04O, Z0bB, Z03R, ZZF, Z05y, Z0bW, Z0aI, Z03N, ZCX, ZR6] := nf
theorem ZsX : stepA E C B 41 Z0V Z08L (φ, H) = stp (some 13) φ H (just (aLoad E.T 25 (fget φ 3))) := nf
theorem Zww : stepA E C B 41 Z0V Z074 (φ, H) = some (fput φ 14 (fget φ 1), H) := nf
theorem Zte : stepA E C B 41 Z0V Z04O (φ, H) = some (fput φ 15 (fget φ 2), H) := nf
theorem Zv8 : stepA E C B 41 Z0V Z0bB (φ, H) = stp (some 16) φ H (aCall C (fun j => B + j * 41 + 16) true 114 [(fget φ 13), (fget φ 14), (fget φ 15)]) := nf
theorem Zt5 : stepA E C B 41 Z0V Z03R (φ, H) = some (fput φ 12 (fget φ 16), H) := nf
theorem Zuj : stepA E C B 41 Z0V ZZF (φ, H) = stp (some 17) φ H (Zx (fget φ 12) 0) := nf
theorem ZsM : stepA E C B 41 Z0V Z05y (φ, H) = stp (some 18) φ H (Zx (fget φ 12) 1) := nf
theorem ZwC : stepA E C B 41 Z0V Z0bW (φ, H) = stp (some 19) φ H (Zx (fget φ 12) 2) := nf
theorem ZvB : stepA E C B 41 Z0V Z0aI (φ, H) = stp (some 8) φ H (opBox (B + 8) (zeroCells E.T 109)) := nf
theorem Zty : stepA E C B 41 Z0V Z03N (φ, H) = stp none φ H (opStore E.T 109 (fget φ 8) (fget φ 17)) := nf
theorem ZlY : stepA E C B 41 Z0V ZCX (φ, H) = some (fput φ 9 (fget φ 18), H) := nf
theorem ZlW : stepA E C B 41 Z0V ZR6 (φ, H) = some (fput φ 10 (fget φ 19), H) := nf
def ZBB := kR ZBY
def ZAF := kL ZBB
def Z0eJ := kL ZAF
def Zcg := kO Z0eJ
def Z03C := opN Zcg 0
def Z02f := opN Zcg 1
def ZZf := opN Zcg 2
theorem Z0d6 : XG 48 41 Z0eJ Zcg [20] := Z7 (by rfl) (by rfl) _
theorem Zu4 : Zcg.toList = [Z03C, Z02f, ZZf] := nf
theorem Zuq : stepA E C B 41 Zcg Z03C (φ, H) = some (fput φ 20 (fget φ 9), H) := nf
theorem Zva : stepA E C B 41 Zcg Z02f (φ, H) = stp (some 21) φ H (Zf E.T (B + 21) .len #[36] [(fget φ 20)]) := nf
theorem ZtF : stepA E C B 41 Zcg ZZf (φ, H) = some (fput φ 22 (.int .i64 0), H) := nf
def Z0cJ := kR ZAF
def Z0ez := kB Z0cJ
def Zcf := kB Z0ez
def ZCr := kL Zcf
def ZBZ := kO ZCr
def Z07n := opN ZBZ 0
theorem ZnL : XG 48 41 ZCr ZBZ [] := Z7 (by rfl) (by rfl) _
theorem Zj9 : ZBZ.toList = [Z07n] := nf
theorem Zk3 : stepA E C B 41 ZBZ Z07n (φ, H) = stp (some 23) φ H (just (aBin E.T .lss 3 (fget φ 22) (fget φ 21))) := nf
def Zoi := kR Zcf
def Zql := kL Zoi
def Z0iG := kT Zql
theorem Zq6 : execA E C (fg 48) B 41 E0 N Z0iG s = some (.normal, s) := ZQ (by rfl) s
def Z0kc := kE Zql
theorem Zq8 : execA E C (fg 48) B 41 E0 N Z0kc s = some (.exit 0, s) := Z0i (by rfl) s
theorem ZoT : XC 48 41 Zql 23 Z0iG Z0kc := ZF (by rfl) _
def Zsb := kR Zoi
def ZMw := kL Zsb
def Zpc := kB ZMw
def ZLe := kL Zpc
def ZkF := kO ZLe
def Z0bj := opN ZkF 0
def Z08w := opN ZkF 1
theorem Z0By : XG 48 41 ZLe ZkF [23, 24] := Z7 (by rfl) (by rfl) _
theorem Z0ws : ZkF.toList = [Z0bj, Z08w] := nf
theorem Z0tO : stepA E C B 41 ZkF Z0bj (φ, H) = some (fput φ 24 (fget φ 22), H) := nf
theorem Z0wr : stepA E C B 41 ZkF Z08w (φ, H) = some (fput φ 11 (fget φ 24), H) := nf
def ZIa := kR Zpc
def Z0p := kO ZIa
def Z01H := opN Z0p 0
def Z0a2 := opN Z0p 1
def Z09u := opN Z0p 2
def Z07l := opN Z0p 3
def Z06X := opN Z0p 4
def Z03A := opN Z0p 5
def Z0cb := opN Z0p 6
def Z0bJ := opN Z0p 7
def Z0b4 := opN Z0p 8
def Z07X := opN Z0p 9
def ZOA := opN Z0p 10
def ZGY := opN Z0p 11
def ZOo := opN Z0p 12
def ZTe := opN Z0p 13
theorem Z0DE : XD 48 41 ZIa Z0p [11, 25, 26, 27, 28, 29, 30, 31, 32, 33, 34, 35, 36, 37] := Z0L (by rfl) (by rfl) _
theorem Z0wc : Z0p.toList = [Z01H, Z0a2, Z09u, Z07l, Z06X, Z03A, Z0cb, Z0bJ, Z0b4, Z07X, ZOA, ZGY, ZOo, ZTe] := nf
theorem Z0pu : statOk Z0p = true := by kernel_rfl
theorem Z0mQ : drawA E C B 41 Z0p s = if neat 41 s = true then drX Z0p (runT E C B 41 Z0p Z0p.toList 0 s) else none := Z0w Z0pu s
theorem Z0oA (l : List (Nat × Tr)) : dynOk Z0p l = (!writing l || Zu [[], [], [], [2], [], [2, 3, 4], [2, 3, 4, 5], [], [], [7, 8], [7, 8, 9], [2, 3, 4, 5, 6, 7, 8, 9, 10], [0, 1, 2, 3, 4, 5, 6, 7, 8, 9, 10, 11], [0, 1, 2, 3, 4, 5, 6, 7, 8, 9, 10, 11, 12]] (Zr l)) := Z0g (by kernel_rfl) l
theorem Z0vW : stepT E C B 41 Z0p Z01H (φ, H) = some ((fput φ 25 (fget φ 9), H), ⟨false, [], []⟩) := Z8 rfl (Zt rfl rfl)
theorem Z0vb : stepT E C B 41 Z0p Z0a2 (φ, H) = some ((fput φ 26 (fget φ 11), H), ⟨false, [], []⟩) := Z8 rfl (Zt rfl rfl)
theorem Z0sd : stepT E C B 41 Z0p Z09u (φ, H) = stpT (some 27) φ H (just (Zb E.T 109 (fget φ 8) 0)) := Z8 rfl (Zg rfl rfl)
theorem Z0v3 : stepT E C B 41 Z0p Z07l (φ, H) = stpT (some 28) φ H (just (aLoad E.T 106 (fget φ 27))) := Z8 rfl (Zg rfl rfl)
theorem Z0yt : stepT E C B 41 Z0p Z06X (φ, H) = some ((fput φ 29 (fget φ 11), H), ⟨false, [], []⟩) := Z8 rfl (Zt rfl rfl)
theorem Z0t5 : stepT E C B 41 Z0p Z03A (φ, H) = stpT (some 30) φ H (just (Z6 E.T 106 (fget φ 28) (fget φ 29))) := Z8 rfl (Zg rfl rfl)
theorem Z0Av : stepT E C B 41 Z0p Z0cb (φ, H) = stpT (some 31) φ H (just (aLoad E.T 126 (fget φ 30))) := Z8 rfl (Zg rfl rfl)
theorem Z0yk : stepT E C B 41 Z0p Z0bJ (φ, H) = some ((fput φ 32 (fget φ 9), H), ⟨false, [], []⟩) := Z8 rfl (Zt rfl rfl)
theorem Z0A5 : stepT E C B 41 Z0p Z0b4 (φ, H) = some ((fput φ 33 (fget φ 11), H), ⟨false, [], []⟩) := Z8 rfl (Zt rfl rfl)
theorem Z0sj : stepT E C B 41 Z0p Z07X (φ, H) = stpT (some 34) φ H (just (Z6 E.T 36 (fget φ 32) (fget φ 33))) := Z8 rfl (Zg rfl rfl)
theorem Z0pL : stepT E C B 41 Z0p ZOA (φ, H) = stpT (some 35) φ H (just (aLoad E.T 3 (fget φ 34))) := Z8 rfl (Zg rfl rfl)
theorem Z0nU : stepT E C B 41 Z0p ZGY (φ, H) = stpT (some 36) φ H (aCall C (fun j => B + j * 41 + 36) true 99 [(fget φ 31), (fget φ 35)]) := Z8 rfl (Zg rfl rfl)
theorem Z0mX : stepT E C B 41 Z0p ZOo (φ, H) = stpT (some 37) φ H (just (Z6 E.T 36 (fget φ 25) (fget φ 26))) := Z8 rfl (Zg rfl rfl)
theorem Z0qH : stepT E C B 41 Z0p ZTe (φ, H) = stpT none φ H (opStore E.T 3 (fget φ 37) (fget φ 36)) := Z8 rfl (Zg rfl rfl)
theorem Z0Cx : XQ 48 41 Zpc ZLe ZIa := Z1 (by rfl) _
theorem Z0Dg : execA E C (fg 48) B 41 E0 N ZMw s = blockX 1 (fun s => (forget s.1 [], s.2)) (execA E C (fg 48) B 41 E0 N Zpc s) := Zy (by rfl) (by rfl) s
def ZHl := kR Zsb
def Zlz := kO ZHl
def Z09A := opN Zlz 0
def Z03L := opN Zlz 1
theorem Z0EC : XG 48 41 ZHl Zlz [38] := Z7 (by rfl) (by rfl) _
theorem Z0AL : Zlz.toList = [Z09A, Z03L] := nf
theorem Z0B0 : stepA E C B 41 Zlz Z09A (φ, H) = stp (some 38) φ H (just (aBin E.T .add 3 (fget φ 22) (.int .i64 1))) := nf
theorem Z0x0 : stepA E C B 41 Zlz Z03L (φ, H) = some (fput φ 22 (fget φ 38), H) := nf
theorem Z0E0 : XQ 48 41 Zsb ZMw ZHl := Z1 (by rfl) _
theorem Zoy : XQ 48 41 Zoi Zql Zsb := Z1 (by rfl) _
theorem ZBw : XQ 48 41 Zcf ZCr Zoi := Z1 (by rfl) _
theorem Z0eX : execA E C (fg 48) B 41 E0 N Z0ez s = iterA (execA E C (fg 48) B 41 E0 N Zcf) (headA E0) N s := Z0h (by rfl) s
theorem Z0cV : execA E C (fg 48) B 41 E0 N Z0cJ s = blockX 0 (fun s => (forget s.1 [8, 21, 22, 23], s.2)) (execA E C (fg 48) B 41 E0 N Z0ez s) := Zy (by rfl) (by rfl) s
theorem Z0dc : XQ 48 41 ZAF Z0eJ Z0cJ := Z1 (by rfl) _
def ZoD := kR ZBB
def ZEJ := kL ZoD
def Z98 := kO ZEJ
def Z06O := opN Z98 0
def Z0bC := opN Z98 1
def Z0aJ := opN Z98 2
def Z09t := opN Z98 3
theorem ZNa : XG 48 41 ZEJ Z98 [9, 10, 39, 40] := Z7 (by rfl) (by rfl) _
theorem ZtY : Z98.toList = [Z06O, Z0bC, Z0aJ, Z09t] := nf
theorem Zvw : stepA E C B 41 Z98 Z06O (φ, H) = some (fput φ 39 (fget φ 9), H) := nf
theorem Zwk : stepA E C B 41 Z98 Z0bC (φ, H) = some (fput φ 40 (fget φ 10), H) := nf
theorem ZtA : stepA E C B 41 Z98 Z0aJ (φ, H) = some (fput φ 6 (fget φ 39), H) := nf
theorem Zvg : stepA E C B 41 Z98 Z09t (φ, H) = some (fput φ 7 (fget φ 40), H) := nf
def Z0kP := kR ZoD
theorem ZFH : execA E C (fg 48) B 41 E0 N Z0kP s = some (.ret, s) := Z00 (by rfl) s
theorem ZUn : XQ 48 41 ZoD ZEJ Z0kP := Z1 (by rfl) _
theorem Z0dF : XQ 48 41 ZBB ZAF ZoD := Z1 (by rfl) _
theorem Z0dv : XQ 48 41 ZBY Z0dU ZBB := Z1 (by rfl) _
theorem Z0dW : XQ 48 41 Zok Z0ex ZBY := Z1 (by rfl) _
theorem Z0FX : fInfo E 48 = some ⟨41, #[.tmp 6, .tmp 7], Zok⟩ := nf
theorem b_48 (args : List AV) : bodyA E C fg N 48 args H B = bodyX E [.tmp 6, .tmp 7] (execA E C (fg 48) B 41 H N Zok (Zm args 0 [], H)) := ZV Z0FX args H
def ZqT := kBody Proofs.Tryd.f49
def Z0dY := kL ZqT
def Zc5 := kO Z0dY
def Z05j := opN Zc5 0
def Z0ae := opN Zc5 1
def Z028 := opN Zc5 2
theorem Z0Ic : XG 49 22 Z0dY Zc5 [0, 6, 7] := Z7 (by rfl) (by rfl) _
theorem Z0zv : Zc5.toList = [Z05j, Z0ae, Z028] := nf
theorem Z0vF : stepA E C B 22 Zc5 Z05j (φ, H) = stp (some 3) φ H (opBox (B + 3) (acells (fget φ 0))) := nf
theorem Z0AP : stepA E C B 22 Zc5 Z0ae (φ, H) = some (fput φ 6 (.int .i64 0), H) := nf
theorem Z0wW : stepA E C B 22 Zc5 Z028 (φ, H) = some (fput φ 7 (.int .i64 0), H) := nf
def ZC4 := kR ZqT
def Z0eq := kL ZC4
def Z1r := kO Z0eq
def ZZD := opN Z1r 0
def Z09C := opN Z1r 1
def ZYH := opN Z1r 2
def Z06Z := opN Z1r 3
def Z00S := opN Z1r 4
def Z07T := opN Z1r 5
def Z00v := opN Z1r 6
def Z06g := opN Z1r 7
def Z00m := opN Z1r 8
theorem Z0Gw : XG 49 22 Z0eq Z1r [1, 2, 3, 10, 11, 12, 13, 14, 15, 16] := Z7 (by rfl) (by rfl) _
theorem Z0to : Z1r.toList = [ZZD, Z09C, ZYH, Z06Z, Z00S, Z07T, Z00v, Z06g, Z00m] := nf
theorem Z0zD : stepA E C B 22 Z1r ZZD (φ, H) = stp (some 11) φ H (just (aLoad E.T 25 (fget φ 3))) := nf
theorem Z0z5 : stepA E C B 22 Z1r Z09C (φ, H) = some (fput φ 12 (fget φ 1), H) := nf
theorem Z0uV : stepA E C B 22 Z1r ZYH (φ, H) = some (fput φ 13 (fget φ 2), H) := nf
theorem Z0Ac : stepA E C B 22 Z1r Z06Z (φ, H) = stp (some 14) φ H (aCall C (fun j => B + j * 22 + 14) true 48 [(fget φ 11), (fget φ 12), (fget φ 13)]) := nf
theorem Z0uh : stepA E C B 22 Z1r Z00S (φ, H) = some (fput φ 10 (fget φ 14), H) := nf
theorem Z0sK : stepA E C B 22 Z1r Z07T (φ, H) = stp (some 15) φ H (Zx (fget φ 10) 0) := nf
theorem Z0yS : stepA E C B 22 Z1r Z00v (φ, H) = stp (some 16) φ H (Zx (fget φ 10) 1) := nf
theorem Z0zS : stepA E C B 22 Z1r Z06g (φ, H) = some (fput φ 8 (fget φ 15), H) := nf
theorem Z0sB : stepA E C B 22 Z1r Z00m (φ, H) = some (fput φ 9 (fget φ 16), H) := nf
def ZBf := kR ZC4
def ZCb := kL ZBf
def Z0e5 := kL ZCb
def Zk1 := kO Z0e5
def ZY3 := opN Zk1 0
def Z04J := opN Zk1 1
theorem Z0Gb : XG 49 22 Z0e5 Zk1 [17] := Z7 (by rfl) (by rfl) _
theorem Z0AH : Zk1.toList = [ZY3, Z04J] := nf
theorem Z0yX : stepA E C B 22 Zk1 ZY3 (φ, H) = some (fput φ 17 (fget φ 9), H) := nf
theorem Z0uK : stepA E C B 22 Zk1 Z04J (φ, H) = stp (some 18) φ H (just (aBin E.T .neq 32 (fget φ 17) (.int .i64 0))) := nf
def ZBD := kR ZCb
def ZAI := kT ZBD
def Z0dh := kL ZAI
def Zcd := kO Z0dh
def Z0b6 := opN Zcd 0
def Z01i := opN Zcd 1
def Z0ao := opN Zcd 2
theorem Z0H7 : XG 49 22 Z0dh Zcd [8, 9, 18, 19] := Z7 (by rfl) (by rfl) _
theorem Z0tm : Zcd.toList = [Z0b6, Z01i, Z0ao] := nf
theorem Z0sb : stepA E C B 22 Zcd Z0b6 (φ, H) = some (fput φ 19 (fget φ 9), H) := nf
theorem Z0v2 : stepA E C B 22 Zcd Z01i (φ, H) = some (fput φ 6 (.int .i64 0), H) := nf
theorem Z0zs : stepA E C B 22 Zcd Z0ao (φ, H) = some (fput φ 7 (fget φ 19), H) := nf
def Z0jL := kR ZAI
theorem Z0Bi : execA E C (fg 49) B 22 E0 N Z0jL s = some (.ret, s) := Z00 (by rfl) s
theorem Z0Fw : XQ 49 22 ZAI Z0dh Z0jL := Z1 (by rfl) _
def Z0hu := kE ZBD
theorem Z0Dv : execA E C (fg 49) B 22 E0 N Z0hu s = some (.normal, s) := ZQ (by rfl) s
theorem Z0FW : XC 49 22 ZBD 18 ZAI Z0hu := ZF (by rfl) _
theorem Z0I4 : XQ 49 22 ZCb Z0e5 ZBD := Z1 (by rfl) _
def Zpd := kR ZBf
def ZIe := kL Zpd
def Z9p := kO ZIe
def Z02c := opN Z9p 0
def Z06V := opN Z9p 1
def Z00O := opN Z9p 2
def Z04u := opN Z9p 3
theorem Z0D7 : XG 49 22 ZIe Z9p [8, 9, 18, 20, 21] := Z7 (by rfl) (by rfl) _
theorem Z0AA : Z9p.toList = [Z02c, Z06V, Z00O, Z04u] := nf
theorem Z0wB : stepA E C B 22 Z9p Z02c (φ, H) = some (fput φ 20 (fget φ 8), H) := nf
theorem Z0tZ : stepA E C B 22 Z9p Z06V (φ, H) = stp (some 21) φ H (aCall C (fun j => B + j * 22 + 21) true 115 [(fget φ 20)]) := nf
theorem Z0vP : stepA E C B 22 Z9p Z00O (φ, H) = some (fput φ 6 (fget φ 21), H) := nf
theorem Z0B4 : stepA E C B 22 Z9p Z04u (φ, H) = some (fput φ 7 (.int .i64 0), H) := nf
def Z0iM := kR Zpd
theorem Z0ES : execA E C (fg 49) B 22 E0 N Z0iM s = some (.ret, s) := Z00 (by rfl) s
theorem Z0Du : XQ 49 22 Zpd ZIe Z0iM := Z1 (by rfl) _
theorem Z0FR : XQ 49 22 ZBf ZCb Zpd := Z1 (by rfl) _
theorem Z0G3 : XQ 49 22 ZC4 Z0eq ZBf := Z1 (by rfl) _
theorem Z0FO : XQ 49 22 ZqT Z0dY ZC4 := Z1 (by rfl) _
theorem Z0GM : fInfo E 49 = some ⟨22, #[.tmp 6, .tmp 7], ZqT⟩ := nf
theorem b_49 (args : List AV) : bodyA E C fg N 49 args H B = bodyX E [.tmp 6, .tmp 7] (execA E C (fg 49) B 22 H N ZqT (Zm args 0 [], H)) := ZV Z0GM args H
def Zot := kBody Proofs.Tryd.f89
def Z0da := kL Zot
def Zcj := kO Z0da
def Z06k := opN Zcj 0
def ZYe := opN Zcj 1
def Z0bi := opN Zcj 2
theorem Z0FB : XG 89 46 Z0da Zcj [0, 2, 3] := Z7 (by rfl) (by rfl) _
theorem Z0zW : Zcj.toList = [Z06k, ZYe, Z0bi] := nf
theorem Z0sq : stepA E C B 46 Zcj Z06k (φ, H) = stp (some 1) φ H (opBox (B + 1) (acells (fget φ 0))) := nf
theorem Z0x9 : stepA E C B 46 Zcj ZYe (φ, H) = some (fput φ 2 (.nilsl), H) := nf
theorem Z0yo : stepA E C B 46 Zcj Z0bi (φ, H) = some (fput φ 3 (.int .i64 0), H) := nf
def ZAM := kR Zot
def Z0et := kL ZAM
def ZAD := kO Z0et
def Z05b := opN ZAD 0
theorem Z0HV : XG 89 46 Z0et ZAD [] := Z7 (by rfl) (by rfl) _
theorem Z0ta : ZAD.toList = [Z05b] := nf
theorem Z0uX : stepA E C B 46 ZAD Z05b (φ, H) = some (fput φ 4 (.nilsl), H) := nf
def ZBU := kR ZAM
def Z0eb := kL ZBU
def ZB5 := kO Z0eb
def Z07i := opN ZB5 0
theorem Z0I1 : XG 89 46 Z0eb ZB5 [] := Z7 (by rfl) (by rfl) _
theorem Z0sU : ZB5.toList = [Z07i] := nf
theorem Z0sa : stepA E C B 46 ZB5 Z07i (φ, H) = some (fput φ 5 (.int .i64 0), H) := nf
def ZAP := kR ZBU
def ZBO := kL ZAP
def Z0ey := kL ZBO
def Zcb := kO Z0ey
def Z01P := opN Zcb 0
def Z03Q := opN Zcb 1
def Z07V := opN Zcb 2
theorem Z0HK : XG 89 46 Z0ey Zcb [10, 11] := Z7 (by rfl) (by rfl) _
theorem Z0tz : Zcb.toList = [Z01P, Z03Q, Z07V] := nf
theorem Z0A4 : stepA E C B 46 Zcb Z01P (φ, H) = stp (some 10) φ H (just (aLoad E.T 109 (fget φ 1))) := nf
theorem Z0Ab : stepA E C B 46 Zcb Z03Q (φ, H) = stp (some 11) φ H (aCall C (fun j => B + j * 46 + 11) true 95 [(fget φ 10)]) := nf
theorem Z0Ao : stepA E C B 46 Zcb Z07V (φ, H) = some (fput φ 6 (fget φ 11), H) := nf
def Z0df := kR ZBO
def ZO0 := kB Z0df
def Zdw := kB ZO0
def Zov := kL Zdw
def ZSg := kL Zov
def ZkS := kO ZSg
def Z08N := opN ZkS 0
def Z06F := opN ZkS 1
theorem ZDa : XG 89 46 ZSg ZkS [12] := Z7 (by rfl) (by rfl) _
theorem ZtV : ZkS.toList = [Z08N, Z06F] := nf
theorem ZvQ : stepA E C B 46 ZkS Z08N (φ, H) = some (fput φ 12 (fget φ 6), H) := nf
theorem Zw9 : stepA E C B 46 ZkS Z06F (φ, H) = stp (some 13) φ H (just (aBin E.T .neq 121 (fget φ 12) (.int .u64 0))) := nf
def Zpy := kR Zov
def Z0iy := kT Zpy
theorem ZVV : execA E C (fg 89) B 46 E0 N Z0iy s = some (.normal, s) := ZQ (by rfl) s
def Z0iF := kE Zpy
theorem ZMc : execA E C (fg 89) B 46 E0 N Z0iF s = some (.exit 0, s) := Z0i (by rfl) s
theorem ZR5 : XC 89 46 Zpy 13 Z0iy Z0iF := ZF (by rfl) _
theorem ZGq : XQ 89 46 Zov ZSg Zpy := Z1 (by rfl) _
def ZFt := kR Zdw
def Zqp := kB ZFt
def ZJl := kL Zqp
def Z4E := kO ZJl
def Z04V := opN Z4E 0
def Z06u := opN Z4E 1
def Z0cA := opN Z4E 2
def Z03q := opN Z4E 3
def Z09I := opN Z4E 4
theorem Z0fa : XG 89 46 ZJl Z4E [13, 14, 15, 16] := Z7 (by rfl) (by rfl) _
theorem Z06h : Z4E.toList = [Z04V, Z06u, Z0cA, Z03q, Z09I] := nf
theorem Z05I : stepA E C B 46 Z4E Z04V (φ, H) = stp (some 14) φ H (just (aLoad E.T 109 (fget φ 1))) := nf
theorem ZYd : stepA E C B 46 Z4E Z06u (φ, H) = some (fput φ 15 (fget φ 6), H) := nf
theorem Z049 : stepA E C B 46 Z4E Z0cA (φ, H) = stp (some 16) φ H (aCall C (fun j => B + j * 46 + 16) true 100 [(fget φ 14), (fget φ 15)]) := nf
theorem Z07P : stepA E C B 46 Z4E Z03q (φ, H) = stp (some 7) φ H (opBox (B + 7) (zeroCells E.T 3)) := nf
theorem Z0ck : stepA E C B 46 Z4E Z09I (φ, H) = stp none φ H (opStore E.T 3 (fget φ 7) (fget φ 16)) := nf
def Zof := kR Zqp
def ZHZ := kL Zof
def Z9a := kO ZHZ
def Z019 := opN Z9a 0
def Z0bN := opN Z9a 1
def ZYx := opN Z9a 2
def Z01p := opN Z9a 3
theorem Z0jQ : XG 89 46 ZHZ Z9a [17, 18, 19] := Z7 (by rfl) (by rfl) _
theorem ZZZ : Z9a.toList = [Z019, Z0bN, ZYx, Z01p] := nf
theorem Z08n : stepA E C B 46 Z9a Z019 (φ, H) = stp (some 17) φ H (just (aLoad E.T 109 (fget φ 1))) := nf
theorem Z02T : stepA E C B 46 Z9a Z0bN (φ, H) = some (fput φ 18 (fget φ 6), H) := nf
theorem Z0aa : stepA E C B 46 Z9a ZYx (φ, H) = stp (some 19) φ H (aCall C (fun j => B + j * 46 + 19) true 128 [(fget φ 17), (fget φ 18)]) := nf
theorem Z01m : stepA E C B 46 Z9a Z01p (φ, H) = some (fput φ 8 (fget φ 19), H) := nf
def ZnJ := kR Zof
def ZJz := kL ZnJ
def Zlp := kO ZJz
def Z07h := opN Zlp 0
def Z04Q := opN Zlp 1
theorem Z0l4 : XG 89 46 ZJz Zlp [20, 21] := Z7 (by rfl) (by rfl) _
theorem Z09H : Zlp.toList = [Z07h, Z04Q] := nf
theorem Z0aQ : stepA E C B 46 Zlp Z07h (φ, H) = some (fput φ 20 (fget φ 8), H) := nf
theorem Z02D : stepA E C B 46 Zlp Z04Q (φ, H) = mutX (some 21) φ (C 129 [(fget φ 20)] H (B + 46 * 8)) := nf
def ZpK := kR ZnJ
def ZFp := kL ZpK
def Z9b := kO ZFp
def Z0bQ := opN Z9b 0
def Z0cc := opN Z9b 1
def Z055 := opN Z9b 2
def Z01O := opN Z9b 3
theorem Z0fJ : XG 89 46 ZFp Z9b [8, 22, 23, 24] := Z7 (by rfl) (by rfl) _
theorem Z07S : Z9b.toList = [Z0bQ, Z0cc, Z055, Z01O] := nf
theorem Z0br : stepA E C B 46 Z9b Z0bQ (φ, H) = some (fput φ 22 (fget φ 8), H) := nf
theorem ZZu : stepA E C B 46 Z9b Z0cc (φ, H) = stp (some 23) φ H (.pure (.clo 131 [(fget φ 1), (fget φ 7)], [])) := nf
theorem Z053 : stepA E C B 46 Z9b Z055 (φ, H) = stp (some 24) φ H (aCall C (fun j => B + j * 46 + 24) true 130 [(fget φ 22), (fget φ 23)]) := nf
theorem Z00h : stepA E C B 46 Z9b Z01O (φ, H) = some (fput φ 9 (fget φ 24), H) := nf
def Zss := kR ZpK
def ZRu := kL Zss
def Z0N := kO ZRu
def Z01D := opN Z0N 0
def Z0bT := opN Z0N 1
def Z07Q := opN Z0N 2
def Z06A := opN Z0N 3
def ZYB := opN Z0N 4
def ZXY := opN Z0N 5
def Z08e := opN Z0N 6
def Z08X := opN Z0N 7
def Z00k := opN Z0N 8
def Z06H := opN Z0N 9
theorem Z0i3 : XD 89 46 ZRu Z0N [7, 25, 26, 27, 28, 29, 30, 31, 32, 33] := Z0L (by rfl) (by rfl) _
theorem Z03Z : Z0N.toList = [Z01D, Z0bT, Z07Q, Z06A, ZYB, ZXY, Z08e, Z08X, Z00k, Z06H] := nf
theorem Z0oT : statOk Z0N = true := by kernel_rfl
theorem ZIo : drawA E C B 46 Z0N s = if neat 46 s = true then drX Z0N (runT E C B 46 Z0N Z0N.toList 0 s) else none := Z0w Z0oT s
theorem ZEn (l : List (Nat × Tr)) : dynOk Z0N l = (!writing l || Zu [[], [], [1], [], [1, 2, 3], [1, 2, 3, 4], [], [1, 2, 3, 4, 5, 6], [0, 1, 2, 3, 4, 5, 6, 7], [0, 1, 2, 3, 4, 5, 6, 7, 8]] (Zr l)) := Z0g (by kernel_rfl) l
theorem Z0bZ : stepT E C B 46 Z0N Z01D (φ, H) = some ((fput φ 25 (fget φ 5), H), ⟨false, [], []⟩) := Z8 rfl (Zt rfl rfl)
theorem Z07A : stepT E C B 46 Z0N Z0bT (φ, H) = stpT (some 26) φ H (just (Zb E.T 109 (fget φ 1) 0)) := Z8 rfl (Zg rfl rfl)
theorem Z0ak : stepT E C B 46 Z0N Z07Q (φ, H) = stpT (some 27) φ H (just (aLoad E.T 106 (fget φ 26))) := Z8 rfl (Zg rfl rfl)
theorem ZY6 : stepT E C B 46 Z0N Z06A (φ, H) = some ((fput φ 28 (fget φ 9), H), ⟨false, [], []⟩) := Z8 rfl (Zt rfl rfl)
theorem Z09M : stepT E C B 46 Z0N ZYB (φ, H) = stpT (some 29) φ H (just (Z6 E.T 106 (fget φ 27) (fget φ 28))) := Z8 rfl (Zg rfl rfl)
theorem Z068 : stepT E C B 46 Z0N ZXY (φ, H) = stpT (some 30) φ H (just (aLoad E.T 126 (fget φ 29))) := Z8 rfl (Zg rfl rfl)
theorem Z013 : stepT E C B 46 Z0N Z08e (φ, H) = stpT (some 31) φ H (just (aLoad E.T 3 (fget φ 7))) := Z8 rfl (Zg rfl rfl)
theorem Z03i : stepT E C B 46 Z0N Z08X (φ, H) = stpT (some 32) φ H (aCall C (fun j => B + j * 46 + 32) true 99 [(fget φ 30), (fget φ 31)]) := Z8 rfl (Zg rfl rfl)
theorem Z07O : stepT E C B 46 Z0N Z00k (φ, H) = stpT (some 33) φ H (Zf E.T (B + 33) .max #[3, 3] [(fget φ 25), (fget φ 32)]) := Z8 rfl (Zg rfl rfl)
theorem Z08F : stepT E C B 46 Z0N Z06H (φ, H) = some ((fput φ 5 (fget φ 33), H), ⟨false, [], []⟩) := Z8 rfl (Zt rfl rfl)
def Zp0 := kR Zss
def ZQg := kL Zp0
def Z39 := kO ZQg
def ZUE := opN Z39 0
def ZPX := opN Z39 1
def ZLu := opN Z39 2
def ZNn := opN Z39 3
def ZR9 := opN Z39 4
theorem Z0gS : XG 89 46 ZQg Z39 [34, 35, 36, 37] := Z7 (by rfl) (by rfl) _
theorem ZLw : Z39.toList = [ZUE, ZPX, ZLu, ZNn, ZR9] := nf
theorem ZG2 : stepA E C B 46 Z39 ZUE (φ, H) = some (fput φ 34 (fget φ 4), H) := nf
theorem ZN3 : stepA E C B 46 Z39 ZPX (φ, H) = some (fput φ 35 (fget φ 9), H) := nf
theorem ZCQ : stepA E C B 46 Z39 ZLu (φ, H) = stp (some 36) φ H (ZZ E.T (B + 36) 36 1 (evO E φ) [(0, Operand.tmp 35)]) := nf
theorem ZCW : stepA E C B 46 Z39 ZNn (φ, H) = stp (some 37) φ H (Zf E.T (B + 37) .append #[36, 36] [(fget φ 34), (fget φ 36)]) := nf
theorem ZLV : stepA E C B 46 Z39 ZR9 (φ, H) = some (fput φ 4 (fget φ 37), H) := nf
def ZDG := kR Zp0
def Z34 := kO ZDG
def ZHX := opN Z34 0
def ZLy := opN Z34 1
def ZRY := opN Z34 2
def ZVj := opN Z34 3
def ZHw := opN Z34 4
theorem Z0gz : XG 89 46 ZDG Z34 [9, 38, 39, 40, 41] := Z7 (by rfl) (by rfl) _
theorem ZMT : Z34.toList = [ZHX, ZLy, ZRY, ZVj, ZHw] := nf
theorem ZJS : stepA E C B 46 Z34 ZHX (φ, H) = some (fput φ 38 (fget φ 6), H) := nf
theorem ZS2 : stepA E C B 46 Z34 ZLy (φ, H) = some (fput φ 39 (fget φ 9), H) := nf
theorem ZN7 : stepA E C B 46 Z34 ZRY (φ, H) = stp (some 40) φ H (just (aBin E.T .shl 121 (.int .u64 1) (fget φ 39))) := nf
theorem ZHL : stepA E C B 46 Z34 ZVj (φ, H) = stp (some 41) φ H (just (aBin E.T .andNot 121 (fget φ 38) (fget φ 40))) := nf
theorem ZDW : stepA E C B 46 Z34 ZHw (φ, H) = some (fput φ 6 (fget φ 41), H) := nf
theorem Z0gf : XQ 89 46 Zp0 ZQg ZDG := Z1 (by rfl) _
theorem Z0gs : XQ 89 46 Zss ZRu Zp0 := Z1 (by rfl) _
theorem Z0gP : XQ 89 46 ZpK ZFp Zss := Z1 (by rfl) _
theorem Z0jo : XQ 89 46 ZnJ ZJz ZpK := Z1 (by rfl) _
theorem Z0ic : XQ 89 46 Zof ZHZ ZnJ := Z1 (by rfl) _
theorem Z0hJ : XQ 89 46 Zqp ZJl Zof := Z1 (by rfl) _
theorem Z0kZ : execA E C (fg 89) B 46 E0 N ZFt s = blockX 1 (fun s => (forget s.1 [], s.2)) (execA E C (fg 89) B 46 E0 N Zqp s) := Zy (by rfl) (by rfl) s
theorem ZD0 : XQ 89 46 Zdw Zov ZFt := Z1 (by rfl) _
theorem Z0BJ : execA E C (fg 89) B 46 E0 N ZO0 s = iterA (execA E C (fg 89) B 46 E0 N Zdw) (headA E0) N s := Z0h (by rfl) s
theorem Z0Hu : execA E C (fg 89) B 46 E0 N Z0df s = blockX 0 (fun s => (forget s.1 [1, 6, 13], s.2)) (execA E C (fg 89) B 46 E0 N ZO0 s) := Zy (by rfl) (by rfl) s
theorem Z0Fv : XQ 89 46 ZBO Z0ey Z0df := Z1 (by rfl) _
def ZnP := kR ZAP
def ZW3 := kL ZnP
def Zdu := kO ZW3
def ZTj := opN Zdu 0
def ZTQ := opN Zdu 1
theorem Z0BX : XG 89 46 ZW3 Zdu [42, 43] := Z7 (by rfl) (by rfl) _
theorem Z0rb : Zdu.toList = [ZTj, ZTQ] := nf
theorem Z0lN : stepA E C B 46 Zdu ZTj (φ, H) = some (fput φ 42 (fget φ 4), H) := nf
theorem Z0pj : stepA E C B 46 Zdu ZTQ (φ, H) = mutX (some 43) φ (C 129 [(fget φ 42)] H (B + 46 * 8)) := nf
def ZnX := kR ZnP
def ZQ7 := kL ZnX
def Z4p := kO ZQ7
def ZLa := opN Z4p 0
def ZI8 := opN Z4p 1
def ZCk := opN Z4p 2
def ZJH := opN Z4p 3
theorem Z0DT : XG 89 46 ZQ7 Z4p [4, 5, 44, 45] := Z7 (by rfl) (by rfl) _
theorem Z0oz : Z4p.toList = [ZLa, ZI8, ZCk, ZJH] := nf
theorem Z0m5 : stepA E C B 46 Z4p ZLa (φ, H) = some (fput φ 44 (fget φ 4), H) := nf
theorem Z0mW : stepA E C B 46 Z4p ZI8 (φ, H) = some (fput φ 45 (fget φ 5), H) := nf
theorem Z0mV : stepA E C B 46 Z4p ZCk (φ, H) = some (fput φ 2 (fget φ 44), H) := nf
theorem Z0nJ : stepA E C B 46 Z4p ZJH (φ, H) = some (fput φ 3 (fget φ 45), H) := nf
def Z0fW := kR ZnX
theorem Z0CP : execA E C (fg 89) B 46 E0 N Z0fW s = some (.ret, s) := Z00 (by rfl) s
theorem Z0EM : XQ 89 46 ZnX ZQ7 Z0fW := Z1 (by rfl) _
theorem Z0ET : XQ 89 46 ZnP ZW3 ZnX := Z1 (by rfl) _
theorem Z0Hs : XQ 89 46 ZAP ZBO ZnP := Z1 (by rfl) _
theorem Z0GX : XQ 89 46 ZBU Z0eb ZAP := Z1 (by rfl) _
theorem Z0Hr : XQ 89 46 ZAM Z0et ZBU := Z1 (by rfl) _
theorem Z0Fb : XQ 89 46 Zot Z0da ZAM := Z1 (by rfl) _
theorem Z0G4 : fInfo E 89 = some ⟨46, #[.tmp 2, .tmp 3], Zot⟩ := nf
theorem b_89 (args : List AV) : bodyA E C fg N 89 args H B = bodyX E [.tmp 2, .tmp 3] (execA E C (fg 89) B 46 H N Zot (Zm args 0 [], H)) := ZV Z0G4 args H
def ZhB := kBody Proofs.Tryd.f131
def ZKy := kL ZhB
def Zs4 := kO ZKy
def ZQW := opN Zs4 0
theorem Z0BE : XG 131 22 ZKy Zs4 [6] := Z7 (by rfl) (by rfl) _
theorem Z0qq : Zs4.toList = [ZQW] := nf
theorem Z0oO : stepA E C B 22 Zs4 ZQW (φ, H) = some (fput φ 6 (.int .i64 0), H) := nf
def ZqJ := kR ZhB
def ZEi := kL ZqJ
def Z07 := kO ZEi
def ZOQ := opN Z07 0
def ZQZ := opN Z07 1
def ZUi := opN Z07 2
def ZWR := opN Z07 3
def ZFD := opN Z07 4
def ZRz := opN Z07 5
def ZSD := opN Z07 6
def ZCO := opN Z07 7
def ZTA := opN Z07 8
def ZNe := opN Z07 9
def ZxG := opN Z07 10
def ZzR := opN Z07 11
def ZA2 := opN Z07 12
def Zym := opN Z07 13
def Zxt := opN Z07 14
def ZzA := opN Z07 15
theorem Z0Br : XD 131 22 ZEi Z07 [0, 1, 2, 3, 7, 8, 9, 10, 11, 12, 13, 14, 15, 16, 17, 18, 19, 20, 21] := Z0L (by rfl) (by rfl) _
theorem Z0mi : Z07.toList = [ZOQ, ZQZ, ZUi, ZWR, ZFD, ZRz, ZSD, ZCO, ZTA, ZNe, ZxG, ZzR, ZA2, Zym, Zxt, ZzA] := nf
theorem Z0fd : statOk Z07 = true := by kernel_rfl
theorem Z0h3 : drawA E C B 22 Z07 s = if neat 22 s = true then drX Z07 (runT E C B 22 Z07 Z07.toList 0 s) else none := Z0w Z0fd s
theorem Z0ft (l : List (Nat × Tr)) : dynOk Z07 l = (!writing l || Zu [[], [0], [], [0, 1, 2], [0, 1, 2, 3], [], [0, 1, 2, 3, 4, 5], [], [7], [], [7, 8, 9], [7, 8, 9, 10], [], [0, 1, 2, 3, 4, 5, 6, 7, 8, 9, 10, 11, 12], [0, 1, 2, 3, 4, 5, 6, 7, 8, 9, 10, 11, 12, 13], [0, 1, 2, 3, 4, 5, 6, 7, 8, 9, 10, 11, 12, 13, 14]] (Zr l)) := Z0g (by kernel_rfl) l
theorem Z0ly : stepT E C B 22 Z07 ZOQ (φ, H) = stpT (some 7) φ H (just (Zb E.T 109 (fget φ 2) 0)) := Z8 rfl (Zg rfl rfl)
theorem Z0qf : stepT E C B 22 Z07 ZQZ (φ, H) = stpT (some 8) φ H (just (aLoad E.T 106 (fget φ 7))) := Z8 rfl (Zg rfl rfl)
theorem Z0nN : stepT E C B 22 Z07 ZUi (φ, H) = some ((fput φ 9 (fget φ 0), H), ⟨false, [], []⟩) := Z8 rfl (Zt rfl rfl)
theorem Z0lV : stepT E C B 22 Z07 ZWR (φ, H) = stpT (some 10) φ H (just (Z6 E.T 106 (fget φ 8) (fget φ 9))) := Z8 rfl (Zg rfl rfl)
theorem Z0lp : stepT E C B 22 Z07 ZFD (φ, H) = stpT (some 11) φ H (just (aLoad E.T 126 (fget φ 10))) := Z8 rfl (Zg rfl rfl)
theorem Z0qP : stepT E C B 22 Z07 ZRz (φ, H) = stpT (some 12) φ H (just (aLoad E.T 3 (fget φ 3))) := Z8 rfl (Zg rfl rfl)
theorem Z0rc : stepT E C B 22 Z07 ZSD (φ, H) = stpT (some 13) φ H (aCall C (fun j => B + j * 22 + 13) true 99 [(fget φ 11), (fget φ 12)]) := Z8 rfl (Zg rfl rfl)
theorem Z0nQ : stepT E C B 22 Z07 ZCO (φ, H) = stpT (some 14) φ H (just (Zb E.T 109 (fget φ 2) 0)) := Z8 rfl (Zg rfl rfl)
theorem Z0lg : stepT E C B 22 Z07 ZTA (φ, H) = stpT (some 15) φ H (just (aLoad E.T 106 (fget φ 14))) := Z8 rfl (Zg rfl rfl)
theorem Z0oh : stepT E C B 22 Z07 ZNe (φ, H) = some ((fput φ 16 (fget φ 1), H), ⟨false, [], []⟩) := Z8 rfl (Zt rfl rfl)
theorem Z0jU : stepT E C B 22 Z07 ZxG (φ, H) = stpT (some 17) φ H (just (Z6 E.T 106 (fget φ 15) (fget φ 16))) := Z8 rfl (Zg rfl rfl)
theorem Z0gF : stepT E C B 22 Z07 ZzR (φ, H) = stpT (some 18) φ H (just (aLoad E.T 126 (fget φ 17))) := Z8 rfl (Zg rfl rfl)
theorem Z0i1 : stepT E C B 22 Z07 ZA2 (φ, H) = stpT (some 19) φ H (just (aLoad E.T 3 (fget φ 3))) := Z8 rfl (Zg rfl rfl)
theorem Z0i4 : stepT E C B 22 Z07 Zym (φ, H) = stpT (some 20) φ H (aCall C (fun j => B + j * 22 + 20) true 99 [(fget φ 18), (fget φ 19)]) := Z8 rfl (Zg rfl rfl)
theorem Z0fe : stepT E C B 22 Z07 Zxt (φ, H) = stpT (some 21) φ H (just (aBin E.T .sub 3 (fget φ 13) (fget φ 20))) := Z8 rfl (Zg rfl rfl)
theorem Z0kU : stepT E C B 22 Z07 ZzA (φ, H) = some ((fput φ 6 (fget φ 21), H), ⟨false, [], []⟩) := Z8 rfl (Zt rfl rfl)
def Z0fs := kR ZqJ
theorem Z0Bp : execA E C (fg 131) B 22 E0 N Z0fs s = some (.ret, s) := Z00 (by rfl) s
theorem Z0B7 : XQ 131 22 ZqJ ZEi Z0fs := Z1 (by rfl) _
theorem Z0Bf : XQ 131 22 ZhB ZKy ZqJ := Z1 (by rfl) _
theorem Z0ko : fInfo E 131 = some ⟨22, #[.tmp 6], ZhB⟩ := nf
theorem Z0Gr (args : List AV) : bodyA E C fg N 131 args H B = bodyX E [.tmp 6] (execA E C (fg 131) B 22 H N ZhB (Zm args 0 [], H)) := ZV Z0ko args H
def Zsp := kBody Proofs.Tryd.f19
def Z0eK := kL Zsp
def Zc0 := kO Z0eK
def ZZn := opN Zc0 0
def Z0bl := opN Zc0 1
def Z03M := opN Zc0 2
theorem Z0Hj : XG 19 22 Z0eK Zc0 [0, 2, 3] := Z7 (by rfl) (by rfl) _
theorem Z0vg : Zc0.toList = [ZZn, Z0bl, Z03M] := nf
theorem Z0x6 : stepA E C B 22 Zc0 ZZn (φ, H) = stp (some 1) φ H (opBox (B + 1) (acells (fget φ 0))) := nf
theorem Z0yP : stepA E C B 22 Zc0 Z0bl (φ, H) = some (fput φ 2 (.int .i64 0), H) := nf
theorem Z0vX : stepA E C B 22 Zc0 Z03M (φ, H) = some (fput φ 3 (.int .i64 0), H) := nf
def ZBx := kR Zsp
def Z0dS := kL ZBx
def Z1R := kO Z0dS
def Z08b := opN Z1R 0
def Z08c := opN Z1R 1
def Z076 := opN Z1R 2
def Z09k := opN Z1R 3
def ZZ0 := opN Z1R 4
def Z08S := opN Z1R 5
def ZZp := opN Z1R 6
def Z0a7 := opN Z1R 7
theorem Z0Go : XG 19 22 Z0dS Z1R [1, 8, 9, 10, 11, 12] := Z7 (by rfl) (by rfl) _
theorem Z0vO : Z1R.toList = [Z08b, Z08c, Z076, Z09k, ZZ0, Z08S, ZZp, Z0a7] := nf
theorem Z0zd : stepA E C B 22 Z1R Z08b (φ, H) = stp (some 9) φ H (just (aLoad E.T 25 (fget φ 1))) := nf
theorem Z0AG : stepA E C B 22 Z1R Z08c (φ, H) = stp (some 10) φ H (aCall C (fun j => B + j * 22 + 10) true 88 [(fget φ 9)]) := nf
theorem Z0uS : stepA E C B 22 Z1R Z076 (φ, H) = some (fput φ 8 (fget φ 10), H) := nf
theorem Z0Ag : stepA E C B 22 Z1R Z09k (φ, H) = stp (some 11) φ H (Zx (fget φ 8) 0) := nf
theorem Z0AW : stepA E C B 22 Z1R ZZ0 (φ, H) = stp (some 12) φ H (Zx (fget φ 8) 1) := nf
theorem Z0t3 : stepA E C B 22 Z1R Z08S (φ, H) = stp (some 4) φ H (opBox (B + 4) (zeroCells E.T 109)) := nf
theorem Z0tr : stepA E C B 22 Z1R ZZp (φ, H) = stp none φ H (opStore E.T 109 (fget φ 4) (fget φ 11)) := nf
theorem Z0sR : stepA E C B 22 Z1R Z0a7 (φ, H) = some (fput φ 5 (fget φ 12), H) := nf
def ZAZ := kR ZBx
def ZAO := kL ZAZ
def Z0eE := kL ZAO
def ZjW := kO Z0eE
def Z0a4 := opN ZjW 0
def Z0b3 := opN ZjW 1
theorem Z0FP : XG 19 22 Z0eE ZjW [13] := Z7 (by rfl) (by rfl) _
theorem Z0wJ : ZjW.toList = [Z0a4, Z0b3] := nf
theorem Z0sz : stepA E C B 22 ZjW Z0a4 (φ, H) = some (fput φ 13 (fget φ 5), H) := nf
theorem Z0y3 : stepA E C B 22 ZjW Z0b3 (φ, H) = stp (some 14) φ H (just (aBin E.T .neq 32 (fget φ 13) (.int .i64 0))) := nf
def ZBu := kR ZAO
def ZBn := kT ZBu
def Z0dT := kL ZBn
def ZbW := kO Z0dT
def Z01r := opN ZbW 0
def Z03D := opN ZbW 1
def Z08k := opN ZbW 2
theorem Z0FE : XG 19 22 Z0dT ZbW [4, 5, 14, 15] := Z7 (by rfl) (by rfl) _
theorem Z0vx : ZbW.toList = [Z01r, Z03D, Z08k] := nf
theorem Z0u7 : stepA E C B 22 ZbW Z01r (φ, H) = some (fput φ 15 (fget φ 5), H) := nf
theorem Z0zP : stepA E C B 22 ZbW Z03D (φ, H) = some (fput φ 2 (.int .i64 0), H) := nf
theorem Z0sQ : stepA E C B 22 ZbW Z08k (φ, H) = some (fput φ 3 (fget φ 15), H) := nf
def Z0kB := kR ZBn
theorem Z0Ch : execA E C (fg 19) B 22 E0 N Z0kB s = some (.ret, s) := Z00 (by rfl) s
theorem Z0Ib : XQ 19 22 ZBn Z0dT Z0kB := Z1 (by rfl) _
def Z0fY := kE ZBu
theorem Z0CY : execA E C (fg 19) B 22 E0 N Z0fY s = some (.normal, s) := ZQ (by rfl) s
theorem Z0Gm : XC 19 22 ZBu 14 ZBn Z0fY := ZF (by rfl) _
theorem Z0Hb : XQ 19 22 ZAO Z0eE ZBu := Z1 (by rfl) _
def Zpl := kR ZAZ
def ZRL := kL Zpl
def Z2i := kO ZRL
def Z0ch := opN Z2i 0
def Z07p := opN Z2i 1
def Z01S := opN Z2i 2
def Z09D := opN Z2i 3
def Z09m := opN Z2i 4
def ZYn := opN Z2i 5
def Z00V := opN Z2i 6
theorem Z0DQ : XG 19 22 ZRL Z2i [4, 5, 6, 14, 16, 17, 18, 19, 20] := Z7 (by rfl) (by rfl) _
theorem Z0Af : Z2i.toList = [Z0ch, Z07p, Z01S, Z09D, Z09m, ZYn, Z00V] := nf
theorem Z0sE : stepA E C B 22 Z2i Z0ch (φ, H) = stp (some 17) φ H (just (aLoad E.T 109 (fget φ 4))) := nf
theorem Z0x1 : stepA E C B 22 Z2i Z07p (φ, H) = stp (some 18) φ H (aCall C (fun j => B + j * 22 + 18) true 89 [(fget φ 17)]) := nf
theorem Z0yN : stepA E C B 22 Z2i Z01S (φ, H) = some (fput φ 16 (fget φ 18), H) := nf
theorem Z0yf : stepA E C B 22 Z2i Z09D (φ, H) = stp (some 19) φ H (Zx (fget φ 16) 0) := nf
theorem Z0wz : stepA E C B 22 Z2i Z09m (φ, H) = stp (some 20) φ H (Zx (fget φ 16) 1) := nf
theorem Z0vU : stepA E C B 22 Z2i ZYn (φ, H) = some (fput φ 6 (fget φ 19), H) := nf
theorem Z0uy : stepA E C B 22 Z2i Z00V (φ, H) = some (fput φ 7 (fget φ 20), H) := nf
def Zsn := kR Zpl
def ZRk := kL Zsn
def ZcE := kO ZRk
def Z06D := opN ZcE 0
def Z02J := opN ZcE 1
def Z0cB := opN ZcE 2
theorem Z0EP : XG 19 22 ZRk ZcE [7, 21] := Z7 (by rfl) (by rfl) _
theorem Z0A8 : ZcE.toList = [Z06D, Z02J, Z0cB] := nf
theorem Z0wZ : stepA E C B 22 ZcE Z06D (φ, H) = some (fput φ 21 (fget φ 7), H) := nf
theorem Z0AS : stepA E C B 22 ZcE Z02J (φ, H) = some (fput φ 2 (fget φ 21), H) := nf
theorem Z0xq : stepA E C B 22 ZcE Z0cB (φ, H) = some (fput φ 3 (.int .i64 0), H) := nf
def Z0kY := kR Zsn
theorem Z0Eh : execA E C (fg 19) B 22 E0 N Z0kY s = some (.ret, s) := Z00 (by rfl) s
theorem Z0B9 : XQ 19 22 Zsn ZRk Z0kY := Z1 (by rfl) _
theorem Z0Ef : XQ 19 22 Zpl ZRL Zsn := Z1 (by rfl) _
theorem Z0Fy : XQ 19 22 ZAZ ZAO Zpl := Z1 (by rfl) _
theorem Z0Ie : XQ 19 22 ZBx Z0dS ZAZ := Z1 (by rfl) _
theorem Z0I6 : XQ 19 22 Zsp Z0eK ZBx := Z1 (by rfl) _
theorem Z0Fr : fInfo E 19 = some ⟨22, #[.tmp 2, .tmp 3], Zsp⟩ := nf
theorem b_19 (args : List AV) : bodyA E C fg N 19 args H B = bodyX E [.tmp 2, .tmp 3] (execA E C (fg 19) B 22 H N Zsp (Zm args 0 [], H)) := ZV Z0Fr args H
def ZmY := kBody Proofs.Tryd.f24
def Z0do := kL ZmY
def ZcA := kO Z0do
def Z0cd := opN ZcA 0
def Z08K := opN ZcA 1
def Z09E := opN ZcA 2
theorem Z0HT : XG 24 36 Z0do ZcA [0, 2, 3] := Z7 (by rfl) (by rfl) _
theorem Z0yC : ZcA.toList = [Z0cd, Z08K, Z09E] := nf
theorem Z0wo : stepA E C B 36 ZcA Z0cd (φ, H) = stp (some 1) φ H (opBox (B + 1) (acells (fget φ 0))) := nf
theorem Z0wM : stepA E C B 36 ZcA Z08K (φ, H) = some (fput φ 2 (.int .i64 0), H) := nf
theorem Z0yT : stepA E C B 36 ZcA Z09E (φ, H) = some (fput φ 3 (.int .i64 0), H) := nf
def ZAY := kR ZmY
def Z0e9 := kL ZAY
def Z1N := kO Z0e9
def Z05s := opN Z1N 0
def ZZW := opN Z1N 1
def Z03G := opN Z1N 2
def ZYj := opN Z1N 3
def Z0bd := opN Z1N 4
def Z06C := opN Z1N 5
def Z0c0 := opN Z1N 6
def Z05F := opN Z1N 7
theorem Z0GB : XG 24 36 Z0e9 Z1N [1, 11, 12, 13, 14, 15] := Z7 (by rfl) (by rfl) _
theorem Z0ts : Z1N.toList = [Z05s, ZZW, Z03G, ZYj, Z0bd, Z06C, Z0c0, Z05F] := nf
theorem Z0xB : stepA E C B 36 Z1N Z05s (φ, H) = stp (some 12) φ H (just (aLoad E.T 25 (fget φ 1))) := nf
theorem Z0z0 : stepA E C B 36 Z1N ZZW (φ, H) = stp (some 13) φ H (aCall C (fun j => B + j * 36 + 13) true 88 [(fget φ 12)]) := nf
theorem Z0uz : stepA E C B 36 Z1N Z03G (φ, H) = some (fput φ 11 (fget φ 13), H) := nf
theorem Z0wn : stepA E C B 36 Z1N ZYj (φ, H) = stp (some 14) φ H (Zx (fget φ 11) 0) := nf
theorem Z0tG : stepA E C B 36 Z1N Z0bd (φ, H) = stp (some 15) φ H (Zx (fget φ 11) 1) := nf
theorem Z0yF : stepA E C B 36 Z1N Z06C (φ, H) = stp (some 4) φ H (opBox (B + 4) (zeroCells E.T 109)) := nf
theorem Z0vG : stepA E C B 36 Z1N Z0c0 (φ, H) = stp none φ H (opStore E.T 109 (fget φ 4) (fget φ 14)) := nf
theorem Z0wy : stepA E C B 36 Z1N Z05F (φ, H) = some (fput φ 5 (fget φ 15), H) := nf
def ZAx := kR ZAY
def ZAK := kL ZAx
def Z0eI := kL ZAK
def Zl2 := kO Z0eI
def Z065 := opN Zl2 0
def Z037 := opN Zl2 1
theorem Z0H3 : XG 24 36 Z0eI Zl2 [16] := Z7 (by rfl) (by rfl) _
theorem Z0xc : Zl2.toList = [Z065, Z037] := nf
theorem Z0tg : stepA E C B 36 Zl2 Z065 (φ, H) = some (fput φ 16 (fget φ 5), H) := nf
theorem Z0AR : stepA E C B 36 Zl2 Z037 (φ, H) = stp (some 17) φ H (just (aBin E.T .neq 32 (fget φ 16) (.int .i64 0))) := nf
def ZB8 := kR ZAK
def ZBa := kT ZB8
def Z0cH := kL ZBa
def ZcB := kO Z0cH
def Z06b := opN ZcB 0
def Z057 := opN ZcB 1
def Z08s := opN ZcB 2
theorem Z0GP : XG 24 36 Z0cH ZcB [4, 5, 17, 18] := Z7 (by rfl) (by rfl) _
theorem Z0zw : ZcB.toList = [Z06b, Z057, Z08s] := nf
theorem Z0As : stepA E C B 36 ZcB Z06b (φ, H) = some (fput φ 18 (fget φ 5), H) := nf
theorem Z0v5 : stepA E C B 36 ZcB Z057 (φ, H) = some (fput φ 2 (.int .i64 0), H) := nf
theorem Z0AY : stepA E C B 36 ZcB Z08s (φ, H) = some (fput φ 3 (fget φ 18), H) := nf
def Z0jz := kR ZBa
theorem Z0ER : execA E C (fg 24) B 36 E0 N Z0jz s = some (.ret, s) := Z00 (by rfl) s
theorem Z0Gs : XQ 24 36 ZBa Z0cH Z0jz := Z1 (by rfl) _
def Z0jC := kE ZB8
theorem Z0BL : execA E C (fg 24) B 36 E0 N Z0jC s = some (.normal, s) := ZQ (by rfl) s
theorem Z0GT : XC 24 36 ZB8 17 ZBa Z0jC := ZF (by rfl) _
theorem Z0Fl : XQ 24 36 ZAK Z0eI ZB8 := Z1 (by rfl) _
def Zsi := kR ZAx
def ZQM := kL Zsi
def Z2d := kO ZQM
def Z03F := opN Z2d 0
def Z092 := opN Z2d 1
def Z02l := opN Z2d 2
def Z0cr := opN Z2d 3
def Z01l := opN Z2d 4
def Z02K := opN Z2d 5
def Z0au := opN Z2d 6
theorem Z0EL : XG 24 36 ZQM Z2d [5, 6, 17, 19, 20, 21, 22, 23] := Z7 (by rfl) (by rfl) _
theorem Z0sD : Z2d.toList = [Z03F, Z092, Z02l, Z0cr, Z01l, Z02K, Z0au] := nf
theorem Z0w5 : stepA E C B 36 Z2d Z03F (φ, H) = stp (some 20) φ H (just (aLoad E.T 109 (fget φ 4))) := nf
theorem Z0u4 : stepA E C B 36 Z2d Z092 (φ, H) = stp (some 21) φ H (aCall C (fun j => B + j * 36 + 21) true 89 [(fget φ 20)]) := nf
theorem Z0sM : stepA E C B 36 Z2d Z02l (φ, H) = some (fput φ 19 (fget φ 21), H) := nf
theorem Z0ur : stepA E C B 36 Z2d Z0cr (φ, H) = stp (some 22) φ H (Zx (fget φ 19) 0) := nf
theorem Z0us : stepA E C B 36 Z2d Z01l (φ, H) = stp (some 23) φ H (Zx (fget φ 19) 1) := nf
theorem Z0tP : stepA E C B 36 Z2d Z02K (φ, H) = some (fput φ 6 (fget φ 22), H) := nf
theorem Z0wG : stepA E C B 36 Z2d Z0au (φ, H) = some (fput φ 7 (fget φ 23), H) := nf
def ZmS := kR Zsi
def ZOE := kL ZmS
def Z1h := kO ZOE
def Z07B := opN Z1h 0
def Z03J := opN Z1h 1
def Z00e := opN Z1h 2
def Z0aE := opN Z1h 3
def Z06G := opN Z1h 4
def Z0b0 := opN Z1h 5
def Z00T := opN Z1h 6
def Z0aR := opN Z1h 7
def Z04e := opN Z1h 8
def Z00L := opN Z1h 9
theorem Z0DX : XG 24 36 ZOE Z1h [7, 8, 9, 24, 25, 26, 27, 28, 29, 30] := Z7 (by rfl) (by rfl) _
theorem Z0xY : Z1h.toList = [Z07B, Z03J, Z00e, Z0aE, Z06G, Z0b0, Z00T, Z0aR, Z04e, Z00L] := nf
theorem Z0wE : stepA E C B 36 Z1h Z07B (φ, H) = stp (some 25) φ H (just (aLoad E.T 109 (fget φ 4))) := nf
theorem Z0wP : stepA E C B 36 Z1h Z03J (φ, H) = some (fput φ 26 (fget φ 7), H) := nf
theorem Z0xi : stepA E C B 36 Z1h Z00e (φ, H) = stp (some 27) φ H (aCall C (fun j => B + j * 36 + 27) true 94 [(fget φ 25), (fget φ 26)]) := nf
theorem Z0zM : stepA E C B 36 Z1h Z0aE (φ, H) = some (fput φ 24 (fget φ 27), H) := nf
theorem Z0zR : stepA E C B 36 Z1h Z06G (φ, H) = stp (some 28) φ H (Zx (fget φ 24) 0) := nf
theorem Z0yY : stepA E C B 36 Z1h Z0b0 (φ, H) = stp (some 29) φ H (Zx (fget φ 24) 1) := nf
theorem Z0u6 : stepA E C B 36 Z1h Z00T (φ, H) = stp (some 30) φ H (Zx (fget φ 24) 2) := nf
theorem Z0yc : stepA E C B 36 Z1h Z0aR (φ, H) = some (fput φ 8 (fget φ 28), H) := nf
theorem Z0z2 : stepA E C B 36 Z1h Z04e (φ, H) = some (fput φ 9 (fget φ 29), H) := nf
theorem Z0xR : stepA E C B 36 Z1h Z00L (φ, H) = some (fput φ 10 (fget φ 30), H) := nf
def Zo7 := kR ZmS
def ZDI := kL Zo7
def Z2g := kO ZDI
def Z041 := opN Z2g 0
def Z07k := opN Z2g 1
def Z09l := opN Z2g 2
def Z0a1 := opN Z2g 3
def Z026 := opN Z2g 4
def Z09r := opN Z2g 5
def Z0aY := opN Z2g 6
theorem Z0E1 : XG 24 36 ZDI Z2g [4, 10, 31, 32, 33, 34, 35] := Z7 (by rfl) (by rfl) _
theorem Z0yh : Z2g.toList = [Z041, Z07k, Z09l, Z0a1, Z026, Z09r, Z0aY] := nf
theorem Z0xp : stepA E C B 36 Z2g Z041 (φ, H) = some (fput φ 31 (fget φ 10), H) := nf
theorem Z0tH : stepA E C B 36 Z2g Z07k (φ, H) = stp (some 32) φ H (just (aLoad E.T 109 (fget φ 4))) := nf
theorem Z0wC : stepA E C B 36 Z2g Z09l (φ, H) = stp (some 33) φ H (aCall C (fun j => B + j * 36 + 33) true 95 [(fget φ 32)]) := nf
theorem Z0vp : stepA E C B 36 Z2g Z0a1 (φ, H) = stp (some 34) φ H (just (Z6 E.T 36 (fget φ 31) (fget φ 33))) := nf
theorem Z0sy : stepA E C B 36 Z2g Z026 (φ, H) = stp (some 35) φ H (just (aLoad E.T 3 (fget φ 34))) := nf
theorem Z0A0 : stepA E C B 36 Z2g Z09r (φ, H) = some (fput φ 2 (fget φ 35), H) := nf
theorem Z0tk : stepA E C B 36 Z2g Z0aY (φ, H) = some (fput φ 3 (.int .i64 0), H) := nf
def Z0l2 := kR Zo7
theorem Z0E5 : execA E C (fg 24) B 36 E0 N Z0l2 s = some (.ret, s) := Z00 (by rfl) s
theorem Z0El : XQ 24 36 Zo7 ZDI Z0l2 := Z1 (by rfl) _
theorem Z0Ep : XQ 24 36 ZmS ZOE Zo7 := Z1 (by rfl) _
theorem Z0C1 : XQ 24 36 Zsi ZQM ZmS := Z1 (by rfl) _
theorem Z0HG : XQ 24 36 ZAx ZAK Zsi := Z1 (by rfl) _
theorem Z0HY : XQ 24 36 ZAY Z0e9 ZAx := Z1 (by rfl) _
theorem Z0HC : XQ 24 36 ZmY Z0do ZAY := Z1 (by rfl) _
theorem Z0GZ : fInfo E 24 = some ⟨36, #[.tmp 2, .tmp 3], ZmY⟩ := nf
theorem b_24 (args : List AV) : bodyA E C fg N 24 args H B = bodyX E [.tmp 2, .tmp 3] (execA E C (fg 24) B 36 H N ZmY (Zm args 0 [], H)) := ZV Z0GZ args H
def ZqK := kBody Proofs.Tryd.f36
def Z0ek := kL ZqK
def Zcv := kO Z0ek
def Z0cm := opN Zcv 0
def ZZr := opN Zcv 1
def Z081 := opN Zcv 2
theorem Z0Gi : XG 36 55 Z0ek Zcv [0, 4, 5] := Z7 (by rfl) (by rfl) _
theorem Z0AB : Zcv.toList = [Z0cm, ZZr, Z081] := nf
theorem Z0yZ : stepA E C B 55 Zcv Z0cm (φ, H) = stp (some 2) φ H (opBox (B + 2) (acells (fget φ 0))) := nf
theorem Z0xG : stepA E C B 55 Zcv ZZr (φ, H) = some (fput φ 4 (.int .i64 0), H) := nf
theorem Z0At : stepA E C B 55 Zcv Z081 (φ, H) = some (fput φ 5 (.int .i64 0), H) := nf
def ZBm := kR ZqK
def Z0eZ := kL ZBm
def Z1Q := kO Z0eZ
def Z063 := opN Z1Q 0
def Z050 := opN Z1Q 1
def Z06i := opN Z1Q 2
def ZYX := opN Z1Q 3
def Z07f := opN Z1Q 4
def Z09Q := opN Z1Q 5
def Z07e := opN Z1Q 6
def Z01h := opN Z1Q 7
theorem Z0FM : XG 36 55 Z0eZ Z1Q [2, 11, 12, 13, 14, 15] := Z7 (by rfl) (by rfl) _
theorem Z0zE : Z1Q.toList = [Z063, Z050, Z06i, ZYX, Z07f, Z09Q, Z07e, Z01h] := nf
theorem Z0tF : stepA E C B 55 Z1Q Z063 (φ, H) = stp (some 12) φ H (just (aLoad E.T 25 (fget φ 2))) := nf
theorem Z0um : stepA E C B 55 Z1Q Z050 (φ, H) = stp (some 13) φ H (aCall C (fun j => B + j * 55 + 13) true 88 [(fget φ 12)]) := nf
theorem Z0su : stepA E C B 55 Z1Q Z06i (φ, H) = some (fput φ 11 (fget φ 13), H) := nf
theorem Z0xb : stepA E C B 55 Z1Q ZYX (φ, H) = stp (some 14) φ H (Zx (fget φ 11) 0) := nf
theorem Z0tc : stepA E C B 55 Z1Q Z07f (φ, H) = stp (some 15) φ H (Zx (fget φ 11) 1) := nf
theorem Z0sP : stepA E C B 55 Z1Q Z09Q (φ, H) = stp (some 6) φ H (opBox (B + 6) (zeroCells E.T 109)) := nf
theorem Z0xE : stepA E C B 55 Z1Q Z07e (φ, H) = stp none φ H (opStore E.T 109 (fget φ 6) (fget φ 14)) := nf
theorem Z0AV : stepA E C B 55 Z1Q Z01h (φ, H) = some (fput φ 7 (fget φ 15), H) := nf
def ZBK := kR ZBm
def Z0dx := kL ZBK
def ZB4 := kB Z0dx
def Z0eY := kL ZB4
def Zc9 := kO Z0eY
def Z03h := opN Zc9 0
def Z02V := opN Zc9 1
def ZZV := opN Zc9 2
theorem Z0Fk : XG 36 55 Z0eY Zc9 [17, 18] := Z7 (by rfl) (by rfl) _
theorem Z0uP : Zc9.toList = [Z03h, Z02V, ZZV] := nf
theorem Z0xo : stepA E C B 55 Zc9 Z03h (φ, H) = some (fput φ 17 (fget φ 7), H) := nf
theorem Z0wa : stepA E C B 55 Zc9 Z02V (φ, H) = stp (some 18) φ H (just (aBin E.T .neq 32 (fget φ 17) (.int .i64 0))) := nf
theorem Z0wU : stepA E C B 55 Zc9 ZZV (φ, H) = some (fput φ 16 (fget φ 18), H) := nf
def ZBM := kR ZB4
def ZBp := kT ZBM
def ZS5 := kL ZBp
def Zc7 := kO ZS5
def Z0a8 := opN Zc7 0
def Z0bM := opN Zc7 1
def Z08a := opN Zc7 2
theorem Z0Bh : XG 36 55 ZS5 Zc7 [1, 6, 7, 16, 19] := Z7 (by rfl) (by rfl) _
theorem Z0uU : Zc7.toList = [Z0a8, Z0bM, Z08a] := nf
theorem Z0tj : stepA E C B 55 Zc7 Z0a8 (φ, H) = some (fput φ 19 (fget φ 7), H) := nf
theorem Z0xx : stepA E C B 55 Zc7 Z0bM (φ, H) = some (fput φ 4 (.int .i64 0), H) := nf
theorem Z0uN : stepA E C B 55 Zc7 Z08a (φ, H) = some (fput φ 5 (fget φ 19), H) := nf
def Z0io := kR ZBp
theorem Z0Da : execA E C (fg 36) B 55 E0 N Z0io s = some (.ret, s) := Z00 (by rfl) s
theorem Z0G8 : XQ 36 55 ZBp ZS5 Z0io := Z1 (by rfl) _
def Zri := kE ZBM
def ZLH := kL Zri
def Z2e := kO ZLH
def Z0a0 := opN Z2e 0
def Z0bI := opN Z2e 1
def Zj4 := opN Z2e 2
def Z04L := opN Z2e 3
def ZY7 := opN Z2e 4
def Z01Z := opN Z2e 5
def Z01o := opN Z2e 6
theorem Z0Bq : XG 36 55 ZLH Z2e [7, 16, 21, 22, 23, 24, 25, 26] := Z7 (by rfl) (by rfl) _
theorem Z0tQ : Z2e.toList = [Z0a0, Z0bI, Zj4, Z04L, ZY7, Z01Z, Z01o] := nf
theorem Z0xK : stepA E C B 55 Z2e Z0a0 (φ, H) = some (fput φ 21 (fget φ 1), H) := nf
theorem Z0y8 : stepA E C B 55 Z2e Z0bI (φ, H) = stp (some 22) φ H (just (aBin E.T .lss 3 (fget φ 21) (.int .i64 0))) := nf
theorem Z0zc : stepA E C B 55 Z2e Zj4 (φ, H) = some (fput φ 23 (fget φ 22), H) := nf
theorem Z0vh : stepA E C B 55 Z2e Z04L (φ, H) = gd φ 23 false (fun φ => some (fput φ 24 (.tup []), H)) (fun φ => some (fput φ 24 (fget φ 1), H)) := s_gd (j := 2) (oj := Zj4) rfl rfl rfl (fun _ => rfl) (fun _ => rfl)
theorem Z0tC : stepA E C B 55 Z2e ZY7 (φ, H) = gd φ 23 false (fun φ => some (fput φ 25 (.tup []), H)) (fun φ => stp (some 25) φ H (just (aBin E.T .gtr 3 (fget φ 24) (.int .i64 54)))) := s_gd (j := 2) (oj := Zj4) rfl rfl rfl (fun _ => rfl) (fun _ => rfl)
theorem Z0x3 : stepA E C B 55 Z2e Z01Z (φ, H) = stp (some 26) φ H (opPick (fget φ 23) (.bool true) (fget φ 25)) := nf
theorem Z0yB : stepA E C B 55 Z2e Z01o (φ, H) = some (fput φ 20 (fget φ 26), H) := nf
def Zph := kR Zri
def ZsD := kT Zph
def ZK7 := kL ZsD
def ZkD := kO ZK7
def Z04q := opN ZkD 0
def Z0bL := opN ZkD 1
theorem Z0BY : XG 36 55 ZK7 ZkD [1, 6, 20] := Z7 (by rfl) (by rfl) _
theorem Z0wf : ZkD.toList = [Z04q, Z0bL] := nf
theorem Z0xn : stepA E C B 55 ZkD Z04q (φ, H) = some (fput φ 4 (.int .i64 0), H) := nf
theorem Z0uO : stepA E C B 55 ZkD Z0bL (φ, H) = some (fput φ 5 (.int .i64 1), H) := nf
def Z0k5 := kR ZsD
theorem Z0CO : execA E C (fg 36) B 55 E0 N Z0k5 s = some (.ret, s) := Z00 (by rfl) s
theorem Z0DV : XQ 36 55 ZsD ZK7 Z0k5 := Z1 (by rfl) _
def Z0it := kE Zph
theorem Z0Ei : execA E C (fg 36) B 55 E0 N Z0it s = some (.normal, s) := ZQ (by rfl) s
theorem Z0DS : XC 36 55 Zph 20 ZsD Z0it := ZF (by rfl) _
theorem Z0BH : XQ 36 55 Zri ZLH Zph := Z1 (by rfl) _
theorem Z0FZ : XC 36 55 ZBM 16 ZBp Zri := ZF (by rfl) _
theorem Z0Ia : XQ 36 55 ZB4 Z0eY ZBM := Z1 (by rfl) _
theorem Z0GD : execA E C (fg 36) B 55 E0 N Z0dx s = blockX 0 (fun s => (forget s.1 [20], s.2)) (execA E C (fg 36) B 55 E0 N ZB4 s) := Zy (by rfl) (by rfl) s
def Zn3 := kR ZBK
def ZGx := kL Zn3
def ZB7 := kO ZGx
def Z0bc := opN ZB7 0
theorem Z0EO : XG 36 55 ZGx ZB7 [] := Z7 (by rfl) (by rfl) _
theorem Z0Ay : ZB7.toList = [Z0bc] := nf
theorem Z0sr : stepA E C B 55 ZB7 Z0bc (φ, H) = some (fput φ 8 (.int .i64 0), H) := nf
def Zru := kR Zn3
def ZpU := kL Zru
def ZIR := kL ZpU
def Z99 := kO ZIR
def Z058 := opN Z99 0
def Z056 := opN Z99 1
def Z038 := opN Z99 2
def Z03U := opN Z99 3
theorem Z0Bs : XG 36 55 ZIR Z99 [27, 28] := Z7 (by rfl) (by rfl) _
theorem Z0yU : Z99.toList = [Z058, Z056, Z038, Z03U] := nf
theorem Z0zI : stepA E C B 55 Z99 Z058 (φ, H) = stp (some 27) φ H (just (aLoad E.T 109 (fget φ 6))) := nf
theorem Z0uD : stepA E C B 55 Z99 Z056 (φ, H) = stp (some 28) φ H (aCall C (fun j => B + j * 55 + 28) true 95 [(fget φ 27)]) := nf
theorem Z0xr : stepA E C B 55 Z99 Z038 (φ, H) = stp (some 29) φ H (just (aBin E.T .add 121 (fget φ 28) (.int .u64 1))) := nf
theorem Z0sN : stepA E C B 55 Z99 Z03U (φ, H) = some (fput φ 30 (.int .u64 0), H) := nf
def ZH9 := kR ZpU
def ZKJ := kB ZH9
def ZcN := kB ZKJ
def ZCp := kL ZcN
def ZC9 := kO ZCp
def Z0c9 := opN ZC9 0
theorem ZbU : XG 36 55 ZCp ZC9 [] := Z7 (by rfl) (by rfl) _
theorem Z71 : ZC9.toList = [Z0c9] := nf
theorem Z92 : stepA E C B 55 ZC9 Z0c9 (φ, H) = stp (some 31) φ H (just (aBin E.T .lss 121 (fget φ 30) (fget φ 29))) := nf
def ZpC := kR ZcN
def Znc := kL ZpC
def Z0iR := kT Znc
theorem ZbN : execA E C (fg 36) B 55 E0 N Z0iR s = some (.normal, s) := ZQ (by rfl) s
def Z0g5 := kE Znc
theorem ZbA : execA E C (fg 36) B 55 E0 N Z0g5 s = some (.exit 1, s) := Z0i (by rfl) s
theorem Zba : XC 36 55 Znc 31 Z0iR Z0g5 := ZF (by rfl) _
def Zoe := kR ZpC
def ZHK := kL Zoe
def ZnW := kB ZHK
def ZQR := kL ZnW
def Zct := kO ZQR
def Z08u := opN Zct 0
def Z03V := opN Zct 1
def Z00d := opN Zct 2
theorem Zeo : XG 36 55 ZQR Zct [31, 32] := Z7 (by rfl) (by rfl) _
theorem ZaY : Zct.toList = [Z08u, Z03V, Z00d] := nf
theorem Zau : stepA E C B 55 Zct Z08u (φ, H) = some (fput φ 32 (fget φ 30), H) := nf
theorem Zay : stepA E C B 55 Zct Z03V (φ, H) = stp (some 9) φ H (opBox (B + 9) (zeroCells E.T 121)) := nf
theorem Zb1 : stepA E C B 55 Zct Z00d (φ, H) = stp none φ H (opStore E.T 121 (fget φ 9) (fget φ 32)) := nf
def Znh := kR ZnW
def ZM0 := kL Znh
def Z0E := kO ZM0
def ZKu := opN Z0E 0
def ZFQ := opN Z0E 1
def ZRR := opN Z0E 2
def ZNV := opN Z0E 3
def ZO5 := opN Z0E 4
def ZVU := opN Z0E 5
def ZWe := opN Z0E 6
def ZOU := opN Z0E 7
def ZWZ := opN Z0E 8
theorem ZdD : XD 36 55 ZM0 Z0E [33, 34, 35, 36, 37, 38, 39, 40] := Z0L (by rfl) (by rfl) _
theorem Z83 : Z0E.toList = [ZKu, ZFQ, ZRR, ZNV, ZO5, ZVU, ZWe, ZOU, ZWZ] := nf
theorem Z0iI : statOk Z0E = true := by kernel_rfl
theorem Z4Q : drawA E C B 55 Z0E s = if neat 55 s = true then drX Z0E (runT E C B 55 Z0E Z0E.toList 0 s) else none := Z0w Z0iI s
theorem Z4T (l : List (Nat × Tr)) : dynOk Z0E l = (!writing l || Zu [[], [0], [], [0, 1, 2], [0, 1, 2, 3], [], [0, 1, 2, 3, 4, 5], [0, 1, 2, 3, 4, 5, 6], [0, 1, 2, 3, 4, 5, 6, 7]] (Zr l)) := Z0g (by kernel_rfl) l
theorem Z7A : stepT E C B 55 Z0E ZKu (φ, H) = stpT (some 33) φ H (just (aLoad E.T 109 (fget φ 6))) := Z8 rfl (Zg rfl rfl)
theorem Z91 : stepT E C B 55 Z0E ZFQ (φ, H) = stpT (some 34) φ H (aCall C (fun j => B + j * 55 + 34) true 95 [(fget φ 33)]) := Z8 rfl (Zg rfl rfl)
theorem Z7Y : stepT E C B 55 Z0E ZRR (φ, H) = stpT (some 35) φ H (just (aLoad E.T 121 (fget φ 9))) := Z8 rfl (Zg rfl rfl)
theorem Z7V : stepT E C B 55 Z0E ZNV (φ, H) = stpT (some 36) φ H (just (aBin E.T .andNot 121 (fget φ 34) (fget φ 35))) := Z8 rfl (Zg rfl rfl)
theorem Z6G : stepT E C B 55 Z0E ZO5 (φ, H) = stpT (some 37) φ H (aCall C (fun j => B + j * 55 + 37) true 97 [(fget φ 36)]) := Z8 rfl (Zg rfl rfl)
theorem Z89 : stepT E C B 55 Z0E ZVU (φ, H) = stpT (some 38) φ H (.pure (.clo 108 [(fget φ 6), (fget φ 9)], [])) := Z8 rfl (Zg rfl rfl)
theorem Z6S : stepT E C B 55 Z0E ZWe (φ, H) = stpT (some 39) φ H (aCall C (fun j => B + j * 55 + 39) true 56 [(fget φ 37), (fget φ 38)]) := Z8 rfl (Zg rfl rfl)
theorem Z6i : stepT E C B 55 Z0E ZOU (φ, H) = stpT (some 40) φ H (justO (aUn .not (fget φ 39))) := Z8 rfl (Zg rfl rfl)
theorem Z7v : stepT E C B 55 Z0E ZWZ (φ, H) = some ((fput φ 10 (fget φ 40), H), ⟨false, [], []⟩) := Z8 rfl (Zt rfl rfl)
def Znu := kR Znh
def ZU3 := kL Znu
def Z1l := kO ZU3
def ZMt := opN Z1l 0
def Z4I := opN Z1l 1
def ZGS := opN Z1l 2
def ZDz := opN Z1l 3
def ZEt := opN Z1l 4
def ZEf := opN Z1l 5
def ZSP := opN Z1l 6
def ZTM := opN Z1l 7
theorem Zdk : XG 36 55 ZU3 Z1l [10, 41, 42, 43, 44, 45, 46, 47] := Z7 (by rfl) (by rfl) _
theorem Z7d : Z1l.toList = [ZMt, Z4I, ZGS, ZDz, ZEt, ZEf, ZSP, ZTM] := nf
theorem Z6y : stepA E C B 55 Z1l ZMt (φ, H) = some (fput φ 41 (fget φ 10), H) := nf
theorem Z5V : stepA E C B 55 Z1l Z4I (φ, H) = some (fput φ 42 (fget φ 41), H) := nf
theorem Z65 : stepA E C B 55 Z1l ZGS (φ, H) = gd φ 42 true (fun φ => some (fput φ 43 (.tup []), H)) (fun φ => stp (some 43) φ H (just (aLoad E.T 109 (fget φ 6)))) := s_gd (j := 1) (oj := Z4I) rfl rfl rfl (fun _ => rfl) (fun _ => rfl)
theorem Z6B : stepA E C B 55 Z1l ZDz (φ, H) = gd φ 42 true (fun φ => some (fput φ 44 (.tup []), H)) (fun φ => stp (some 44) φ H (just (aLoad E.T 121 (fget φ 9)))) := s_gd (j := 1) (oj := Z4I) rfl rfl rfl (fun _ => rfl) (fun _ => rfl)
theorem Z6v : stepA E C B 55 Z1l ZEt (φ, H) = gd φ 42 true (fun φ => some (fput φ 45 (.tup []), H)) (fun φ => stp (some 45) φ H (aCall C (fun j => B + j * 55 + 45) true 100 [(fget φ 43), (fget φ 44)])) := s_gd (j := 1) (oj := Z4I) rfl rfl rfl (fun _ => rfl) (fun _ => rfl)
theorem Z7Q : stepA E C B 55 Z1l ZEf (φ, H) = gd φ 42 true (fun φ => some (fput φ 46 (.tup []), H)) (fun φ => some (fput φ 46 (fget φ 1), H)) := s_gd (j := 1) (oj := Z4I) rfl rfl rfl (fun _ => rfl) (fun _ => rfl)
theorem Z7J : stepA E C B 55 Z1l ZSP (φ, H) = gd φ 42 true (fun φ => some (fput φ 47 (.tup []), H)) (fun φ => stp (some 47) φ H (just (aBin E.T .leq 3 (fget φ 45) (fget φ 46)))) := s_gd (j := 1) (oj := Z4I) rfl rfl rfl (fun _ => rfl) (fun _ => rfl)
theorem Z5X : stepA E C B 55 Z1l ZTM (φ, H) = stp (some 48) φ H (opPick (fget φ 42) (fget φ 47) (.bool false)) := nf
def ZqW := kR Znu
def ZIK := kT ZqW
def Z2Y := kO ZIK
def ZDK := opN Z2Y 0
def ZRS := opN Z2Y 1
def ZSj := opN Z2Y 2
def ZXx := opN Z2Y 3
def ZWL := opN Z2Y 4
theorem Zd7 : XG 36 55 ZIK Z2Y [9, 48, 49, 50, 51, 52] := Z7 (by rfl) (by rfl) _
theorem Z7N : Z2Y.toList = [ZDK, ZRS, ZSj, ZXx, ZWL] := nf
theorem Z7W : stepA E C B 55 Z2Y ZDK (φ, H) = some (fput φ 49 (fget φ 8), H) := nf
theorem Z8I : stepA E C B 55 Z2Y ZRS (φ, H) = stp (some 50) φ H (just (aLoad E.T 121 (fget φ 9))) := nf
theorem Z8R : stepA E C B 55 Z2Y ZSj (φ, H) = stp (some 51) φ H (aCall C (fun j => B + j * 55 + 51) true 109 [(fget φ 50)]) := nf
theorem ZQA : stepA E C B 55 Z2Y ZXx (φ, H) = stp (some 52) φ H (Zf E.T (B + 52) .max #[3, 3] [(fget φ 49), (fget φ 51)]) := nf
theorem ZTE : stepA E C B 55 Z2Y ZWL (φ, H) = some (fput φ 8 (fget φ 52), H) := nf
def Z0js := kE ZqW
theorem Zev : execA E C (fg 36) B 55 E0 N Z0js s = some (.normal, s) := ZQ (by rfl) s
theorem Zd0 : XC 36 55 ZqW 48 ZIK Z0js := ZF (by rfl) _
theorem ZdT : XQ 36 55 Znu ZU3 ZqW := Z1 (by rfl) _
theorem Zen : XQ 36 55 Znh ZM0 Znu := Z1 (by rfl) _
theorem Zdn : XQ 36 55 ZnW ZQR Znh := Z1 (by rfl) _
theorem ZdX : execA E C (fg 36) B 55 E0 N ZHK s = blockX 2 (fun s => (forget s.1 [9, 48], s.2)) (execA E C (fg 36) B 55 E0 N ZnW s) := Zy (by rfl) (by rfl) s
def ZX9 := kR Zoe
def ZdI := kO ZX9
def ZQe := opN ZdI 0
def ZOc := opN ZdI 1
theorem Zet : XG 36 55 ZX9 ZdI [53] := Z7 (by rfl) (by rfl) _
theorem Z6w : ZdI.toList = [ZQe, ZOc] := nf
theorem Z7C : stepA E C B 55 ZdI ZQe (φ, H) = stp (some 53) φ H (just (aBin E.T .add 121 (fget φ 30) (.int .u64 1))) := nf
theorem Z5W : stepA E C B 55 ZdI ZOc (φ, H) = some (fput φ 30 (fget φ 53), H) := nf
theorem Zei : XQ 36 55 Zoe ZHK ZX9 := Z1 (by rfl) _
theorem Zbv : XQ 36 55 ZpC Znc Zoe := Z1 (by rfl) _
theorem ZbC : XQ 36 55 ZcN ZCp ZpC := Z1 (by rfl) _
theorem Z0E7 : execA E C (fg 36) B 55 E0 N ZKJ s = iterA (execA E C (fg 36) B 55 E0 N ZcN) (headA E0) N s := Z0h (by rfl) s
theorem Z0EA : execA E C (fg 36) B 55 E0 N ZH9 s = blockX 1 (fun s => (forget s.1 [1, 6, 29, 30, 31], s.2)) (execA E C (fg 36) B 55 E0 N ZKJ s) := Zy (by rfl) (by rfl) s
theorem Z0CG : XQ 36 55 ZpU ZIR ZH9 := Z1 (by rfl) _
def Znt := kR Zru
def ZKP := kL Znt
def Zaa := kO ZKP
def ZVb := opN Zaa 0
def ZP7 := opN Zaa 1
def ZWC := opN Zaa 2
theorem Z0Be : XG 36 55 ZKP Zaa [8, 54] := Z7 (by rfl) (by rfl) _
theorem Z0ou : Zaa.toList = [ZVb, ZP7, ZWC] := nf
theorem Z0lc : stepA E C B 55 Zaa ZVb (φ, H) = some (fput φ 54 (fget φ 8), H) := nf
theorem Z0r2 : stepA E C B 55 Zaa ZP7 (φ, H) = some (fput φ 4 (fget φ 54), H) := nf
theorem Z0lx : stepA E C B 55 Zaa ZWC (φ, H) = some (fput φ 5 (.int .i64 0), H) := nf
def Z0hM := kR Znt
theorem Z0CH : execA E C (fg 36) B 55 E0 N Z0hM s = some (.ret, s) := Z00 (by rfl) s
theorem Z0Cj : XQ 36 55 Znt ZKP Z0hM := Z1 (by rfl) _
theorem Z0Et : XQ 36 55 Zru ZpU Znt := Z1 (by rfl) _
theorem Z0D9 : XQ 36 55 Zn3 ZGx Zru := Z1 (by rfl) _
theorem Z0GR : XQ 36 55 ZBK Z0dx Zn3 := Z1 (by rfl) _
theorem Z0Gv : XQ 36 55 ZBm Z0eZ ZBK := Z1 (by rfl) _
theorem Z0FN : XQ 36 55 ZqK Z0ek ZBm := Z1 (by rfl) _
theorem Z0Gn : fInfo E 36 = some ⟨55, #[.tmp 4, .tmp 5], ZqK⟩ := nf
theorem b_36 (args : List AV) : bodyA E C fg N 36 args H B = bodyX E [.tmp 4, .tmp 5] (execA E C (fg 36) B 55 H N ZqK (Zm args 0 [], H)) := ZV Z0Gn args H
def Zhn := kBody Proofs.Tryd.f108
def ZQY := kL Zhn
def ZrD := kO ZQY
def ZNd := opN ZrD 0
theorem Z0Ej : XG 108 13 ZQY ZrD [4] := Z7 (by rfl) (by rfl) _
theorem Z0nF : ZrD.toList = [ZNd] := nf
theorem Z0nO : stepA E C B 13 ZrD ZNd (φ, H) = some (fput φ 4 (.bool false), H) := nf
def Zr2 := kR Zhn
def ZHO := kL Zr2
def Z0G := kO ZHO
def ZGb := opN Z0G 0
def ZGz := opN Z0G 1
def ZRB := opN Z0G 2
def ZHj := opN Z0G 3
def ZMF := opN Z0G 4
def ZIG := opN Z0G 5
def ZXw := opN Z0G 6
def ZTy := opN Z0G 7
def ZLc := opN Z0G 8
theorem Z0BB : XD 108 13 ZHO Z0G [0, 1, 2, 5, 6, 7, 8, 9, 10, 11, 12] := Z0L (by rfl) (by rfl) _
theorem Z0nb : Z0G.toList = [ZGb, ZGz, ZRB, ZHj, ZMF, ZIG, ZXw, ZTy, ZLc] := nf
theorem Z0g2 : statOk Z0G = true := by kernel_rfl
theorem Z0jm : drawA E C B 13 Z0G s = if neat 13 s = true then drX Z0G (runT E C B 13 Z0G Z0G.toList 0 s) else none := Z0w Z0g2 s
theorem Z0kO (l : List (Nat × Tr)) : dynOk Z0G l = (!writing l || Zu [[], [0], [], [0, 1, 2], [0, 1, 2, 3], [], [0, 1, 2, 3, 4, 5], [0, 1, 2, 3, 4, 5, 6], [0, 1, 2, 3, 4, 5, 6, 7]] (Zr l)) := Z0g (by kernel_rfl) l
theorem Z0lo : stepT E C B 13 Z0G ZGb (φ, H) = stpT (some 5) φ H (just (Zb E.T 109 (fget φ 1) 1)) := Z8 rfl (Zg rfl rfl)
theorem Z0mg : stepT E C B 13 Z0G ZGz (φ, H) = stpT (some 6) φ H (just (aLoad E.T 107 (fget φ 5))) := Z8 rfl (Zg rfl rfl)
theorem Z0oN : stepT E C B 13 Z0G ZRB (φ, H) = some ((fput φ 7 (fget φ 0), H), ⟨false, [], []⟩) := Z8 rfl (Zt rfl rfl)
theorem Z0p6 : stepT E C B 13 Z0G ZHj (φ, H) = stpT (some 8) φ H (just (Z6 E.T 107 (fget φ 6) (fget φ 7))) := Z8 rfl (Zg rfl rfl)
theorem Z0pT : stepT E C B 13 Z0G ZMF (φ, H) = stpT (some 9) φ H (just (aLoad E.T 121 (fget φ 8))) := Z8 rfl (Zg rfl rfl)
theorem Z0oq : stepT E C B 13 Z0G ZIG (φ, H) = stpT (some 10) φ H (just (aLoad E.T 121 (fget φ 2))) := Z8 rfl (Zg rfl rfl)
theorem Z0ls : stepT E C B 13 Z0G ZXw (φ, H) = stpT (some 11) φ H (just (aBin E.T .and 121 (fget φ 9) (fget φ 10))) := Z8 rfl (Zg rfl rfl)
theorem Z0oe : stepT E C B 13 Z0G ZTy (φ, H) = stpT (some 12) φ H (just (aBin E.T .neq 121 (fget φ 11) (.int .u64 0))) := Z8 rfl (Zg rfl rfl)
theorem Z0qA : stepT E C B 13 Z0G ZLc (φ, H) = some ((fput φ 4 (fget φ 12), H), ⟨false, [], []⟩) := Z8 rfl (Zt rfl rfl)
def Z0jw := kR Zr2
theorem Z0Cr : execA E C (fg 108) B 13 E0 N Z0jw s = some (.ret, s) := Z00 (by rfl) s
theorem Z0Ex : XQ 108 13 Zr2 ZHO Z0jw := Z1 (by rfl) _
theorem Z0Dj : XQ 108 13 Zhn ZQY Zr2 := Z1 (by rfl) _
theorem Z0kz : fInfo E 108 = some ⟨13, #[.tmp 4], Zhn⟩ := nf
theorem Z0G0 (args : List AV) : bodyA E C fg N 108 args H B = bodyX E [.tmp 4] (execA E C (fg 108) B 13 H N Zhn (Zm args 0 [], H)) := ZV Z0kz args H
end Go.AM.YtgfnbmfjbjopkaaDoor
end
noncomputable section
namespace Go.AM.YtgfnbmfjbjopkaaDoor
open Go Go.AM Go.AM.Mule
def cF (ls : List Ld) (i : Nat) (day : Int) : Int := ldC (ls.getD i default) day
theorem Zkn {ls : List Ld} {B : List Nat} {n : Nat} (h : TrOk ls B n) {i : Nat} (hi : i < n) : ∃ l, ls[i]? = some l ∧ LdOk l ∧ ∀ day, cF ls i day = ldC l day := by
 have hl : i < ls.length := by rw [h.l]; exact hi
 refine ⟨ls[i], List.getElem?_eq_getElem hl, h.ld _ (List.getElem_mem hl), fun day => ?_⟩
 simp [cF, hl]
theorem cF_b {ls : List Ld} {B : List Nat} {n : Nat} (h : TrOk ls B n) {i : Nat} (hi : i < n) {day : Int} (hd : 0 ≤ day ∧ day ≤ 1000) : 0 ≤ cF ls i day ∧ cF ls i day ≤ 9020 := by
 obtain ⟨l, _, h2, h3⟩ := Zkn h hi
 rw [h3]; exact Zkh h2 hd
theorem Z0pV {C : Callee} {ls : List Ld} {B : List Nat} {n : Nat} {e1 e2 : Bool} {i k : Nat} {day : Int} (h : TrOk ls B n) (hi : i < n) (hk : k < n) (hd : 0 ≤ day ∧ day ≤ 1000)
   (hc : ∀ (site : Nat → Nat) seen l, LdOk l → aBack site true seen (thaw C 99 [.agg (lc l), .int .i64 day] [] 0) = .pure (.int .i64 (ldC l day), [])) :
   rsOf (bodyA E C fg 1000 131 [.int .i64 (i : Int), .int .i64 (k : Int), .iptr (trA ls B n e1 e2) 0, .iptr [.int .i64 day] 0] [] 0) = some (.int .i64 (cF ls i day - cF ls k day)) := by
 obtain ⟨x, x1, x2, x3⟩ := Zkn h hi
 obtain ⟨y, y1, y2, y3⟩ := Zkn h hk
 have cx := fun site seen => hc site seen x x2
 have cy := fun site seen => hc site seen y y2
 have bx := Zkh x2 hd
 have by' := Zkh y2 hd
 have ax := Z1D ZJ x1
 have ay := Z1D ZJ y1
 have hlen : (cls lc ls).length = n * 5 := by rw [Zv ZJ, h.l]
 have w : wrp .i64 (ldC x day - ldC y day) = ldC x day - ldC y day := Z0q (by omega)
 rw [x3, y3]
 generalize ldC x day = X at *
 generalize ldC y day = Y at *
 simp only [lc] at cx cy ax ay
 simp (disch := omega) only [Bool.not_true, Bool.not_false, Zp, Zc, Za, Z4, Z2, Z3, Z0, Zm, Zj, just, Rd.bind, Rd.run, Rd.opt, upds, tsz, rdCells, fieldOf, Zb, aLoad, resA, resL, Z6, aNum, aBin, aInt, Nat.reduceAdd, Nat.reduceLT, Nat.reduceBEq, Nat.reduceEqDiff, Nat.reduceLeDiff, ↓reduceIte, reduceCtorEq, Nat.zero_add, Nat.add_zero, ZS, ZR, ZX, ZW, ZM, Z02, ZD, ZA, ZP, stpT, Rd.foot, writing, Zr, Tr.empty, Zu, List.isEmpty_nil, List.map_nil, Bool.not_false, Bool.not_true, Bool.or_true, Bool.or_false, Bool.and_self, decide_true, Z5, and_true, true_and, Int.natCast_nonneg, Int.ofNat_lt, Int.toNat_natCast, aCall, snaps, List.append_nil, Option.map_some, List.elem_cons, List.elem_nil, List.getElem?_cons_zero, seqN, bindN, regN, Zw, ZE, Nat.le_refl, beq_self_eq_true, Bool.false_eq_true, T_3, Z0X, ZO, Z1j, beq_self_eq_true, Z0BE, Z0qq, Z0oO, Z0Br, Z0mi, Z0h3, Z0ft, Z0ly, Z0qf, Z0nN, Z0lV, Z0lp, Z0qP, Z0rc, Z0nQ, Z0lg, Z0oh, Z0jU, Z0gF, Z0i1, Z0i4, Z0fe, Z0kU, Z0Bp, Z0B7, Z0Bf, Z0Gr, ax, ay, hlen, cx, cy, w, if_pos]
theorem Z0rk {d : Nat} {ls : List Ld} {B : List Nat} {n : Nat} {e1 e2 : Bool} {day : Int} {l : List Nat} (h : TrOk ls B n) (hl : ∀ i ∈ l, i < n) (hd : 0 ≤ day ∧ day ≤ 1000) :
   Cmp (callA E fg 1000 (d + 2)) (.clo 131 [.iptr (trA ls B n e1 e2) 0, .iptr [.int .i64 day] 0]) l (fun i => cF ls i day) := by
 refine ⟨fun _ => rfl, fun site i k hi hk => ?_, rfl⟩
 have := Z0J (site := site) (seen := []) (Z0O (Z0pV (C := callA E fg 1000 (d + 1)) (e1 := e1) (e2 := e2) h (hl i hi) (hl k hk) hd (fun site seen l hl => Zcn (d := d) hl hd)))
 simp only [opCallV, Z0ko, aCall, List.cons_append, List.nil_append, List.append_nil, snaps, snap, Rd.bind]
 exact this
def pkS (ls : List Ld) (B : List Nat) (s : Nat) : Nat := pick (fun i => cF ls i (daysS ls s)) (lsL B s)
def nxS (ls : List Ld) (B : List Nat) (s : Nat) : Nat := s &&& (63 - 1 <<< pkS ls B s)
def rS (ls : List Ld) (B : List Nat) (n : Nat) : Nat → Nat
 | 0 => 2 ^ n - 1
 | k + 1 => nxS ls B (rS ls B n k)
def rO (ls : List Ld) (B : List Nat) (n : Nat) : Nat → List Nat
 | 0 => []
 | k + 1 => rO ls B n k ++ [pkS ls B (rS ls B n k)]
def mxv (x y : Int) : Int := if y > x then y else x
def rC (ls : List Ld) (B : List Nat) (n : Nat) : Nat → Int
 | 0 => 0
 | k + 1 => mxv (rC ls B n k) (cF ls (pkS ls B (rS ls B n k)) (daysS ls (rS ls B n k)))
theorem ZhA (ls B n) : ∀ k, (rO ls B n k).length = k
 | 0 => rfl
 | k + 1 => by simp [rO, ZhA ls B n k]
theorem Zdq {B : List Nat} {s i : Nat} (h : i ∈ lsL B s) : i ∈ lst s := (List.mem_filter.1 h).1
theorem Z0s1 {B : List Nat} (hT : Ord (bit B)) {s : Nat} (hs : s < 64) (h0 : s ≠ 0) : lsL B s ≠ [] := by
 obtain ⟨i, hi⟩ := ZWY hT (S := lst s) (fun e => h0 ((Ziz s hs).1 e))
 intro e
 rw [lsL] at e
 rw [e] at hi
 simp at hi
theorem Z0kA {ls : List Ld} {B : List Nat} (hT : Ord (bit B)) {s : Nat} (hs : s < 64) (h0 : s ≠ 0) : pkS ls B s ∈ lsL B s := (ZhM _ (Z0s1 hT hs h0)).1
theorem ZQl {a b n : Nat} (h : a < 2 ^ n) : a &&& b < 2 ^ n := Nat.lt_of_le_of_lt Nat.and_le_left h
abbrev ruS (ls : List Ld) (B : List Nat) (n : Nat) (e1 e2 : Bool) (s : Nat) (c : Int) (o : List Nat) : St :=
 ([(6, .int .u64 (s : Int)), (5, .int .i64 c), (4, oV 37 1 o.length), (1, .ptr 1 0 2)], (1, ⟨.box, trA ls B n e1 e2⟩) :: oH 37 (ins o))
theorem ZBc {n : Nat} (h : n ≤ 1000000) : roomOk E.T 3 n = true := by
 simp only [roomOk, T_3, decide_eq_true_eq]; exact ⟨by decide, rfl, by omega⟩
theorem Z0GN {d : Nat} {ls : List Ld} {B : List Nat} {n : Nat} {e1 e2 : Bool} (h : TrOk ls B n) (hT : Ord (bit B)) {s : Nat} (hs : s < 2 ^ n) (h0 : s ≠ 0) (c : Int) (o : List Nat) (ho : o.length ≤ 6) :
   ∃ s', execA E (callA E fg 1000 (d + 5)) (fg 89) 0 46 [] 1000 Zdw (ruS ls B n e1 e2 s c o) = some (.normal, s') ∧
     headA [] s' = ruS ls B n e1 e2 (nxS ls B s) (mxv c (cF ls (pkS ls B s) (daysS ls s))) (o ++ [pkS ls B s]) := by
 have h64 := lt64 h.le hs
 have hd := Zw5 h hs
 have hdays := fun (site : Nat → Nat) seen => Zhq (d := d) (site := site) (seen := seen) (e1 := e1) (e2 := e2) h hs
 have hlasts := fun (site : Nat → Nat) seen => Zr3 (d := d) (site := site) (seen := seen) (e1 := e1) (e2 := e2) h hs h0
 have hne := Z0s1 hT h64 h0
 have hln : ∀ i ∈ lsL B s, i < n := fun i hi => Z4S h.le hs i (Zdq hi)
 obtain ⟨x, r, e1', e2'⟩ := Z0lD (fun i => cF ls i (daysS ls s)) hne
 have hmf := fun (site : Nat → Nat) seen => Z0yL (site := site) (seen := seen) (ex := false) (Z0rk (d := d + 2) (e1 := e1) (e2 := e2) (l := x :: r) h (fun i hi => hln i (by rw [← List.mem_reverse, e1']; exact hi)) (show 0 ≤ daysS ls s ∧ daysS ls s ≤ 1000 by omega)) (by
   have := congrArg List.length e1'
   have := ZqA B s
   have := Z2m s
   simp only [List.length_reverse, List.length_cons] at *; omega)
 rw [e2', ← e1'] at hmf
 have hrl : (lsL B s).reverse.length = (lsL B s).length := List.length_reverse
 have hpk := Z0kA (ls := ls) hT h64 h0
 obtain ⟨y, y1, y2, y3⟩ := Zkn h (hln _ hpk)
 have hcost := fun (site : Nat → Nat) seen => Zcn (d := d + 4) (site := site) (seen := seen) y2 (show 0 ≤ daysS ls s ∧ daysS ls s ≤ 1000 by omega)
 have hp6 : pkS ls B s < 6 := Nat.lt_of_lt_of_le (hln _ hpk) h.le
 have hpn := hln _ hpk
 have ay := Z1D ZJ y1
 have hlen : (cls lc ls).length = n * 5 := by rw [Zv ZJ, h.l]
 rw [show nxS ls B s = s &&& (63 - 1 <<< pkS ls B s) from rfl, y3]
 have hle := ZqA B s
 have hl6 := Z2m s
 have hcl := Z9l B s
 have hrev : ∀ (H : AHeap), hset H 19 ⟨.row, lsCells B s⟩ = H → (hget H 19).isSome = true → ascH 0 H = true → callA E fg 1000 (d + 5) 129 [.ref 19 0 (lsL B s).length (lst s).length (lst s).length 1 false] H 368 = some (.tup [], hset H 19 ⟨.row, ins (lsL B s).reverse ++ ins (List.replicate ((lst s).length - (lsL B s).length) 0)⟩) := by
   intro H a1 a2 a3
   exact Z06S (C := callA E fg 1000 (d + 4)) (B := 368) (l := lsL B s) (z := ins (List.replicate ((lst s).length - (lsL B s).length) 0)) (by rw [← ZsP]; exact a1) a2 a3 (by rw [Zn, List.length_replicate]; omega) (by omega)
 have hpke : pick (fun i => cF ls i (daysS ls s)) (lsL B s) = pkS ls B s := rfl
 rw [hpke] at hmf
 have htk : List.take (lsL B s).length (ins (lsL B s).reverse ++ ins (List.replicate ((lst s).length - (lsL B s).length) 0)) = ins (lsL B s).reverse := by
   rw [List.take_left' (by rw [Zn, hrl])]
 have hcl2 : (ins (lsL B s).reverse ++ ins (List.replicate ((lst s).length - (lsL B s).length) 0)).length = (lst s).length := by
   rw [List.length_append, Zn, Zn, hrl, List.length_replicate]; omega
 rw [hrl] at hmf
 have hn64 : 1 <<< pkS ls B s < 64 := by
   have : pkS ls B s = 0 ∨ pkS ls B s = 1 ∨ pkS ls B s = 2 ∨ pkS ls B s = 3 ∨ pkS ls B s = 4 ∨ pkS ls B s = 5 := by omega
   rcases this with e | e | e | e | e | e <;> rw [e] <;> decide
 have hshl := Zic (i := pkS ls B s) (by omega)
 have hand := Z9K h64 hn64
 generalize callA E fg 1000 (d + 5) = C at *
 generalize pkS ls B s = p at *
 generalize (lsL B s).length = m at *
 generalize (lst s).length = q at *
 generalize daysS ls s = day at *
 generalize lsCells B s = cs at *
 generalize ins (lsL B s).reverse ++ ins (List.replicate (q - m) 0) = cs2 at *
 generalize ldC y day = cy at *
 simp only [lc] at ay hcost
 have hp : (p : Int) < n := by omega
 have hmx : (if cy > c then cy else c) = mxv c cy := rfl
 generalize mxv c cy = c2 at *
 have hin := Zn o
 have hm : ∀ args caps, mutV E (.clo 129 caps) args = some (129, args ++ caps) := fun _ _ => rfl
 have hsu : (s : Int) ≠ 0 := by omega
 cases o with
 | nil =>
   have hrev1 := hrev [(1, ⟨.box, trA ls B n e1 e2⟩), (7, ⟨.box, [.int .i64 day]⟩), (19, ⟨.row, cs⟩)] rfl rfl rfl
   simp only [ruS, oV, oH, List.length_nil, ins, List.map_nil, List.map_cons, List.nil_append, List.length_singleton]
   simp (disch := omega) only [Z9, Zh, Bool.not_true, Bool.not_false, Zc, Za, Z4, Z2, Z3, Z0, Zk, Zd, Zq, Zi, Zj, stp, opBox, justO, just, Rd.bind, Rd.run, Rd.opt, upds, acells, zeroCells, tsz, elemT, rdCells, fieldOf, Zb, aLoad, aStore, opStore, fresh, Z6, aNum, Zf, aMax, aBin, aInt, putC, evO, Nat.reduceAdd, Nat.reduceMul, Nat.reduceLT, Nat.reduceBEq, Nat.reduceEqDiff, Nat.reduceLeDiff, ↓reduceIte, reduceCtorEq, Ze, Nat.zero_add, Nat.add_zero, bne_iff_ne, ne_eq, List.nil_append, List.getElem?_toArray, ZS, ZR, ZX, ZW, ZM, Z02, ZD, ZA, ZP, ZL, stpT, Rd.foot, writing, Zr, Tr.empty, Zu, apartT, disj, List.isEmpty_nil, List.isEmpty_cons, List.map_nil, Bool.not_false, Bool.not_true, Bool.true_or, Bool.or_true, Bool.or_false, Bool.and_true, Bool.true_and, Bool.and_self, decide_true, not_true_eq_false, not_false_eq_true, or_self, ZZ, Z0Q, fo6, fo5, partsOf, fillA, repC, Z0I, aAppend, srcOf, window, Z5, Zl, and_true, Int.natCast_nonneg, Int.toNat_natCast, mutX, aCall, snaps, List.append_nil, List.elem_cons, List.elem_nil, List.length_cons, List.length_nil, List.getElem?_cons_zero, List.getElem?_cons_succ, List.drop_zero, List.take_succ_cons, List.take_nil, List.set_cons_zero, Zs, seqN, bindN, regN, Zw, Z0a, ZH, Z0l, ZE, Z2c, List.all_cons, List.all_nil, Z0Z, List.cons_append, Nat.le_refl, Nat.mul_one, Nat.zero_mul, List.not_mem_nil, beq_self_eq_true, Nat.lt_irrefl, Bool.false_eq_true, Bool.false_and, T_3, T_36, Z0X, ZO, Z1j, List.all_cons, List.all_nil, List.getD_cons_zero, List.getD_cons_succ, beq_self_eq_true, ZDa, ZtV, ZvQ, Zw9, ZVV, ZMc, ZR5, ZGq, Z0fa, Z06h, Z05I, ZYd, Z049, Z07P, Z0ck, Z0jQ, ZZZ, Z08n, Z02T, Z0aa, Z01m, Z0l4, Z09H, Z0aQ, Z02D, Z0fJ, Z07S, Z0br, ZZu, Z053, Z00h, Z0i3, Z03Z, ZIo, ZEn, Z0bZ, Z07A, Z0ak, ZY6, Z09M, Z068, Z013, Z03i, Z07O, Z08F, Z0gS, ZLw, ZG2, ZN3, ZCQ, ZCW, ZLV, Z0gz, ZMT, ZJS, ZS2, ZN7, ZHL, ZDW, Z0gf, Z0gs, Z0gP, Z0jo, Z0ic, Z0hJ, Z0kZ, ZD0, hsu, hdays, hlasts, hrev1, htk, hcl2, hmf, ay, hlen, hp, hcost, hmx, hshl, hand, if_pos, ZBc (show 1 ≤ 1000000 by omega)]
   exact ⟨_, rfl, rfl⟩
 | cons a o => 
   have hl1 : (a :: o).length = o.length + 1 := rfl
   have hl2 : ((a :: o) ++ [p]).length = o.length + 1 + 1 := by simp
   have hsn := Z0oy (a :: o) p
   have htk2 : List.take (o.length + 1) (ins (a :: o)) = ins (a :: o) := Zh4 (a :: o)
   have hc1 : oH 37 (ins (a :: o)) = [(37, ⟨.row, ins (a :: o)⟩)] := rfl
   have hc2 : oH 37 (ins ((a :: o) ++ [p])) = [(37, ⟨.row, ins ((a :: o) ++ [p])⟩)] := rfl
   rw [hl1] at hin
   have hno : ¬ o.length + 1 + 1 ≤ o.length + 1 := by omega
   have hrev1 := hrev [(1, ⟨.box, trA ls B n e1 e2⟩), (7, ⟨.box, [.int .i64 day]⟩), (19, ⟨.row, cs⟩), (37, ⟨.row, ins (a :: o)⟩)] rfl rfl rfl
   simp only [ruS, hl1, hl2, hc1, hc2, oV]
   generalize ins (a :: o ++ [p]) = oc2 at *
   generalize ins (a :: o) = oc at *
   simp (disch := omega) only [Z9, Zh, Bool.not_true, Bool.not_false, Zc, Za, Z4, Z2, Z3, Z0, Zk, Zd, Zi, Zj, stp, opBox, justO, just, Rd.bind, Rd.run, Rd.opt, upds, acells, zeroCells, tsz, elemT, rdCells, fieldOf, Zb, aLoad, aStore, opStore, fresh, Z6, aNum, Zf, aMax, aBin, aInt, putC, evO, Nat.reduceAdd, Nat.reduceMul, Nat.reduceLT, Nat.reduceBEq, Nat.reduceEqDiff, Nat.reduceLeDiff, ↓reduceIte, reduceCtorEq, Ze, Nat.zero_add, Nat.add_zero, bne_iff_ne, ne_eq, List.nil_append, List.getElem?_toArray, ZS, ZR, ZX, ZW, ZM, Z02, ZD, ZA, ZP, ZL, stpT, Rd.foot, writing, Zr, Tr.empty, Zu, apartT, disj, List.isEmpty_nil, List.isEmpty_cons, List.map_nil, Bool.not_false, Bool.not_true, Bool.true_or, Bool.or_true, Bool.or_false, Bool.and_true, Bool.true_and, Bool.and_self, decide_true, not_true_eq_false, not_false_eq_true, or_self, ZZ, Z0Q, fo6, fo5, partsOf, fillA, repC, Z0I, aAppend, srcOf, window, Z5, Zl, and_true, Int.natCast_nonneg, Int.toNat_natCast, mutX, aCall, snaps, List.append_nil, List.elem_cons, List.elem_nil, List.length_cons, List.length_nil, List.getElem?_cons_zero, List.getElem?_cons_succ, List.drop_zero, List.take_succ_cons, List.take_nil, List.set_cons_zero, Zs, seqN, bindN, regN, Zw, Z0a, ZH, Z0l, ZE, Z2c, List.all_cons, List.all_nil, Z0Z, List.cons_append, Nat.le_refl, Nat.mul_one, Nat.zero_mul, List.not_mem_nil, beq_self_eq_true, Nat.lt_irrefl, Bool.false_eq_true, Bool.false_and, T_3, T_36, Z0X, ZO, Z1j, List.all_cons, List.all_nil, List.getD_cons_zero, List.getD_cons_succ, beq_self_eq_true, ZDa, ZtV, ZvQ, Zw9, ZVV, ZMc, ZR5, ZGq, Z0fa, Z06h, Z05I, ZYd, Z049, Z07P, Z0ck, Z0jQ, ZZZ, Z08n, Z02T, Z0aa, Z01m, Z0l4, Z09H, Z0aQ, Z02D, Z0fJ, Z07S, Z0br, ZZu, Z053, Z00h, Z0i3, Z03Z, ZIo, ZEn, Z0bZ, Z07A, Z0ak, ZY6, Z09M, Z068, Z013, Z03i, Z07O, Z08F, Z0gS, ZLw, ZG2, ZN3, ZCQ, ZCW, ZLV, Z0gz, ZMT, ZJS, ZS2, ZN7, ZHL, ZDW, Z0gf, Z0gs, Z0gP, Z0jo, Z0ic, Z0hJ, Z0kZ, ZD0, hsu, hdays, hlasts, hrev1, htk, hcl2, hmf, ay, hlen, hp, hcost, hmx, hshl, hand, hin, hno, hsn, htk2, if_pos, ZBc (show o.length + 1 + 1 ≤ 1000000 by omega)]
   exact ⟨_, rfl, rfl⟩
theorem Zip (ls B n) : ∀ k, rS ls B n k < 2 ^ n
 | 0 => by have := Nat.two_pow_pos n; simp only [rS]; omega
 | k + 1 => ZQl (Zip ls B n k)
theorem Ztv {ls : List Ld} {B : List Nat} {n : Nat} (h : TrOk ls B n) (hT : Ord (bit B)) (k : Nat) (h0 : rS ls B n k ≠ 0) : lst (rS ls B n (k + 1)) = (lst (rS ls B n k)).erase (pkS ls B (rS ls B n k)) ∧ pkS ls B (rS ls B n k) ∈ lst (rS ls B n k) := by
 have h64 := lt64 h.le (Zip ls B n k)
 have hm := Zdq (Z0kA (ls := ls) hT h64 h0)
 exact ⟨Za7 _ h64 _ (ZGV hm), hm⟩
theorem ZsC {ls : List Ld} {B : List Nat} {n : Nat} (h : TrOk ls B n) (hT : Ord (bit B)) : ∀ k, k ≤ n → (lst (rS ls B n k)).length = n - k
 | 0, _ => by simp only [rS]; rw [Z62 n h.le, List.length_range]; omega
 | k + 1, hk => by
   have ih := ZsC h hT k (by omega)
   have h0 : rS ls B n k ≠ 0 := by
     intro e
     rw [e] at ih
     have : (lst 0).length = 0 := rfl
     omega
   obtain ⟨e, hm⟩ := Ztv h hT k h0
   rw [e, List.length_erase_of_mem hm, ih]
   omega
theorem Z0eB {ls : List Ld} {B : List Nat} {n : Nat} (h : TrOk ls B n) (hT : Ord (bit B)) {k : Nat} (hk : k < n) : rS ls B n k ≠ 0 := by
 have := ZsC h hT k (by omega)
 intro e
 rw [e] at this
 have : (lst 0).length = 0 := rfl
 omega
theorem Z0Bc {ls : List Ld} {B : List Nat} {n : Nat} (h : TrOk ls B n) (hT : Ord (bit B)) : rS ls B n n = 0 := by
 have := ZsC h hT n (Nat.le_refl _)
 exact (Ziz _ (lt64 h.le (Zip ls B n n))).1 (List.length_eq_zero_iff.1 (by omega))
theorem ZZR {ls : List Ld} {B : List Nat} {n : Nat} (h : TrOk ls B n) (hT : Ord (bit B)) : ∀ m k, m + k = n → (rO ls B n n).reverse = ruleL (bit B) (hiF ls) (cF ls) m (lst (rS ls B n k)) ++ (rO ls B n k).reverse
 | 0, k, e => by
   obtain rfl : k = n := by omega
   simp [ruleL]
 | m + 1, k, e => by
   have h0 := Z0eB h hT (show k < n by omega)
   obtain ⟨h1, h2⟩ := Ztv h hT k h0
   rw [ZZR h hT m (k + 1) (by omega), h1]
   have e2 : (rO ls B n (k + 1)).reverse = pkS ls B (rS ls B n k) :: (rO ls B n k).reverse := by simp [rO]
   rw [e2]
   have e3 : ruleL (bit B) (hiF ls) (cF ls) (m + 1) (lst (rS ls B n k)) = ruleL (bit B) (hiF ls) (cF ls) m ((lst (rS ls B n k)).erase (pkS ls B (rS ls B n k))) ++ [pkS ls B (rS ls B n k)] := by
     cases hl : lst (rS ls B n k) with
     | nil => rw [hl] at h2; simp at h2
     | cons x r =>
       simp only [ruleL]
       have : pkS ls B (rS ls B n k) = pick (fun i => cF ls i (days (hiF ls) (x :: r))) (lastsL (bit B) (x :: r)) := by rw [← hl]; rfl
       rw [this]
   rw [e3, List.append_assoc]
   rfl
def ruO (ls : List Ld) (B : List Nat) (n : Nat) : List Nat := ruleL (bit B) (hiF ls) (cF ls) n (List.range n)
theorem ZVB {ls : List Ld} {B : List Nat} {n : Nat} (h : TrOk ls B n) (hT : Ord (bit B)) : (rO ls B n n).reverse = ruO ls B n := by
 have := ZZR h hT n 0 (by omega)
 rw [this]
 simp only [rS, rO, List.reverse_nil, List.append_nil, ruO]
 rw [Z62 n h.le]
theorem Z04b (x y : Int) : mxv x y = max x y := by unfold mxv; split <;> omega
theorem Z0rR {ls : List Ld} {B : List Nat} {n : Nat} (h : TrOk ls B n) (hT : Ord (bit B)) : ∀ m k, m + k = n → rC ls B n n = max (rC ls B n k) (mc (hiF ls) (cF ls) 0 (ruleL (bit B) (hiF ls) (cF ls) m (lst (rS ls B n k))))
 | 0, k, e => by
   obtain rfl : k = n := by omega
   simp only [ruleL, mc]
   have key : ∀ j, 0 ≤ rC ls B k j := by
     intro j
     induction j with
     | zero => exact Int.le_refl _
     | succ j ih => simp only [rC, Z04b]; omega
   have := key k
   omega
 | m + 1, k, e => by
   have h0 := Z0eB h hT (show k < n by omega)
   obtain ⟨h1, h2⟩ := Ztv h hT k h0
   rw [Z0rR h hT m (k + 1) (by omega), h1]
   have e3 : ruleL (bit B) (hiF ls) (cF ls) (m + 1) (lst (rS ls B n k)) = ruleL (bit B) (hiF ls) (cF ls) m ((lst (rS ls B n k)).erase (pkS ls B (rS ls B n k))) ++ [pkS ls B (rS ls B n k)] := by
     cases hl : lst (rS ls B n k) with
     | nil => rw [hl] at h2; simp at h2
     | cons x r =>
       simp only [ruleL]
       have : pkS ls B (rS ls B n k) = pick (fun i => cF ls i (days (hiF ls) (x :: r))) (lastsL (bit B) (x :: r)) := by rw [← hl]; rfl
       rw [this]
   have hperm := (Zap hT (d := hiF ls) (c := cF ls) m ((lst (rS ls B n k)).erase (pkS ls B (rS ls B n k))) ((Z0j6 _).erase _) (by
     rw [List.length_erase_of_mem h2, ZsC h hT k (by omega)]; omega)).1
   rw [e3, ZpD _ _ _ _ _ (fun now o => Z2N now o)]
   have hday : 0 + days (hiF ls) (ruleL (bit B) (hiF ls) (cF ls) m ((lst (rS ls B n k)).erase (pkS ls B (rS ls B n k)))) + hiF ls (pkS ls B (rS ls B n k)) = daysS ls (rS ls B n k) := by
     rw [Z9A hperm, daysS, Z9A (List.perm_cons_erase h2)]
     simp only [days]; omega
   simp only [mc, rC, Z04b, hday]
   have : 0 ≤ cF ls (pkS ls B (rS ls B n k)) (daysS ls (rS ls B n k)) := (cF_b h (Z4S h.le (Zip ls B n k) _ h2) (by have := Zw5 h (Zip ls B n k); omega)).1
   omega
def ruC (ls : List Ld) (B : List Nat) (n : Nat) : Int := mc (hiF ls) (cF ls) 0 (ruO ls B n)
theorem Z0EW {ls : List Ld} {B : List Nat} {n : Nat} (h : TrOk ls B n) (hT : Ord (bit B)) : rC ls B n n = ruC ls B n := by
 have := Z0rR h hT n 0 (by omega)
 rw [this]
 simp only [rS, rC, ruC, ruO]
 rw [Z62 n h.le]
 have := Z2N (d := hiF ls) (c := cF ls) 0 (ruleL (bit B) (hiF ls) (cF ls) n (List.range n))
 omega
theorem Z0nT {d : Nat} {ls : List Ld} {B : List Nat} {n : Nat} {e1 e2 : Bool} (h : TrOk ls B n) (hT : Ord (bit B)) :
   ∃ H', bodyA E (callA E fg 1000 (d + 5)) fg 1000 89 [.agg (trA ls B n e1 e2)] [] 0 = some (.tup [.ref 37 0 n n n 1 false, .int .i64 (ruC ls B n)], H') ∧ hget H' 37 = some ⟨.row, ins (ruO ls B n)⟩ := by
 have hall := fun (site : Nat → Nat) seen => Z8n (d := d + 4) (site := site) (seen := seen) (ls := ls) (B := B) (e1 := e1) (e2 := e2) h.le
 have hle := h.le
 have hne := h.ne
 have ruC' := Z0EW h hT
 have ruO' := ZVB h hT
 have hol := ZhA ls B n n
 have hgo := fun k (hk : k < n) => Z0GN (d := d) (e1 := e1) (e2 := e2) h hT (Zip ls B n k) (Z0eB h hT hk) (rC ls B n k) (rO ls B n k) (by rw [ZhA]; omega)
 have hrev := Z06S (C := callA E fg 1000 (d + 4)) (B := 368) (H := [(1, ⟨.box, trA ls B n e1 e2⟩), (37, ⟨.row, ins (rO ls B n n)⟩)]) (k := 37) (c := n) (l := rO ls B n n) (z := []) (by rw [List.append_nil]; rfl) rfl rfl (by rw [hol]; rfl) (by omega)
 rw [ruO', hol, List.append_nil] at hrev
 have hrev' : callA E fg 1000 (d + 5) 129 [.ref 37 0 n n n 1 false] [(1, ⟨.box, trA ls B n e1 e2⟩), (37, ⟨.row, ins (rO ls B n n)⟩)] 368 = _ := hrev
 have hlen : (ins (ruO ls B n)).length = n := by rw [Zn, ← ruO', List.length_reverse, hol]
 generalize callA E fg 1000 (d + 5) = C at *
 have hloop := loopN (f := (execA E C (fg 89) 0 46 [] 1000 Zdw)) (fun k => ruS ls B n e1 e2 (rS ls B n k) (rC ls B n k) (rO ls B n k)) n
   hgo rfl (by omega)
   (e := .exit 0) (se := ([(13, .bool false), (6, .int .u64 0), (5, .int .i64 (ruC ls B n)), (4, .ref 37 0 n n n 1 false), (1, .ptr 1 0 2)], [(1, ⟨.box, trA ls B n e1 e2⟩), (37, ⟨.row, ins (rO ls B n n)⟩)]))
   (by
     simp only [Z0Bc h hT, ruC']
     generalize rO ls B n n = o at *
     cases o with
     | nil => simp at hol; omega
     | cons a o =>
       have e1 : oV 37 1 (a :: o).length = .ref 37 0 n n n 1 false := by rw [← hol]; simp only [oV, List.length_cons, Nat.mul_one]
       have e2 : oH 37 (ins (a :: o)) = [(37, ⟨.row, ins (a :: o)⟩)] := rfl
       have z0 : ((0 : Nat) : Int) = 0 := rfl
       simp only [ruS, e1, e2, z0]
       simp (disch := omega) only [ZG, Z9, Zc, Za, Z4, Z2, Z3, Z0, Zj, stp, just, Rd.bind, Rd.run, Rd.opt, upds, aBin, aInt, Nat.reduceBEq, Nat.reduceEqDiff, Nat.reduceLeDiff, ↓reduceIte, Z5, List.elem_cons, List.elem_nil, seqN, bindN, regN, beq_self_eq_true, bne_self_eq_false, Bool.false_eq_true, beq_self_eq_true, ZDa, ZtV, ZvQ, Zw9, ZVV, ZMc, ZR5, ZGq, ZD0]) (by simp)
 refine ⟨[(1, ⟨.box, trA ls B n e1 e2⟩), (37, ⟨.row, ins (ruO ls B n)⟩)], ?_, rfl⟩
 have z : ∀ x, hset [(1, ⟨.box, trA ls B n e1 e2⟩), (37, ⟨.row, ins (rO ls B n n)⟩)] 37 x = [(1, ⟨.box, trA ls B n e1 e2⟩), (37, x)] := fun _ => rfl
 rw [z] at hrev'
 simp only [ruS, rS, rC, rO, oV, oH, List.length_nil, ins, List.map_nil] at hloop
 rw [show List.map (fun (i : Nat) => AV.int .i64 (i : Int)) (rO ls B n n) = ins (rO ls B n n) from rfl] at hloop
 simp (disch := omega) only [Zz, Zp, Zc, Za, Z4, Z0e, Z2, Z3, Z0, Zk, Zd, Zq, Zm, Zo, Zj, stp, opBox, just, Rd.bind, Rd.run, Rd.opt, upds, acells, rdCells, aLoad, resA, resL, fresh, Nat.reduceAdd, Nat.reduceMul, Nat.reduceBEq, Nat.reduceEqDiff, Nat.reduceLeDiff, ↓reduceIte, reduceCtorEq, Ze, Nat.zero_add, Z5, mutX, aCall, snaps, List.append_nil, Option.map_some, List.elem_cons, List.elem_nil, List.length_cons, List.length_nil, List.drop_zero, List.take_succ_cons, List.take_nil, seqN, bindN, regN, Z0a, ZE, Nat.le_refl, beq_self_eq_true, Bool.false_eq_true, ZO, beq_self_eq_true, Z0FB, Z0zW, Z0sq, Z0x9, Z0yo, Z0HV, Z0ta, Z0uX, Z0I1, Z0sU, Z0sa, Z0HK, Z0tz, Z0A4, Z0Ab, Z0Ao, Z0BJ, Z0Hu, Z0Fv, Z0BX, Z0rb, Z0lN, Z0pj, Z0DT, Z0oz, Z0m5, Z0mW, Z0mV, Z0nJ, Z0CP, Z0EM, Z0ET, Z0Hs, Z0GX, Z0Hr, Z0Fb, b_89, hall, hloop, hrev']
end Go.AM.YtgfnbmfjbjopkaaDoor
end
end
