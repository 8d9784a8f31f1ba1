/- A part of the proof of rubFlat_holds: RoK. Own work of this project; texts printed by own programs among it. -/
import Derived.KernelRfl
import Derived.Test.YtfmnoohhhokicaaWvJ
set_option maxRecDepth 1000000
set_option maxHeartbeats 16000000
noncomputable section
noncomputable section
namespace Go.AM.Ytfmnoohhhokicaa
open Go Go.AM
variable {C : Callee} {B N : Nat} {E0 : AHeap} (φ : AFr) (H : AHeap) (s : St)
def c9_0 := kBody Proofs.Try.f9
def c9_1 := kL c9_0
def r9_0 := kO c9_1
def Ztv := opN r9_0 0
theorem x9_1 : XG 9 190 c9_1 r9_0 [4] := Z2 (by rfl) (by rfl) _
theorem ZJt : r9_0.toList = [Ztv] := nf
theorem ZOP : stepA E C B 190 r9_0 Ztv (φ, H) = some (fput φ 4 (.bool false), H) := nf
def c9_2 := kR c9_0
def c9_3 := kL c9_2
def r9_1 := kO c9_3
def ZrG := opN r9_1 0
def Ztj := opN r9_1 1
def Ztd := opN r9_1 2
def Zsm := opN r9_1 3
def ZsR := opN r9_1 4
theorem x9_3 : XG 9 190 c9_3 r9_1 [0, 26, 27, 28, 29] := Z2 (by rfl) (by rfl) _
theorem ZOe : r9_1.toList = [ZrG, Ztj, Ztd, Zsm, ZsR] := nf
theorem ZPF : stepA E C B 190 r9_1 ZrG (φ, H) = some (fput φ 26 (fget φ 0), H) := nf
theorem ZLp : stepA E C B 190 r9_1 Ztj (φ, H) = stp (some 27) φ H (justO (aConv E.T 5 3 (fget φ 26))) := nf
theorem ZLr : stepA E C B 190 r9_1 Ztd (φ, H) = stp (some 28) φ H (just (aBin E.T .rem 3 (fget φ 27) (.int .i64 6))) := nf
theorem ZMp : stepA E C B 190 r9_1 Zsm (φ, H) = stp (some 29) φ H (just (aBin E.T .add 3 (.int .i64 1) (fget φ 28))) := nf
theorem ZKx : stepA E C B 190 r9_1 ZsR (φ, H) = some (fput φ 5 (fget φ 29), H) := nf
def c9_4 := kR c9_2
def c9_5 := kL c9_4
def r9_2 := kO c9_5
def ZqU := opN r9_2 0
def ZtF := opN r9_2 1
def Zt5 := opN r9_2 2
def ZtP := opN r9_2 3
def Zti := opN r9_2 4
def Zrl := opN r9_2 5
def Zsw := opN r9_2 6
theorem x9_5 : XG 9 190 c9_5 r9_2 [30, 31, 32, 33, 34, 35] := Z2 (by rfl) (by rfl) _
theorem ZKX : r9_2.toList = [ZqU, ZtF, Zt5, ZtP, Zti, Zrl, Zsw] := nf
theorem ZMM : stepA E C B 190 r9_2 ZqU (φ, H) = some (fput φ 30 (fget φ 1), H) := nf
theorem ZMS : stepA E C B 190 r9_2 ZtF (φ, H) = stp (some 31) φ H (justO (aConv E.T 5 3 (fget φ 30))) := nf
theorem ZJX : stepA E C B 190 r9_2 Zt5 (φ, H) = some (fput φ 32 (fget φ 5), H) := nf
theorem ZMC : stepA E C B 190 r9_2 ZtP (φ, H) = stp (some 33) φ H (just (aBin E.T .mul 3 (.int .i64 8) (fget φ 32))) := nf
theorem ZNR : stepA E C B 190 r9_2 Zti (φ, H) = stp (some 34) φ H (just (aBin E.T .add 3 (fget φ 33) (.int .i64 1))) := nf
theorem ZKI : stepA E C B 190 r9_2 Zrl (φ, H) = stp (some 35) φ H (just (aBin E.T .rem 3 (fget φ 31) (fget φ 34))) := nf
theorem ZNT : stepA E C B 190 r9_2 Zsw (φ, H) = some (fput φ 6 (fget φ 35), H) := nf
def c9_6 := kR c9_4
def c9_7 := kL c9_6
def r9_3 := kO c9_7
def ZqI := opN r9_3 0
def ZtI := opN r9_3 1
def ZqR := opN r9_3 2
def ZrM := opN r9_3 3
theorem x9_7 : XG 9 190 c9_7 r9_3 [36, 37, 38] := Z2 (by rfl) (by rfl) _
theorem ZMt : r9_3.toList = [ZqI, ZtI, ZqR, ZrM] := nf
theorem ZM5 : stepA E C B 190 r9_3 ZqI (φ, H) = some (fput φ 36 (fget φ 5), H) := nf
theorem ZMN : stepA E C B 190 r9_3 ZtI (φ, H) = some (fput φ 37 (fget φ 6), H) := nf
theorem ZOU : stepA E C B 190 r9_3 ZqR (φ, H) = stp (some 38) φ H (aCall C (fun j => B + j * 190 + 38) true 59 [(fget φ 36), (fget φ 37)]) := nf
theorem ZOA : stepA E C B 190 r9_3 ZrM (φ, H) = some (fput φ 7 (fget φ 38), H) := nf
def c9_8 := kR c9_6
def c9_9 := kL c9_8
def r9_4 := kO c9_9
def Zr0 := opN r9_4 0
def Zrf := opN r9_4 1
def ZqX := opN r9_4 2
def Zry := opN r9_4 3
def Zqu := opN r9_4 4
def Ztr := opN r9_4 5
def ZtA := opN r9_4 6
def Zsk := opN r9_4 7
theorem x9_9 : XG 9 190 c9_9 r9_4 [39, 40, 41, 42, 43, 44] := Z2 (by rfl) (by rfl) _
theorem ZMT : r9_4.toList = [Zr0, Zrf, ZqX, Zry, Zqu, Ztr, ZtA, Zsk] := nf
theorem ZLl : stepA E C B 190 r9_4 Zr0 (φ, H) = some (fput φ 40 (fget φ 5), H) := nf
theorem ZPC : stepA E C B 190 r9_4 Zrf (φ, H) = some (fput φ 41 (fget φ 6), H) := nf
theorem ZNa : stepA E C B 190 r9_4 ZqX (φ, H) = stp (some 42) φ H (aCall C (fun j => B + j * 190 + 42) true 50 [(fget φ 40), (fget φ 41)]) := nf
theorem ZLC : stepA E C B 190 r9_4 Zry (φ, H) = some (fput φ 39 (fget φ 42), H) := nf
theorem ZPM : stepA E C B 190 r9_4 Zqu (φ, H) = stp (some 43) φ H (Zu (fget φ 39) 0) := nf
theorem ZMa : stepA E C B 190 r9_4 Ztr (φ, H) = stp (some 44) φ H (Zu (fget φ 39) 1) := nf
theorem ZNw : stepA E C B 190 r9_4 ZtA (φ, H) = some (fput φ 8 (fget φ 43), H) := nf
theorem ZK5 : stepA E C B 190 r9_4 Zsk (φ, H) = some (fput φ 9 (fget φ 44), H) := nf
def Z9D := kR c9_8
def ZpN := kL Z9D
def r9_5 := kO ZpN
def ZsE := opN r9_5 0
def Zrc := opN r9_5 1
def Zrx := opN r9_5 2
def Zre := opN r9_5 3
def ZtX := opN r9_5 4
def ZtQ := opN r9_5 5
def Zr9 := opN r9_5 6
def Zsc := opN r9_5 7
def ZtB := opN r9_5 8
def Zty := opN r9_5 9
theorem ZTM : XG 9 190 ZpN r9_5 [10, 45, 46, 47, 48, 49, 50, 51, 52] := Z2 (by rfl) (by rfl) _
theorem ZKc : r9_5.toList = [ZsE, Zrc, Zrx, Zre, ZtX, ZtQ, Zr9, Zsc, ZtB, Zty] := nf
theorem ZNH : stepA E C B 190 r9_5 ZsE (φ, H) = some (fput φ 46 (fget φ 5), H) := nf
theorem ZP7 : stepA E C B 190 r9_5 Zrc (φ, H) = some (fput φ 47 (fget φ 5), H) := nf
theorem ZN5 : stepA E C B 190 r9_5 Zrx (φ, H) = stp (some 48) φ H (just (aBin E.T .mul 3 (.int .i64 8) (fget φ 47))) := nf
theorem ZMw : stepA E C B 190 r9_5 Zre (φ, H) = stp (some 49) φ H (just (aBin E.T .add 3 (fget φ 48) (.int .i64 1))) := nf
theorem ZJu : stepA E C B 190 r9_5 ZtX (φ, H) = stp (some 50) φ H (aCall C (fun j => B + j * 190 + 50) true 50 [(fget φ 46), (fget φ 49)]) := nf
theorem ZML : stepA E C B 190 r9_5 ZtQ (φ, H) = some (fput φ 45 (fget φ 50), H) := nf
theorem ZNx : stepA E C B 190 r9_5 Zr9 (φ, H) = stp (some 51) φ H (Zu (fget φ 45) 0) := nf
theorem ZLB : stepA E C B 190 r9_5 Zsc (φ, H) = stp (some 52) φ H (Zu (fget φ 45) 1) := nf
theorem ZJI : stepA E C B 190 r9_5 ZtB (φ, H) = some (fput φ 10 (fget φ 51), H) := nf
theorem ZKN : stepA E C B 190 r9_5 Zty (φ, H) = some (fput φ 11 (fget φ 52), H) := nf
def Z9N := kR Z9D
def Zq6 := kL Z9N
def r9_6 := kO Zq6
def ZrF := opN r9_6 0
def Zso := opN r9_6 1
def ZrE := opN r9_6 2
def ZqB := opN r9_6 3
def ZrY := opN r9_6 4
def Zt2 := opN r9_6 5
theorem ZRs : XG 9 190 Zq6 r9_6 [12, 53, 54, 55, 56] := Z2 (by rfl) (by rfl) _
theorem ZPG : r9_6.toList = [ZrF, Zso, ZrE, ZqB, ZrY, Zt2] := nf
theorem ZMB : stepA E C B 190 r9_6 ZrF (φ, H) = stp (some 54) φ H (aCall C (fun j => B + j * 190 + 54) true 50 [(.int .i64 7), (.int .i64 1)]) := nf
theorem ZPD : stepA E C B 190 r9_6 Zso (φ, H) = some (fput φ 53 (fget φ 54), H) := nf
theorem ZOa : stepA E C B 190 r9_6 ZrE (φ, H) = stp (some 55) φ H (Zu (fget φ 53) 0) := nf
theorem ZMr : stepA E C B 190 r9_6 ZqB (φ, H) = stp (some 56) φ H (Zu (fget φ 53) 1) := nf
theorem ZK7 : stepA E C B 190 r9_6 ZrY (φ, H) = some (fput φ 12 (fget φ 55), H) := nf
theorem ZO3 : stepA E C B 190 r9_6 Zt2 (φ, H) = some (fput φ 13 (fget φ 56), H) := nf
def ZbI := kR Z9N
def ZpI := kL ZbI
def r9_7 := kO ZpI
def Zqk := opN r9_7 0
def Zr2 := opN r9_7 1
def ZqY := opN r9_7 2
def ZrD := opN r9_7 3
theorem ZUC : XG 9 190 ZpI r9_7 [57, 58, 59] := Z2 (by rfl) (by rfl) _
theorem ZMZ : r9_7.toList = [Zqk, Zr2, ZqY, ZrD] := nf
theorem ZMO : stepA E C B 190 r9_7 Zqk (φ, H) = some (fput φ 57 (fget φ 7), H) := nf
theorem ZPw : stepA E C B 190 r9_7 Zr2 (φ, H) = stp (some 58) φ H (just (Z4 E.T 39 (fget φ 57) (.int .i64 0))) := nf
theorem ZKb : stepA E C B 190 r9_7 ZqY (φ, H) = stp (some 59) φ H (just (aLoad E.T 22 (fget φ 58))) := nf
theorem ZP9 : stepA E C B 190 r9_7 ZrD (φ, H) = some (fput φ 14 (fget φ 59), H) := nf
def Zaf := kR ZbI
def ZpY := kL Zaf
def r9_8 := kO ZpY
def Zqz := opN r9_8 0
def ZqP := opN r9_8 1
def ZqE := opN r9_8 2
def Zqr := opN r9_8 3
def ZqW := opN r9_8 4
def ZtL := opN r9_8 5
def Zsb := opN r9_8 6
theorem ZRy : XG 9 190 ZpY r9_8 [14, 60, 61, 62, 63, 64] := Z2 (by rfl) (by rfl) _
theorem ZMV : r9_8.toList = [Zqz, ZqP, ZqE, Zqr, ZqW, ZtL, Zsb] := nf
theorem ZMy : stepA E C B 190 r9_8 Zqz (φ, H) = some (fput φ 61 (fget φ 14), H) := nf
theorem ZJE : stepA E C B 190 r9_8 ZqP (φ, H) = stp (some 62) φ H (aCall C (fun j => B + j * 190 + 62) true 37 [(fget φ 61)]) := nf
theorem ZN4 : stepA E C B 190 r9_8 ZqE (φ, H) = some (fput φ 60 (fget φ 62), H) := nf
theorem ZJY : stepA E C B 190 r9_8 Zqr (φ, H) = stp (some 63) φ H (Zu (fget φ 60) 0) := nf
theorem ZMk : stepA E C B 190 r9_8 ZqW (φ, H) = stp (some 64) φ H (Zu (fget φ 60) 1) := nf
theorem ZLg : stepA E C B 190 r9_8 ZtL (φ, H) = some (fput φ 15 (fget φ 63), H) := nf
theorem ZJw : stepA E C B 190 r9_8 Zsb (φ, H) = some (fput φ 16 (fget φ 64), H) := nf
def Zah := kR Zaf
def ZaJ := kL Zah
def Zq3 := kL ZaJ
def r9_9 := kO Zq3
def Zs5 := opN r9_9 0
def ZsT := opN r9_9 1
def Z7Y := opN r9_9 2
def Zsp := opN r9_9 3
def ZrC := opN r9_9 4
def ZtT := opN r9_9 5
def Z8c := opN r9_9 6
def Zr7 := opN r9_9 7
def Zsv := opN r9_9 8
def Ztb := opN r9_9 9
def Z4I := opN r9_9 10
def ZmX := opN r9_9 11
def ZmI := opN r9_9 12
def ZlE := opN r9_9 13
def Z2e := opN r9_9 14
def ZkO := opN r9_9 15
def ZhP := opN r9_9 16
def Zj0 := opN r9_9 17
def Zjw := opN r9_9 18
def ZiO := opN r9_9 19
def Z2c := opN r9_9 20
def Zlm := opN r9_9 21
def Zk5 := opN r9_9 22
def Zjs := opN r9_9 23
def Zib := opN r9_9 24
def Zmc := opN r9_9 25
theorem ZR2 : XG 9 190 Zq3 r9_9 [8, 9, 11, 13, 15, 16, 65, 66, 67, 68, 69, 70, 71, 72, 73, 74, 75, 76, 77, 78, 79, 80, 81, 82, 83, 84, 85, 86, 87, 88, 89] := Z2 (by rfl) (by rfl) _
theorem ZNz : r9_9.toList = [Zs5, ZsT, Z7Y, Zsp, ZrC, ZtT, Z8c, Zr7, Zsv, Ztb, Z4I, ZmX, ZmI, ZlE, Z2e, ZkO, ZhP, Zj0, Zjw, ZiO, Z2c, Zlm, Zk5, Zjs, Zib, Zmc] := nf
theorem ZP1 : stepA E C B 190 r9_9 Zs5 (φ, H) = some (fput φ 65 (fget φ 9), H) := nf
theorem ZNk : stepA E C B 190 r9_9 ZsT (φ, H) = stp (some 66) φ H (just (aBin E.T .neq 24 (fget φ 65) (.int .i64 0))) := nf
theorem ZNm : stepA E C B 190 r9_9 Z7Y (φ, H) = some (fput φ 67 (fget φ 66), H) := nf
theorem ZMz : stepA E C B 190 r9_9 Zsp (φ, H) = gd φ 67 false (fun φ => some (fput φ 68 (.tup []), H)) (fun φ => some (fput φ 68 (fget φ 11), H)) := s_gd (j := 2) (oj := Z7Y) rfl rfl rfl (fun _ => rfl) (fun _ => rfl)
theorem ZLL : stepA E C B 190 r9_9 ZrC (φ, H) = gd φ 67 false (fun φ => some (fput φ 69 (.tup []), H)) (fun φ => stp (some 69) φ H (just (aBin E.T .neq 24 (fget φ 68) (.int .i64 1)))) := s_gd (j := 2) (oj := Z7Y) rfl rfl rfl (fun _ => rfl) (fun _ => rfl)
theorem ZPu : stepA E C B 190 r9_9 ZtT (φ, H) = stp (some 70) φ H (opPick (fget φ 67) (.bool true) (fget φ 69)) := nf
theorem ZMb : stepA E C B 190 r9_9 Z8c (φ, H) = some (fput φ 71 (fget φ 70), H) := nf
theorem ZLX : stepA E C B 190 r9_9 Zr7 (φ, H) = gd φ 71 false (fun φ => some (fput φ 72 (.tup []), H)) (fun φ => some (fput φ 72 (fget φ 13), H)) := s_gd (j := 6) (oj := Z8c) rfl rfl rfl (fun _ => rfl) (fun _ => rfl)
theorem ZKa : stepA E C B 190 r9_9 Zsv (φ, H) = gd φ 71 false (fun φ => some (fput φ 73 (.tup []), H)) (fun φ => stp (some 73) φ H (just (aBin E.T .neq 24 (fget φ 72) (.int .i64 1)))) := s_gd (j := 6) (oj := Z8c) rfl rfl rfl (fun _ => rfl) (fun _ => rfl)
theorem ZNX : stepA E C B 190 r9_9 Ztb (φ, H) = stp (some 74) φ H (opPick (fget φ 71) (.bool true) (fget φ 73)) := nf
theorem Zzp : stepA E C B 190 r9_9 Z4I (φ, H) = some (fput φ 75 (fget φ 74), H) := nf
theorem ZAf : stepA E C B 190 r9_9 ZmX (φ, H) = gd φ 75 false (fun φ => some (fput φ 76 (.tup []), H)) (fun φ => some (fput φ 76 (fget φ 16), H)) := s_gd (j := 10) (oj := Z4I) rfl rfl rfl (fun _ => rfl) (fun _ => rfl)
theorem ZAt : stepA E C B 190 r9_9 ZmI (φ, H) = gd φ 75 false (fun φ => some (fput φ 77 (.tup []), H)) (fun φ => stp (some 77) φ H (just (aBin E.T .neq 24 (fget φ 76) (.int .i64 0)))) := s_gd (j := 10) (oj := Z4I) rfl rfl rfl (fun _ => rfl) (fun _ => rfl)
theorem ZDK : stepA E C B 190 r9_9 ZlE (φ, H) = stp (some 78) φ H (opPick (fget φ 75) (.bool true) (fget φ 77)) := nf
theorem ZAT : stepA E C B 190 r9_9 Z2e (φ, H) = some (fput φ 79 (fget φ 78), H) := nf
theorem ZAZ : stepA E C B 190 r9_9 ZkO (φ, H) = gd φ 79 false (fun φ => some (fput φ 80 (.tup []), H)) (fun φ => some (fput φ 80 (fget φ 8), H)) := s_gd (j := 14) (oj := Z2e) rfl rfl rfl (fun _ => rfl) (fun _ => rfl)
theorem ZzW : stepA E C B 190 r9_9 ZhP (φ, H) = gd φ 79 false (fun φ => some (fput φ 81 (.tup []), H)) (fun φ => some (fput φ 81 (fget φ 7), H)) := s_gd (j := 14) (oj := Z2e) rfl rfl rfl (fun _ => rfl) (fun _ => rfl)
theorem ZE2 : stepA E C B 190 r9_9 Zj0 (φ, H) = gd φ 79 false (fun φ => some (fput φ 82 (.tup []), H)) (fun φ => stp (some 82) φ H (Z1 E.T (B + 82) .len #[39] [(fget φ 81)])) := s_gd (j := 14) (oj := Z2e) rfl rfl rfl (fun _ => rfl) (fun _ => rfl)
theorem ZHm : stepA E C B 190 r9_9 Zjw (φ, H) = gd φ 79 false (fun φ => some (fput φ 83 (.tup []), H)) (fun φ => stp (some 83) φ H (just (aBin E.T .neq 3 (fget φ 80) (fget φ 82)))) := s_gd (j := 14) (oj := Z2e) rfl rfl rfl (fun _ => rfl) (fun _ => rfl)
theorem ZIw : stepA E C B 190 r9_9 ZiO (φ, H) = stp (some 84) φ H (opPick (fget φ 79) (.bool true) (fget φ 83)) := nf
theorem ZES : stepA E C B 190 r9_9 Z2c (φ, H) = some (fput φ 85 (fget φ 84), H) := nf
theorem ZHz : stepA E C B 190 r9_9 Zlm (φ, H) = gd φ 85 false (fun φ => some (fput φ 86 (.tup []), H)) (fun φ => some (fput φ 86 (fget φ 15), H)) := s_gd (j := 20) (oj := Z2c) rfl rfl rfl (fun _ => rfl) (fun _ => rfl)
theorem ZA4 : stepA E C B 190 r9_9 Zk5 (φ, H) = gd φ 85 false (fun φ => some (fput φ 87 (.tup []), H)) (fun φ => some (fput φ 87 (fget φ 7), H)) := s_gd (j := 20) (oj := Z2c) rfl rfl rfl (fun _ => rfl) (fun _ => rfl)
theorem ZGn : stepA E C B 190 r9_9 Zjs (φ, H) = gd φ 85 false (fun φ => some (fput φ 88 (.tup []), H)) (fun φ => stp (some 88) φ H (aCall C (fun j => B + j * 190 + 88) true 41 [(fget φ 86), (fget φ 87)])) := s_gd (j := 20) (oj := Z2c) rfl rfl rfl (fun _ => rfl) (fun _ => rfl)
theorem ZCK : stepA E C B 190 r9_9 Zib (φ, H) = gd φ 85 false (fun φ => some (fput φ 89 (.tup []), H)) (fun φ => stp (some 89) φ H (justO (aUn .not (fget φ 88)))) := s_gd (j := 20) (oj := Z2c) rfl rfl rfl (fun _ => rfl) (fun _ => rfl)
theorem ZD9 : stepA E C B 190 r9_9 Zmc (φ, H) = stp (some 90) φ H (opPick (fget φ 85) (.bool true) (fget φ 89)) := nf
def Z9Q := kR ZaJ
def Zai := kT Z9Q
def ZoL := kL Zai
def ZaH := kO ZoL
def Zl0 := opN ZaH 0
theorem ZRH : XG 9 190 ZoL ZaH [1, 5, 6, 7, 90] := Z2 (by rfl) (by rfl) _
theorem ZDs : ZaH.toList = [Zl0] := nf
theorem ZJd : stepA E C B 190 ZaH Zl0 (φ, H) = some (fput φ 4 (.bool false), H) := nf
def Zz6 := kR Zai
theorem ZRD : execA E C (fg 9) B 190 E0 N Zz6 s = some (.ret, s) := Zs (by rfl) s
theorem ZQz : XQ 9 190 Zai ZoL Zz6 := Z0 (by rfl) _
def Zz8 := kE Z9Q
theorem ZT1 : execA E C (fg 9) B 190 E0 N Zz8 s = some (.normal, s) := Zp (by rfl) s
theorem ZS7 : XC 9 190 Z9Q 90 Zai Zz8 := Zn (by rfl) _
theorem ZRM : XQ 9 190 ZaJ Zq3 Z9Q := Z0 (by rfl) _
def Z9Y := kR Zah
def ZoD := kL Z9Y
def ZC := kO ZoD
def Zkp := opN ZC 0
def ZkA := opN ZC 1
def ZnG := opN ZC 2
def Zij := opN ZC 3
def ZmC := opN ZC 4
def ZmU := opN ZC 5
def Znz := opN ZC 6
def ZlW := opN ZC 7
def Zhq := opN ZC 8
def ZhN := opN ZC 9
def ZbQ := opN ZC 10
def Zcu := opN ZC 11
def Zd1 := opN ZC 12
def Zce := opN ZC 13
theorem ZPO : XG 9 190 ZoD ZC [1, 90, 91, 92, 93, 94, 95, 96, 97, 98, 99, 100, 101, 102] := Z2 (by rfl) (by rfl) _
theorem ZIu : ZC.toList = [Zkp, ZkA, ZnG, Zij, ZmC, ZmU, Znz, ZlW, Zhq, ZhN, ZbQ, Zcu, Zd1, Zce] := nf
theorem ZH2 : stepA E C B 190 ZC Zkp (φ, H) = some (fput φ 92 (fget φ 7), H) := nf
theorem Zzs : stepA E C B 190 ZC ZkA (φ, H) = some (fput φ 93 (fget φ 1), H) := nf
theorem ZEd : stepA E C B 190 ZC ZnG (φ, H) = stp (some 94) φ H (justO (aConv E.T 5 3 (fget φ 93))) := nf
theorem ZI3 : stepA E C B 190 ZC Zij (φ, H) = some (fput φ 95 (fget φ 7), H) := nf
theorem ZFO : stepA E C B 190 ZC ZmC (φ, H) = stp (some 96) φ H (Z1 E.T (B + 96) .len #[39] [(fget φ 95)]) := nf
theorem ZGs : stepA E C B 190 ZC ZmU (φ, H) = stp (some 97) φ H (just (aBin E.T .rem 3 (fget φ 94) (fget φ 96))) := nf
theorem ZIA : stepA E C B 190 ZC Znz (φ, H) = stp (some 98) φ H (just (Z4 E.T 39 (fget φ 92) (fget φ 97))) := nf
theorem ZGX : stepA E C B 190 ZC ZlW (φ, H) = stp (some 99) φ H (just (aLoad E.T 22 (fget φ 98))) := nf
theorem ZAW : stepA E C B 190 ZC Zhq (φ, H) = stp (some 100) φ H (aCall C (fun j => B + j * 190 + 100) true 42 [(fget φ 99)]) := nf
theorem ZCz : stepA E C B 190 ZC ZhN (φ, H) = some (fput φ 91 (fget φ 100), H) := nf
theorem ZvK : stepA E C B 190 ZC ZbQ (φ, H) = stp (some 101) φ H (Zu (fget φ 91) 0) := nf
theorem Zyy : stepA E C B 190 ZC Zcu (φ, H) = stp (some 102) φ H (Zu (fget φ 91) 1) := nf
theorem ZuH : stepA E C B 190 ZC Zd1 (φ, H) = some (fput φ 17 (fget φ 101), H) := nf
theorem Zvv : stepA E C B 190 ZC Zce (φ, H) = some (fput φ 9 (fget φ 102), H) := nf
def Z9T := kR Z9Y
def Zb6 := kL Z9T
def Zow := kL Zb6
def Za := kO Zow
def Zju := opN Za 0
def ZnD := opN Za 1
def Z29 := opN Za 2
def Zim := opN Za 3
def Zn5 := opN Za 4
def ZkD := opN Za 5
def Zl3 := opN Za 6
def Zo3 := opN Za 7
def Z2a := opN Za 8
def Zhs := opN Za 9
def ZgU := opN Za 10
def Zdl := opN Za 11
def Zev := opN Za 12
def ZfO := opN Za 13
def ZZ := opN Za 14
def ZeG := opN Za 15
def ZdG := opN Za 16
def Zgf := opN Za 17
def Zfx := opN Za 18
def ZbJ := opN Za 19
def ZgG := opN Za 20
def Zf5 := opN Za 21
def Zcl := opN Za 22
def Zc8 := opN Za 23
def Zch := opN Za 24
def ZgJ := opN Za 25
def Z2j := opN Za 26
def ZfL := opN Za 27
def Zgp := opN Za 28
def Zgx := opN Za 29
def ZgZ := opN Za 30
theorem ZQn : XD 9 190 Zow Za [5, 6, 9, 103, 104, 105, 106, 107, 108, 109, 110, 111, 112, 113, 114, 115, 116, 117, 118, 119, 120, 121, 122, 123, 124, 125, 126, 127, 128, 129, 130, 131, 132] := Z1Z (by rfl) (by rfl) _
theorem ZCf : Za.toList = [Zju, ZnD, Z29, Zim, Zn5, ZkD, Zl3, Zo3, Z2a, Zhs, ZgU, Zdl, Zev, ZfO, ZZ, ZeG, ZdG, Zgf, Zfx, ZbJ, ZgG, Zf5, Zcl, Zc8, Zch, ZgJ, Z2j, ZfL, Zgp, Zgx, ZgZ] := nf
theorem ZvJ : statOk Za = true := by kernel_rfl
theorem Zvg : drawA E C B 190 Za s = if neat 190 s = true then drX Za (runT E C B 190 Za Za.toList 0 s) else none := Z1h ZvJ s
theorem Zxw (l : List (Nat × Tr)) : dynOk Za l = (!writing l || Zd [[], [0], [0, 1], [0, 1, 2], [0, 1, 2, 3], [0, 1, 2], [0, 1, 2, 3, 4, 5], [0, 1, 2, 3, 4, 5, 6], [0, 1, 2, 3, 4, 5, 6, 7], [0, 1, 2, 3, 4, 5, 6, 7, 8], [0, 1, 2, 3, 4, 5, 6, 7, 8, 9], [0, 1, 2, 3, 4, 5, 6, 7, 8], [0, 1, 2, 3, 4, 5, 6, 7, 8, 9, 10, 11], [0, 1, 2, 3, 4, 5, 6, 7, 8, 9, 10, 11, 12], [0, 1, 2, 3, 4, 5, 6, 7, 8, 9, 10, 11, 12, 13], [0, 1, 2, 3, 4, 5, 6, 7, 8, 9, 10, 11, 12, 13, 14], [0, 1, 2, 3, 4, 5, 6, 7, 8, 9, 10, 11, 12, 13, 14, 15], [0, 1, 2, 3, 4, 5, 6, 7, 8, 9, 10, 11, 12, 13, 14, 15, 16], [0, 1, 2, 3, 4, 5, 6, 7, 8, 9, 10, 11, 12, 13, 14], [0, 1, 2, 3, 4, 5, 6, 7, 8, 9, 10, 11, 12, 13, 14], [0, 1, 2, 3, 4, 5, 6, 7, 8, 9, 10, 11, 12, 13, 14, 19], [0, 1, 2, 3, 4, 5, 6, 7, 8, 9, 10, 11, 12, 13, 14, 18, 19, 20], [0, 1, 2, 3, 4, 5, 6, 7, 8, 9, 10, 11, 12, 13, 14, 18, 19, 20, 21], [0, 1, 2, 3, 4, 5, 6, 7, 8, 9, 10, 11, 12, 13, 14, 15, 16, 17, 18, 19, 20, 21, 22], [0, 1, 2, 3, 4, 5, 6, 7, 8, 9, 10, 11, 12, 13, 14, 15, 16, 17, 18, 19, 20, 21, 22, 23], [0, 1, 2, 3, 4, 5, 6, 7, 8, 9, 10, 11, 12, 13, 14, 15, 16, 17, 18, 19, 20, 21, 22, 23, 24], [0, 1, 2, 3, 4, 5, 6, 7, 8, 9, 10, 11, 12, 13, 14, 15, 16, 17, 18, 19, 20, 21, 22, 23, 24, 25], [0, 1, 2, 3, 4, 5, 6, 7, 8, 9, 10, 11, 12, 13, 14, 15, 16, 17, 18, 19, 20, 21, 22, 23, 24, 25, 26], [0, 1, 2, 3, 4, 5, 6, 7, 8, 9, 10, 11, 12, 13, 14, 15, 16, 17, 18, 19, 20, 21, 22, 23, 24, 25, 26, 27], [0, 1, 2, 3, 4, 5, 6, 7, 8, 9, 10, 11, 12, 13, 14, 15, 16, 17, 18, 19, 20, 21, 22, 23, 24, 25, 26, 27, 28], [0, 1, 2, 3, 4, 5, 6, 7, 8, 9, 10, 11, 12, 13, 14, 15, 16, 17, 18, 19, 20, 21, 22, 23, 24, 25, 26, 27, 28, 29]] (Zb l)) := Z0K (by kernel_rfl) l
theorem ZEW : stepT E C B 190 Za Zju (φ, H) = some ((fput φ 103 (fget φ 9), H), ⟨false, [], []⟩) := Z5 rfl (Ze rfl rfl)
theorem ZEA : stepT E C B 190 Za ZnD (φ, H) = stpT (some 104) φ H (just (aBin E.T .neq 24 (fget φ 103) (.int .i64 0))) := Z5 rfl (Zc rfl rfl)
theorem ZBV : stepT E C B 190 Za Z29 (φ, H) = some ((fput φ 105 (fget φ 104), H), ⟨false, [], []⟩) := Z5 rfl (Ze rfl rfl)
theorem ZFQ : stepT E C B 190 Za Zim (φ, H) = gdT φ 105 false (fun φ => (some (fput φ 106 (.tup []), H)).map fun s => (s, ⟨false, [], []⟩)) (fun φ => some ((fput φ 106 (fget φ 17), H), ⟨false, [], []⟩)) := ZL (j := 2) (oj := Z29) rfl rfl rfl (fun _ => rfl) (fun _ => Ze rfl rfl)
theorem ZEx : stepT E C B 190 Za Zn5 (φ, H) = gdT φ 105 false (fun φ => (some (fput φ 107 (.tup []), H)).map fun s => (s, ⟨false, [], []⟩)) (fun φ => stpT (some 107) φ H (Z1 E.T (B + 107) .len #[22] [(fget φ 106)])) := ZL (j := 2) (oj := Z29) rfl rfl rfl (fun _ => rfl) (fun _ => Zc rfl rfl)
theorem ZH3 : stepT E C B 190 Za ZkD (φ, H) = gdT φ 105 false (fun φ => (some (fput φ 108 (.tup []), H)).map fun s => (s, ⟨false, [], []⟩)) (fun φ => some ((fput φ 108 (fget φ 5), H), ⟨false, [], []⟩)) := ZL (j := 2) (oj := Z29) rfl rfl rfl (fun _ => rfl) (fun _ => Ze rfl rfl)
theorem ZG5 : stepT E C B 190 Za Zl3 (φ, H) = gdT φ 105 false (fun φ => (some (fput φ 109 (.tup []), H)).map fun s => (s, ⟨false, [], []⟩)) (fun φ => stpT (some 109) φ H (just (aBin E.T .neq 3 (fget φ 107) (fget φ 108)))) := ZL (j := 2) (oj := Z29) rfl rfl rfl (fun _ => rfl) (fun _ => Zc rfl rfl)
theorem ZGu : stepT E C B 190 Za Zo3 (φ, H) = stpT (some 110) φ H (opPick (fget φ 105) (.bool true) (fget φ 109)) := Z5 rfl (Zc rfl rfl)
theorem ZAk : stepT E C B 190 Za Z2a (φ, H) = some ((fput φ 111 (fget φ 110), H), ⟨false, [], []⟩) := Z5 rfl (Ze rfl rfl)
theorem ZFu : stepT E C B 190 Za Zhs (φ, H) = gdT φ 111 false (fun φ => (some (fput φ 112 (.tup []), H)).map fun s => (s, ⟨false, [], []⟩)) (fun φ => some ((fput φ 112 (fget φ 17), H), ⟨false, [], []⟩)) := ZL (j := 8) (oj := Z2a) rfl rfl rfl (fun _ => rfl) (fun _ => Ze rfl rfl)
theorem ZuM : stepT E C B 190 Za ZgU (φ, H) = gdT φ 111 false (fun φ => (some (fput φ 113 (.tup []), H)).map fun s => (s, ⟨false, [], []⟩)) (fun φ => stpT (some 113) φ H (aCall C (fun j => B + j * 190 + 113) true 58 [(fget φ 112)])) := ZL (j := 8) (oj := Z2a) rfl rfl rfl (fun _ => rfl) (fun _ => Zc rfl rfl)
theorem ZyF : stepT E C B 190 Za Zdl (φ, H) = gdT φ 111 false (fun φ => (some (fput φ 114 (.tup []), H)).map fun s => (s, ⟨false, [], []⟩)) (fun φ => some ((fput φ 114 (fget φ 6), H), ⟨false, [], []⟩)) := ZL (j := 8) (oj := Z2a) rfl rfl rfl (fun _ => rfl) (fun _ => Ze rfl rfl)
theorem ZxA : stepT E C B 190 Za Zev (φ, H) = gdT φ 111 false (fun φ => (some (fput φ 115 (.tup []), H)).map fun s => (s, ⟨false, [], []⟩)) (fun φ => stpT (some 115) φ H (just (aBin E.T .neq 3 (fget φ 113) (fget φ 114)))) := ZL (j := 8) (oj := Z2a) rfl rfl rfl (fun _ => rfl) (fun _ => Zc rfl rfl)
theorem Zyt : stepT E C B 190 Za ZfO (φ, H) = stpT (some 116) φ H (opPick (fget φ 111) (.bool true) (fget φ 115)) := Z5 rfl (Zc rfl rfl)
theorem ZuZ : stepT E C B 190 Za ZZ (φ, H) = some ((fput φ 117 (fget φ 116), H), ⟨false, [], []⟩) := Z5 rfl (Ze rfl rfl)
theorem Zvt : stepT E C B 190 Za ZeG (φ, H) = gdT φ 117 false (fun φ => (some (fput φ 118 (.tup []), H)).map fun s => (s, ⟨false, [], []⟩)) (fun φ => some ((fput φ 118 (fget φ 17), H), ⟨false, [], []⟩)) := ZL (j := 14) (oj := ZZ) rfl rfl rfl (fun _ => rfl) (fun _ => Ze rfl rfl)
theorem ZxX : stepT E C B 190 Za ZdG (φ, H) = gdT φ 117 false (fun φ => (some (fput φ 119 (.tup []), H)).map fun s => (s, ⟨false, [], []⟩)) (fun φ => stpT (some 119) φ H (just (Z4 E.T 22 (fget φ 118) (.int .i64 0)))) := ZL (j := 14) (oj := ZZ) rfl rfl rfl (fun _ => rfl) (fun _ => Zc rfl rfl)
theorem Zui : stepT E C B 190 Za Zgf (φ, H) = gdT φ 117 false (fun φ => (some (fput φ 120 (.tup []), H)).map fun s => (s, ⟨false, [], []⟩)) (fun φ => stpT (some 120) φ H (just (aLoad E.T 3 (fget φ 119)))) := ZL (j := 14) (oj := ZZ) rfl rfl rfl (fun _ => rfl) (fun _ => Zc rfl rfl)
theorem Zwb : stepT E C B 190 Za Zfx (φ, H) = gdT φ 117 false (fun φ => (some (fput φ 121 (.tup []), H)).map fun s => (s, ⟨false, [], []⟩)) (fun φ => some ((fput φ 121 (fget φ 17), H), ⟨false, [], []⟩)) := ZL (j := 14) (oj := ZZ) rfl rfl rfl (fun _ => rfl) (fun _ => Ze rfl rfl)
theorem ZxT : stepT E C B 190 Za ZbJ (φ, H) = gdT φ 117 false (fun φ => (some (fput φ 122 (.tup []), H)).map fun s => (s, ⟨false, [], []⟩)) (fun φ => some ((fput φ 122 (fget φ 5), H), ⟨false, [], []⟩)) := ZL (j := 14) (oj := ZZ) rfl rfl rfl (fun _ => rfl) (fun _ => Ze rfl rfl)
theorem Zxc : stepT E C B 190 Za ZgG (φ, H) = gdT φ 117 false (fun φ => (some (fput φ 123 (.tup []), H)).map fun s => (s, ⟨false, [], []⟩)) (fun φ => stpT (some 123) φ H (just (aBin E.T .sub 3 (fget φ 122) (.int .i64 1)))) := ZL (j := 14) (oj := ZZ) rfl rfl rfl (fun _ => rfl) (fun _ => Zc rfl rfl)
theorem Zx1 : stepT E C B 190 Za Zf5 (φ, H) = gdT φ 117 false (fun φ => (some (fput φ 124 (.tup []), H)).map fun s => (s, ⟨false, [], []⟩)) (fun φ => stpT (some 124) φ H (just (Z4 E.T 22 (fget φ 121) (fget φ 123)))) := ZL (j := 14) (oj := ZZ) rfl rfl rfl (fun _ => rfl) (fun _ => Zc rfl rfl)
theorem Zwj : stepT E C B 190 Za Zcl (φ, H) = gdT φ 117 false (fun φ => (some (fput φ 125 (.tup []), H)).map fun s => (s, ⟨false, [], []⟩)) (fun φ => stpT (some 125) φ H (just (aLoad E.T 3 (fget φ 124)))) := ZL (j := 14) (oj := ZZ) rfl rfl rfl (fun _ => rfl) (fun _ => Zc rfl rfl)
theorem ZwZ : stepT E C B 190 Za Zc8 (φ, H) = gdT φ 117 false (fun φ => (some (fput φ 126 (.tup []), H)).map fun s => (s, ⟨false, [], []⟩)) (fun φ => stpT (some 126) φ H (just (aBin E.T .sub 3 (fget φ 120) (fget φ 125)))) := ZL (j := 14) (oj := ZZ) rfl rfl rfl (fun _ => rfl) (fun _ => Zc rfl rfl)
theorem ZuO : stepT E C B 190 Za Zch (φ, H) = gdT φ 117 false (fun φ => (some (fput φ 127 (.tup []), H)).map fun s => (s, ⟨false, [], []⟩)) (fun φ => stpT (some 127) φ H (just (aBin E.T .gtr 3 (fget φ 126) (.int .i64 1)))) := ZL (j := 14) (oj := ZZ) rfl rfl rfl (fun _ => rfl) (fun _ => Zc rfl rfl)
theorem ZyG : stepT E C B 190 Za ZgJ (φ, H) = stpT (some 128) φ H (opPick (fget φ 117) (.bool true) (fget φ 127)) := Z5 rfl (Zc rfl rfl)
theorem ZuL : stepT E C B 190 Za Z2j (φ, H) = some ((fput φ 129 (fget φ 128), H), ⟨false, [], []⟩) := Z5 rfl (Ze rfl rfl)
theorem Zw9 : stepT E C B 190 Za ZfL (φ, H) = gdT φ 129 false (fun φ => (some (fput φ 130 (.tup []), H)).map fun s => (s, ⟨false, [], []⟩)) (fun φ => some ((fput φ 130 (fget φ 17), H), ⟨false, [], []⟩)) := ZL (j := 26) (oj := Z2j) rfl rfl rfl (fun _ => rfl) (fun _ => Ze rfl rfl)
theorem ZxS : stepT E C B 190 Za Zgp (φ, H) = gdT φ 129 false (fun φ => (some (fput φ 131 (.tup []), H)).map fun s => (s, ⟨false, [], []⟩)) (fun φ => stpT (some 131) φ H (aCall C (fun j => B + j * 190 + 131) true 60 [(fget φ 130), (.clo 61 [])])) := ZL (j := 26) (oj := Z2j) rfl rfl rfl (fun _ => rfl) (fun _ => Zc rfl rfl)
theorem Zw0 : stepT E C B 190 Za Zgx (φ, H) = gdT φ 129 false (fun φ => (some (fput φ 132 (.tup []), H)).map fun s => (s, ⟨false, [], []⟩)) (fun φ => stpT (some 132) φ H (justO (aUn .not (fget φ 131)))) := ZL (j := 26) (oj := Z2j) rfl rfl rfl (fun _ => rfl) (fun _ => Zc rfl rfl)
theorem Zvb : stepT E C B 190 Za ZgZ (φ, H) = stpT (some 133) φ H (opPick (fget φ 129) (.bool true) (fget φ 132)) := Z5 rfl (Zc rfl rfl)
def Zbq := kR Zb6
def Z9I := kT Zbq
def ZoJ := kL Z9I
def ZaO := kO ZoJ
def Zni := opN ZaO 0
theorem ZQU : XG 9 190 ZoJ ZaO [7, 17, 133] := Z2 (by rfl) (by rfl) _
theorem ZBm : ZaO.toList = [Zni] := nf
theorem ZGF : stepA E C B 190 ZaO Zni (φ, H) = some (fput φ 4 (.bool false), H) := nf
def Zzh := kR Z9I
theorem ZUc : execA E C (fg 9) B 190 E0 N Zzh s = some (.ret, s) := Zs (by rfl) s
theorem ZRG : XQ 9 190 Z9I ZoJ Zzh := Z0 (by rfl) _
def ZyR := kE Zbq
theorem ZTc : execA E C (fg 9) B 190 E0 N ZyR s = some (.normal, s) := Zp (by rfl) s
theorem ZSl : XC 9 190 Zbq 133 Z9I ZyR := Zn (by rfl) _
theorem ZQv : XQ 9 190 Zb6 Zow Zbq := Z0 (by rfl) _
def Zav := kR Z9T
def Zox := kL Zav
def Z0r := kO Zox
def Zi5 := opN Z0r 0
def Zoj := opN Z0r 1
def ZmN := opN Z0r 2
def ZiD := opN Z0r 3
def Zo9 := opN Z0r 4
def Zit := opN Z0r 5
def Zis := opN Z0r 6
theorem ZTN : XG 9 190 Zox Z0r [133, 134, 135, 136, 137, 138] := Z2 (by rfl) (by rfl) _
theorem ZFW : Z0r.toList = [Zi5, Zoj, ZmN, ZiD, Zo9, Zit, Zis] := nf
theorem ZEI : stepA E C B 190 Z0r Zi5 (φ, H) = some (fput φ 135 (fget φ 17), H) := nf
theorem ZzD : stepA E C B 190 Z0r Zoj (φ, H) = stp (some 136) φ H (aCall C (fun j => B + j * 190 + 136) true 54 [(fget φ 135), (.int .i64 2)]) := nf
theorem ZEs : stepA E C B 190 Z0r ZmN (φ, H) = some (fput φ 134 (fget φ 136), H) := nf
theorem ZFN : stepA E C B 190 Z0r ZiD (φ, H) = stp (some 137) φ H (Zu (fget φ 134) 0) := nf
theorem ZC3 : stepA E C B 190 Z0r Zo9 (φ, H) = stp (some 138) φ H (Zu (fget φ 134) 1) := nf
theorem ZBt : stepA E C B 190 Z0r Zit (φ, H) = some (fput φ 18 (fget φ 137), H) := nf
theorem ZJl : stepA E C B 190 Z0r Zis (φ, H) = some (fput φ 9 (fget φ 138), H) := nf
def Za0 := kR Zav
def Z9M := kL Za0
def ZoQ := kL Z9M
def Z2S := kO ZoQ
def Zhh := opN Z2S 0
def ZkU := opN Z2S 1
def ZkB := opN Z2S 2
theorem ZQJ : XG 9 190 ZoQ Z2S [7] := Z2 (by rfl) (by rfl) _
theorem ZD1 : Z2S.toList = [Zhh, ZkU, ZkB] := nf
theorem ZHv : stepA E C B 190 Z2S Zhh (φ, H) = some (fput φ 139 (fget φ 7), H) := nf
theorem ZzN : stepA E C B 190 Z2S ZkU (φ, H) = stp (some 140) φ H (Z1 E.T (B + 140) .len #[39] [(fget φ 139)]) := nf
theorem ZEE : stepA E C B 190 Z2S ZkB (φ, H) = some (fput φ 141 (.int .i64 0), H) := nf
def Zpb := kR Z9M
def ZoA := kB Zpb
def Z3v := kB ZoA
def Zq8 := kL Z3v
def Z9V := kO Zq8
def ZjV := opN Z9V 0
theorem ZQ2 : XG 9 190 Zq8 Z9V [] := Z2 (by rfl) (by rfl) _
theorem ZE3 : Z9V.toList = [ZjV] := nf
theorem ZFX : stepA E C B 190 Z9V ZjV (φ, H) = stp (some 142) φ H (just (aBin E.T .lss 3 (fget φ 141) (fget φ 140))) := nf
def Za6 := kR Z3v
def Zbk := kL Za6
def ZyX := kT Zbk
theorem ZTl : execA E C (fg 9) B 190 E0 N ZyX s = some (.normal, s) := Zp (by rfl) s
def ZyU := kE Zbk
theorem ZQt : execA E C (fg 9) B 190 E0 N ZyU s = some (.exit 0, s) := Z07 (by rfl) s
theorem ZSY : XC 9 190 Zbk 142 ZyX ZyU := Zn (by rfl) _
def Za4 := kR Za6
def Zq4 := kL Za4
def Zar := kB Zq4
def Zp4 := kL Zar
def Z2R := kO Zp4
def Zmp := opN Z2R 0
def Zms := opN Z2R 1
def ZjQ := opN Z2R 2
theorem ZQH : XG 9 190 Zp4 Z2R [142, 143, 144] := Z2 (by rfl) (by rfl) _
theorem ZGa : Z2R.toList = [Zmp, Zms, ZjQ] := nf
theorem ZFv : stepA E C B 190 Z2R Zmp (φ, H) = stp (some 143) φ H (just (Z4 E.T 39 (fget φ 139) (fget φ 141))) := nf
theorem ZFt : stepA E C B 190 Z2R Zms (φ, H) = stp (some 144) φ H (just (aLoad E.T 22 (fget φ 143))) := nf
theorem ZGT : stepA E C B 190 Z2R ZjQ (φ, H) = some (fput φ 20 (fget φ 144), H) := nf
def Zb0 := kR Zar
def Zqg := kL Zb0
def Z0p := kO Zqg
def ZiY := opN Z0p 0
def Zn2 := opN Z0p 1
def ZnT := opN Z0p 2
def Zi4 := opN Z0p 3
def ZjD := opN Z0p 4
def Zi7 := opN Z0p 5
def Zj5 := opN Z0p 6
theorem ZQY : XG 9 190 Zqg Z0p [145, 146, 147, 148, 149] := Z2 (by rfl) (by rfl) _
theorem ZGI : Z0p.toList = [ZiY, Zn2, ZnT, Zi4, ZjD, Zi7, Zj5] := nf
theorem ZHF : stepA E C B 190 Z0p ZiY (φ, H) = some (fput φ 146 (fget φ 20), H) := nf
theorem ZIl : stepA E C B 190 Z0p Zn2 (φ, H) = stp (some 147) φ H (aCall C (fun j => B + j * 190 + 147) true 54 [(fget φ 146), (.int .i64 2)]) := nf
theorem ZI7 : stepA E C B 190 Z0p ZnT (φ, H) = some (fput φ 145 (fget φ 147), H) := nf
theorem ZIS : stepA E C B 190 Z0p Zi4 (φ, H) = stp (some 148) φ H (Zu (fget φ 145) 0) := nf
theorem ZHO : stepA E C B 190 Z0p ZjD (φ, H) = stp (some 149) φ H (Zu (fget φ 145) 1) := nf
theorem ZGt : stepA E C B 190 Z0p Zi7 (φ, H) = some (fput φ 21 (fget φ 148), H) := nf
theorem ZAA : stepA E C B 190 Z0p Zj5 (φ, H) = some (fput φ 22 (fget φ 149), H) := nf
def Z9L := kR Zb0
def ZpT := kL Z9L
def ZaY := kO ZpT
def Zid := opN ZaY 0
theorem ZT6 : XG 9 190 ZpT ZaY [] := Z2 (by rfl) (by rfl) _
theorem ZEp : ZaY.toList = [Zid] := nf
theorem ZC2 : stepA E C B 190 ZaY Zid (φ, H) = some (fput φ 23 (.int .i64 0), H) := nf
def ZbH := kR Z9L
def ZaK := kL ZbH
def ZoO := kL ZaK
def Z2y := kO ZoO
def Znm := opN Z2y 0
def Zlz := opN Z2y 1
def Zmy := opN Z2y 2
theorem ZS1 : XG 9 190 ZoO Z2y [] := Z2 (by rfl) (by rfl) _
theorem ZHW : Z2y.toList = [Znm, Zlz, Zmy] := nf
theorem ZGN : stepA E C B 190 Z2y Znm (φ, H) = some (fput φ 150 (fget φ 20), H) := nf
theorem ZAI : stepA E C B 190 Z2y Zlz (φ, H) = stp (some 151) φ H (Z1 E.T (B + 151) .len #[22] [(fget φ 150)]) := nf
theorem ZEN : stepA E C B 190 Z2y Zmy (φ, H) = some (fput φ 152 (.int .i64 0), H) := nf
def ZoE := kR ZaK
def Zpt := kB ZoE
def Z4o := kB Zpt
def Zpd := kL Z4o
def Zao := kO Zpd
def Zok := opN Zao 0
theorem ZTz : XG 9 190 Zpd Zao [] := Z2 (by rfl) (by rfl) _
theorem ZF1 : Zao.toList = [Zok] := nf
theorem ZBd : stepA E C B 190 Zao Zok (φ, H) = stp (some 153) φ H (just (aBin E.T .lss 3 (fget φ 152) (fget φ 151))) := nf
def Zb9 := kR Z4o
def Zbe := kL Zb9
def Zzd := kT Zbe
theorem ZRw : execA E C (fg 9) B 190 E0 N Zzd s = some (.normal, s) := Zp (by rfl) s
def ZyQ := kE Zbe
theorem ZRE : execA E C (fg 9) B 190 E0 N ZyQ s = some (.exit 2, s) := Z07 (by rfl) s
theorem ZUk : XC 9 190 Zbe 153 Zzd ZyQ := Zn (by rfl) _
def ZbC := kR Zb9
def ZoC := kL ZbC
def Zb4 := kB ZoC
def Zqj := kL Zb4
def Z2I := kO Zqj
def Zl7 := opN Z2I 0
def Zlh := opN Z2I 1
def Zm5 := opN Z2I 2
theorem ZTp : XG 9 190 Zqj Z2I [153, 154, 155] := Z2 (by rfl) (by rfl) _
theorem ZHX : Z2I.toList = [Zl7, Zlh, Zm5] := nf
theorem ZD2 : stepA E C B 190 Z2I Zl7 (φ, H) = stp (some 154) φ H (just (Z4 E.T 22 (fget φ 150) (fget φ 152))) := nf
theorem Zzy : stepA E C B 190 Z2I Zlh (φ, H) = stp (some 155) φ H (just (aLoad E.T 3 (fget φ 154))) := nf
theorem ZBq : stepA E C B 190 Z2I Zm5 (φ, H) = some (fput φ 25 (fget φ 155), H) := nf
def Zos := kR Zb4
def Z0I := kO Zos
def ZjJ := opN Z0I 0
def Zie := opN Z0I 1
def ZnP := opN Z0I 2
def Zjg := opN Z0I 3
def ZhR := opN Z0I 4
def Znp := opN Z0I 5
theorem ZSc : XG 9 190 Zos Z0I [25, 156, 157, 158, 159, 160] := Z2 (by rfl) (by rfl) _
theorem ZEm : Z0I.toList = [ZjJ, Zie, ZnP, Zjg, ZhR, Znp] := nf
theorem ZD3 : stepA E C B 190 Z0I ZjJ (φ, H) = some (fput φ 156 (fget φ 23), H) := nf
theorem ZIj : stepA E C B 190 Z0I Zie (φ, H) = some (fput φ 157 (fget φ 25), H) := nf
theorem ZCV : stepA E C B 190 Z0I ZnP (φ, H) = some (fput φ 158 (fget φ 25), H) := nf
theorem ZFE : stepA E C B 190 Z0I Zjg (φ, H) = stp (some 159) φ H (just (aBin E.T .mul 3 (fget φ 157) (fget φ 158))) := nf
theorem ZGw : stepA E C B 190 Z0I ZhR (φ, H) = stp (some 160) φ H (just (aBin E.T .add 3 (fget φ 156) (fget φ 159))) := nf
theorem ZCT : stepA E C B 190 Z0I Znp (φ, H) = some (fput φ 23 (fget φ 160), H) := nf
theorem ZTn : XQ 9 190 Zb4 Zqj Zos := Z0 (by rfl) _
theorem ZT7 : execA E C (fg 9) B 190 E0 N ZoC s = blockX 3 (fun s => (forget s.1 [], s.2)) (execA E C (fg 9) B 190 E0 N Zb4 s) := Zk (by rfl) (by rfl) s
def ZoI := kR ZbC
def Z4D := kO ZoI
def Ziy := opN Z4D 0
def ZlX := opN Z4D 1
theorem ZSW : XG 9 190 ZoI Z4D [161] := Z2 (by rfl) (by rfl) _
theorem ZGU : Z4D.toList = [Ziy, ZlX] := nf
theorem ZJm : stepA E C B 190 Z4D Ziy (φ, H) = stp (some 161) φ H (just (aBin E.T .add 3 (fget φ 152) (.int .i64 1))) := nf
theorem ZAS : stepA E C B 190 Z4D ZlX (φ, H) = some (fput φ 152 (fget φ 161), H) := nf
theorem ZPN : XQ 9 190 ZbC ZoC ZoI := Z0 (by rfl) _
theorem ZTx : XQ 9 190 Zb9 Zbe ZbC := Z0 (by rfl) _
theorem ZTA : XQ 9 190 Z4o Zpd Zb9 := Z0 (by rfl) _
theorem ZSg : execA E C (fg 9) B 190 E0 N Zpt s = iterA (execA E C (fg 9) B 190 E0 N Z4o) (headA E0) N s := Z0a (by rfl) s
theorem ZU8 : execA E C (fg 9) B 190 E0 N ZoE s = blockX 2 (fun s => (forget s.1 [150, 151, 152, 153], s.2)) (execA E C (fg 9) B 190 E0 N Zpt s) := Zk (by rfl) (by rfl) s
theorem ZQd : XQ 9 190 ZaK ZoO ZoE := Z0 (by rfl) _
def Zbo := kR ZbH
def Zp3 := kL Zbo
def Zf := kO Zp3
def ZiM := opN Zf 0
def ZmS := opN Zf 1
def Z51 := opN Zf 2
def ZiA := opN Zf 3
def ZlU := opN Zf 4
def ZjK := opN Zf 5
def Z3p := opN Zf 6
def ZjZ := opN Zf 7
def ZjX := opN Zf 8
def Zmz := opN Zf 9
def Zcv := opN Zf 10
def Z1s := opN Zf 11
def Zca := opN Zf 12
def Zgg := opN Zf 13
def Zg9 := opN Zf 14
def ZbL := opN Zf 15
def Zdv := opN Zf 16
def Z0w := opN Zf 17
def ZfW := opN Zf 18
def ZfE := opN Zf 19
def ZdN := opN Zf 20
def ZeN := opN Zf 21
def Zc4 := opN Zf 22
def ZeC := opN Zf 23
def Zet := opN Zf 24
def Ze3 := opN Zf 25
theorem ZQG : XG 9 190 Zp3 Zf [20, 21, 22, 23, 162, 163, 164, 165, 166, 167, 168, 169, 170, 171, 172, 173, 174, 175, 176, 177, 178, 179, 180, 181, 182, 183, 184, 185, 186] := Z2 (by rfl) (by rfl) _
theorem ZHg : Zf.toList = [ZiM, ZmS, Z51, ZiA, ZlU, ZjK, Z3p, ZjZ, ZjX, Zmz, Zcv, Z1s, Zca, Zgg, Zg9, ZbL, Zdv, Z0w, ZfW, ZfE, ZdN, ZeN, Zc4, ZeC, Zet, Ze3] := nf
theorem ZBw : stepA E C B 190 Zf ZiM (φ, H) = some (fput φ 162 (fget φ 9), H) := nf
theorem ZAX : stepA E C B 190 Zf ZmS (φ, H) = stp (some 163) φ H (just (aBin E.T .neq 24 (fget φ 162) (.int .i64 0))) := nf
theorem ZIC : stepA E C B 190 Zf Z51 (φ, H) = some (fput φ 164 (fget φ 163), H) := nf
theorem ZEv : stepA E C B 190 Zf ZiA (φ, H) = gd φ 164 false (fun φ => some (fput φ 165 (.tup []), H)) (fun φ => some (fput φ 165 (fget φ 22), H)) := s_gd (j := 2) (oj := Z51) rfl rfl rfl (fun _ => rfl) (fun _ => rfl)
theorem ZAF : stepA E C B 190 Zf ZlU (φ, H) = gd φ 164 false (fun φ => some (fput φ 166 (.tup []), H)) (fun φ => stp (some 166) φ H (just (aBin E.T .neq 24 (fget φ 165) (.int .i64 0)))) := s_gd (j := 2) (oj := Z51) rfl rfl rfl (fun _ => rfl) (fun _ => rfl)
theorem ZJ0 : stepA E C B 190 Zf ZjK (φ, H) = stp (some 167) φ H (opPick (fget φ 164) (.bool true) (fget φ 166)) := nf
theorem ZCY : stepA E C B 190 Zf Z3p (φ, H) = some (fput φ 168 (fget φ 167), H) := nf
theorem ZEg : stepA E C B 190 Zf ZjZ (φ, H) = gd φ 168 false (fun φ => some (fput φ 169 (.tup []), H)) (fun φ => some (fput φ 169 (fget φ 21), H)) := s_gd (j := 6) (oj := Z3p) rfl rfl rfl (fun _ => rfl) (fun _ => rfl)
theorem ZBg : stepA E C B 190 Zf ZjX (φ, H) = gd φ 168 false (fun φ => some (fput φ 170 (.tup []), H)) (fun φ => some (fput φ 170 (fget φ 23), H)) := s_gd (j := 6) (oj := Z3p) rfl rfl rfl (fun _ => rfl) (fun _ => rfl)
theorem ZEk : stepA E C B 190 Zf Zmz (φ, H) = gd φ 168 false (fun φ => some (fput φ 171 (.tup []), H)) (fun φ => stp (some 171) φ H (just (aBin E.T .neq 3 (fget φ 169) (fget φ 170)))) := s_gd (j := 6) (oj := Z3p) rfl rfl rfl (fun _ => rfl) (fun _ => rfl)
theorem Zwf : stepA E C B 190 Zf Zcv (φ, H) = stp (some 172) φ H (opPick (fget φ 168) (.bool true) (fget φ 171)) := nf
theorem Zv4 : stepA E C B 190 Zf Z1s (φ, H) = some (fput φ 173 (fget φ 172), H) := nf
theorem ZvP : stepA E C B 190 Zf Zca (φ, H) = gd φ 173 false (fun φ => some (fput φ 174 (.tup []), H)) (fun φ => some (fput φ 174 (fget φ 20), H)) := s_gd (j := 11) (oj := Z1s) rfl rfl rfl (fun _ => rfl) (fun _ => rfl)
theorem ZyA : stepA E C B 190 Zf Zgg (φ, H) = gd φ 173 false (fun φ => some (fput φ 175 (.tup []), H)) (fun φ => some (fput φ 175 (fget φ 17), H)) := s_gd (j := 11) (oj := Z1s) rfl rfl rfl (fun _ => rfl) (fun _ => rfl)
theorem Zuo : stepA E C B 190 Zf Zg9 (φ, H) = gd φ 173 false (fun φ => some (fput φ 176 (.tup []), H)) (fun φ => stp (some 176) φ H (aCall C (fun j => B + j * 190 + 176) true 62 [(fget φ 174), (fget φ 175)])) := s_gd (j := 11) (oj := Z1s) rfl rfl rfl (fun _ => rfl) (fun _ => rfl)
theorem ZwR : stepA E C B 190 Zf ZbL (φ, H) = gd φ 173 false (fun φ => some (fput φ 177 (.tup []), H)) (fun φ => stp (some 177) φ H (justO (aUn .not (fget φ 176)))) := s_gd (j := 11) (oj := Z1s) rfl rfl rfl (fun _ => rfl) (fun _ => rfl)
theorem Zu8 : stepA E C B 190 Zf Zdv (φ, H) = stp (some 178) φ H (opPick (fget φ 173) (.bool true) (fget φ 177)) := nf
theorem Zyb : stepA E C B 190 Zf Z0w (φ, H) = some (fput φ 179 (fget φ 178), H) := nf
theorem Zxy : stepA E C B 190 Zf ZfW (φ, H) = gd φ 179 false (fun φ => some (fput φ 180 (.tup []), H)) (fun φ => some (fput φ 180 (fget φ 21), H)) := s_gd (j := 17) (oj := Z0w) rfl rfl rfl (fun _ => rfl) (fun _ => rfl)
theorem ZxI : stepA E C B 190 Zf ZfE (φ, H) = gd φ 179 false (fun φ => some (fput φ 181 (.tup []), H)) (fun φ => some (fput φ 181 (fget φ 18), H)) := s_gd (j := 17) (oj := Z0w) rfl rfl rfl (fun _ => rfl) (fun _ => rfl)
theorem Zxq : stepA E C B 190 Zf ZdN (φ, H) = gd φ 179 false (fun φ => some (fput φ 182 (.tup []), H)) (fun φ => stp (some 182) φ H (just (aBin E.T .leq 3 (fget φ 180) (fget φ 181)))) := s_gd (j := 17) (oj := Z0w) rfl rfl rfl (fun _ => rfl) (fun _ => rfl)
theorem Zxs : stepA E C B 190 Zf ZeN (φ, H) = gd φ 179 false (fun φ => some (fput φ 183 (.tup []), H)) (fun φ => some (fput φ 183 (fget φ 20), H)) := s_gd (j := 17) (oj := Z0w) rfl rfl rfl (fun _ => rfl) (fun _ => rfl)
theorem Zy8 : stepA E C B 190 Zf Zc4 (φ, H) = gd φ 179 false (fun φ => some (fput φ 184 (.tup []), H)) (fun φ => some (fput φ 184 (fget φ 17), H)) := s_gd (j := 17) (oj := Z0w) rfl rfl rfl (fun _ => rfl) (fun _ => rfl)
theorem ZwP : stepA E C B 190 Zf ZeC (φ, H) = gd φ 179 false (fun φ => some (fput φ 185 (.tup []), H)) (fun φ => stp (some 185) φ H (aCall C (fun j => B + j * 190 + 185) true 24 [(fget φ 183), (fget φ 184)])) := s_gd (j := 17) (oj := Z0w) rfl rfl rfl (fun _ => rfl) (fun _ => rfl)
theorem ZvL : stepA E C B 190 Zf Zet (φ, H) = gd φ 179 false (fun φ => some (fput φ 186 (.tup []), H)) (fun φ => stp (some 186) φ H (just (aBin E.T .neq 4 (fget φ 182) (fget φ 185)))) := s_gd (j := 17) (oj := Z0w) rfl rfl rfl (fun _ => rfl) (fun _ => rfl)
theorem Zxp : stepA E C B 190 Zf Ze3 (φ, H) = stp (some 187) φ H (opPick (fget φ 179) (.bool true) (fget φ 186)) := nf
def Zbg := kR Zbo
def ZbA := kT Zbg
def Zpj := kL ZbA
def Zbn := kO Zpj
def Zht := opN Zbn 0
theorem ZUu : XG 9 190 Zpj Zbn [9, 17, 18, 139, 140, 141, 187] := Z2 (by rfl) (by rfl) _
theorem ZCc : Zbn.toList = [Zht] := nf
theorem ZIx : stepA E C B 190 Zbn Zht (φ, H) = some (fput φ 4 (.bool false), H) := nf
def Zz4 := kR ZbA
theorem ZSu : execA E C (fg 9) B 190 E0 N Zz4 s = some (.ret, s) := Zs (by rfl) s
theorem ZU7 : XQ 9 190 ZbA Zpj Zz4 := Z0 (by rfl) _
def Zzf := kE Zbg
theorem ZUb : execA E C (fg 9) B 190 E0 N Zzf s = some (.normal, s) := Zp (by rfl) s
theorem ZSU : XC 9 190 Zbg 187 ZbA Zzf := Zn (by rfl) _
theorem ZTB : XQ 9 190 Zbo Zp3 Zbg := Z0 (by rfl) _
theorem ZQ8 : XQ 9 190 ZbH ZaK Zbo := Z0 (by rfl) _
theorem ZR9 : XQ 9 190 Z9L ZpT ZbH := Z0 (by rfl) _
theorem ZRt : XQ 9 190 Zb0 Zqg Z9L := Z0 (by rfl) _
theorem ZSX : XQ 9 190 Zar Zp4 Zb0 := Z0 (by rfl) _
theorem ZSn : execA E C (fg 9) B 190 E0 N Zq4 s = blockX 1 (fun s => (forget s.1 [187], s.2)) (execA E C (fg 9) B 190 E0 N Zar s) := Zk (by rfl) (by rfl) s
def Zp9 := kR Za4
def Z56 := kO Zp9
def ZlV := opN Z56 0
def ZiT := opN Z56 1
theorem ZT2 : XG 9 190 Zp9 Z56 [188] := Z2 (by rfl) (by rfl) _
theorem ZzE : Z56.toList = [ZlV, ZiT] := nf
theorem Zzv : stepA E C B 190 Z56 ZlV (φ, H) = stp (some 188) φ H (just (aBin E.T .add 3 (fget φ 141) (.int .i64 1))) := nf
theorem ZDw : stepA E C B 190 Z56 ZiT (φ, H) = some (fput φ 141 (fget φ 188), H) := nf
theorem ZUi : XQ 9 190 Za4 Zq4 Zp9 := Z0 (by rfl) _
theorem ZPW : XQ 9 190 Za6 Zbk Za4 := Z0 (by rfl) _
theorem ZR1 : XQ 9 190 Z3v Zq8 Za6 := Z0 (by rfl) _
theorem ZPR : execA E C (fg 9) B 190 E0 N ZoA s = iterA (execA E C (fg 9) B 190 E0 N Z3v) (headA E0) N s := Z0a (by rfl) s
theorem ZU6 : execA E C (fg 9) B 190 E0 N Zpb s = blockX 0 (fun s => (forget s.1 [9, 17, 18, 139, 140, 141, 142], s.2)) (execA E C (fg 9) B 190 E0 N ZoA s) := Zk (by rfl) (by rfl) s
theorem ZTJ : XQ 9 190 Z9M ZoQ Zpb := Z0 (by rfl) _
def ZbG := kR Za0
def Zpx := kL ZbG
def Z4O := kO Zpx
def Zl2 := opN Z4O 0
def ZnC := opN Z4O 1
theorem ZQf : XG 9 190 Zpx Z4O [189] := Z2 (by rfl) (by rfl) _
theorem ZD5 : Z4O.toList = [Zl2, ZnC] := nf
theorem ZIm : stepA E C B 190 Z4O Zl2 (φ, H) = stp (some 189) φ H (aCall C (fun j => B + j * 190 + 189) true 17 []) := nf
theorem ZDY : stepA E C B 190 Z4O ZnC (φ, H) = some (fput φ 4 (fget φ 189), H) := nf
def ZyV := kR ZbG
theorem ZTr : execA E C (fg 9) B 190 E0 N ZyV s = some (.ret, s) := Zs (by rfl) s
theorem ZQg : XQ 9 190 ZbG Zpx ZyV := Z0 (by rfl) _
theorem ZRd : XQ 9 190 Za0 Z9M ZbG := Z0 (by rfl) _
theorem ZRf : XQ 9 190 Zav Zox Za0 := Z0 (by rfl) _
theorem ZSH : XQ 9 190 Z9T Zb6 Zav := Z0 (by rfl) _
theorem ZUs : XQ 9 190 Z9Y ZoD Z9T := Z0 (by rfl) _
theorem ZTR : XQ 9 190 Zah ZaJ Z9Y := Z0 (by rfl) _
theorem ZUn : XQ 9 190 Zaf ZpY Zah := Z0 (by rfl) _
theorem ZPV : XQ 9 190 ZbI ZpI Zaf := Z0 (by rfl) _
theorem ZTv : XQ 9 190 Z9N Zq6 ZbI := Z0 (by rfl) _
theorem ZQx : XQ 9 190 Z9D ZpN Z9N := Z0 (by rfl) _
theorem x9_8 : XQ 9 190 c9_8 c9_9 Z9D := Z0 (by rfl) _
theorem x9_6 : XQ 9 190 c9_6 c9_7 c9_8 := Z0 (by rfl) _
theorem x9_4 : XQ 9 190 c9_4 c9_5 c9_6 := Z0 (by rfl) _
theorem x9_2 : XQ 9 190 c9_2 c9_3 c9_4 := Z0 (by rfl) _
theorem x9_0 : XQ 9 190 c9_0 c9_1 c9_2 := Z0 (by rfl) _
theorem fi_9 : fInfo E 9 = some ⟨190, #[.tmp 4], c9_0⟩ := nf
theorem b_9 (args : List AV) : bodyA E C fg N 9 args H B = bodyX E [.tmp 4] (execA E C (fg 9) B 190 H N c9_0 (Z3 args 0 [], H)) := Zw fi_9 args H
abbrev F_9 := And.intro (And.intro (And.intro (And.intro (And.intro (And.intro (And.intro (And.intro @x9_1 @ZJt) (And.intro @ZOP @x9_3)) (And.intro (And.intro @ZOe @ZPF) (And.intro @ZLp (And.intro @ZLr @ZMp)))) (And.intro (And.intro (And.intro @ZKx @x9_5) (And.intro @ZKX (And.intro @ZMM @ZMS))) (And.intro (And.intro @ZJX @ZMC) (And.intro @ZNR (And.intro @ZKI @ZNT))))) (And.intro (And.intro (And.intro (And.intro @x9_7 @ZMt) (And.intro @ZM5 @ZMN)) (And.intro (And.intro @ZOU @ZOA) (And.intro @x9_9 (And.intro @ZMT @ZLl)))) (And.intro (And.intro (And.intro @ZPC @ZNa) (And.intro @ZLC (And.intro @ZPM @ZMa))) (And.intro (And.intro @ZNw @ZK5) (And.intro @ZTM (And.intro @ZKc @ZNH)))))) (And.intro (And.intro (And.intro (And.intro (And.intro @ZP7 @ZN5) (And.intro @ZMw @ZJu)) (And.intro (And.intro @ZML @ZNx) (And.intro @ZLB (And.intro @ZJI @ZKN)))) (And.intro (And.intro (And.intro @ZRs @ZPG) (And.intro @ZMB (And.intro @ZPD @ZOa))) (And.intro (And.intro @ZMr @ZK7) (And.intro @ZO3 (And.intro @ZUC @ZMZ))))) (And.intro (And.intro (And.intro (And.intro @ZMO @ZPw) (And.intro @ZKb (And.intro @ZP9 @ZRy))) (And.intro (And.intro @ZMV @ZMy) (And.intro @ZJE (And.intro @ZN4 @ZJY)))) (And.intro (And.intro (And.intro @ZMk @ZLg) (And.intro @ZJw (And.intro @ZR2 @ZNz))) (And.intro (And.intro @ZP1 @ZNk) (And.intro @ZNm (And.intro @ZMz @ZLL))))))) (And.intro (And.intro (And.intro (And.intro (And.intro (And.intro @ZPu @ZMb) (And.intro @ZLX @ZKa)) (And.intro (And.intro @ZNX @Zzp) (And.intro @ZAf (And.intro @ZAt @ZDK)))) (And.intro (And.intro (And.intro @ZAT @ZAZ) (And.intro @ZzW (And.intro @ZE2 @ZHm))) (And.intro (And.intro @ZIw @ZES) (And.intro @ZHz (And.intro @ZA4 @ZGn))))) (And.intro (And.intro (And.intro (And.intro @ZCK @ZD9) (And.intro @ZRH (And.intro @ZDs @ZJd))) (And.intro (And.intro @ZRD @ZQz) (And.intro @ZT1 (And.intro @ZS7 @ZRM)))) (And.intro (And.intro (And.intro @ZPO @ZIu) (And.intro @ZH2 (And.intro @Zzs @ZEd))) (And.intro (And.intro @ZI3 @ZFO) (And.intro @ZGs (And.intro @ZIA @ZGX)))))) (And.intro (And.intro (And.intro (And.intro (And.intro @ZAW @ZCz) (And.intro @ZvK @Zyy)) (And.intro (And.intro @ZuH @Zvv) (And.intro @ZQn (And.intro @ZCf @Zvg)))) (And.intro (And.intro (And.intro @Zxw @ZEW) (And.intro @ZEA (And.intro @ZBV @ZFQ))) (And.intro (And.intro @ZEx @ZH3) (And.intro @ZG5 (And.intro @ZGu @ZAk))))) (And.intro (And.intro (And.intro (And.intro @ZFu @ZuM) (And.intro @ZyF (And.intro @ZxA @Zyt))) (And.intro (And.intro @ZuZ @Zvt) (And.intro @ZxX (And.intro @Zui @Zwb)))) (And.intro (And.intro (And.intro @ZxT @Zxc) (And.intro @Zx1 (And.intro @Zwj @ZwZ))) (And.intro (And.intro @ZuO @ZyG) (And.intro @ZuL (And.intro @Zw9 @ZxS)))))))) (And.intro (And.intro (And.intro (And.intro (And.intro (And.intro (And.intro @Zw0 @Zvb) (And.intro @ZQU @ZBm)) (And.intro (And.intro @ZGF @ZUc) (And.intro @ZRG (And.intro @ZTc @ZSl)))) (And.intro (And.intro (And.intro @ZQv @ZTN) (And.intro @ZFW (And.intro @ZEI @ZzD))) (And.intro (And.intro @ZEs @ZFN) (And.intro @ZC3 (And.intro @ZBt @ZJl))))) (And.intro (And.intro (And.intro (And.intro @ZQJ @ZD1) (And.intro @ZHv @ZzN)) (And.intro (And.intro @ZEE @ZQ2) (And.intro @ZE3 (And.intro @ZFX @ZTl)))) (And.intro (And.intro (And.intro @ZQt @ZSY) (And.intro @ZQH (And.intro @ZGa @ZFv))) (And.intro (And.intro @ZFt @ZGT) (And.intro @ZQY (And.intro @ZGI @ZHF)))))) (And.intro (And.intro (And.intro (And.intro (And.intro @ZIl @ZI7) (And.intro @ZIS @ZHO)) (And.intro (And.intro @ZGt @ZAA) (And.intro @ZT6 (And.intro @ZEp @ZC2)))) (And.intro (And.intro (And.intro @ZS1 @ZHW) (And.intro @ZGN (And.intro @ZAI @ZEN))) (And.intro (And.intro @ZTz @ZF1) (And.intro @ZBd (And.intro @ZRw @ZRE))))) (And.intro (And.intro (And.intro (And.intro @ZUk @ZTp) (And.intro @ZHX (And.intro @ZD2 @Zzy))) (And.intro (And.intro @ZBq @ZSc) (And.intro @ZEm (And.intro @ZD3 @ZIj)))) (And.intro (And.intro (And.intro @ZCV @ZFE) (And.intro @ZGw (And.intro @ZCT @ZTn))) (And.intro (And.intro @ZT7 @ZSW) (And.intro @ZGU (And.intro @ZJm @ZAS))))))) (And.intro (And.intro (And.intro (And.intro (And.intro (And.intro @ZPN @ZTx) (And.intro @ZTA @ZSg)) (And.intro (And.intro @ZU8 @ZQd) (And.intro @ZQG (And.intro @ZHg @ZBw)))) (And.intro (And.intro (And.intro @ZAX @ZIC) (And.intro @ZEv (And.intro @ZAF @ZJ0))) (And.intro (And.intro @ZCY @ZEg) (And.intro @ZBg (And.intro @ZEk @Zwf))))) (And.intro (And.intro (And.intro (And.intro @Zv4 @ZvP) (And.intro @ZyA (And.intro @Zuo @ZwR))) (And.intro (And.intro @Zu8 @Zyb) (And.intro @Zxy (And.intro @ZxI @Zxq)))) (And.intro (And.intro (And.intro @Zxs @Zy8) (And.intro @ZwP (And.intro @ZvL @Zxp))) (And.intro (And.intro @ZUu @ZCc) (And.intro @ZIx (And.intro @ZSu @ZU7)))))) (And.intro (And.intro (And.intro (And.intro (And.intro @ZUb @ZSU) (And.intro @ZTB @ZQ8)) (And.intro (And.intro @ZR9 @ZRt) (And.intro @ZSX (And.intro @ZSn @ZT2)))) (And.intro (And.intro (And.intro @ZzE @Zzv) (And.intro @ZDw (And.intro @ZUi @ZPW))) (And.intro (And.intro @ZR1 @ZPR) (And.intro @ZU6 (And.intro @ZTJ @ZQf))))) (And.intro (And.intro (And.intro (And.intro @ZD5 @ZIm) (And.intro @ZDY (And.intro @ZTr @ZQg))) (And.intro (And.intro @ZRd @ZRf) (And.intro @ZSH (And.intro @ZUs @ZTR)))) (And.intro (And.intro (And.intro @ZUn @ZPV) (And.intro @ZTv (And.intro @ZQx @x9_8))) (And.intro (And.intro @x9_6 @x9_4) (And.intro @x9_2 (And.intro @x9_0 @b_9))))))))
end Go.AM.Ytfmnoohhhokicaa
end
noncomputable section
namespace Go.AM.Ytfmnoohhhokicaa
open Go Go.AM Go.AM.Rub
abbrev rwK (i j k : Nat) : AV := .clo 105 [.ptr i 0 1, .ptr j 0 1, .ptr k 0 1]
abbrev rhA (l : List Int) (n : Nat) : AHeap := [(0, ⟨.row, ics l⟩), (1, ⟨.box, [.int .i64 n]⟩), (2, ⟨.box, [.nilsl]⟩), (3, ⟨.box, [rwK 1 2 3]⟩)]
abbrev rhB (l : List Int) (n : Nat) (L : List (List Int)) : AHeap := [(0, ⟨.row, ics l⟩), (1, ⟨.box, [.int .i64 n]⟩), (2, ⟨.box, [.ref 3 0 L.length L.length L.length 1 false]⟩), (3, ⟨.row, lcs L⟩), (4, ⟨.box, [rwK 1 2 4]⟩)]
structure RoA (l : List Int) (n : Nat) (new : List (List Int)) (H : AHeap) (id : Nat) (st : BS) : Prop where
 h0 : hget H 0 = some ⟨st, ics l⟩
 st : st = .row ∨ st = .froz
 h1 : hget H 1 = some ⟨.box, [.int .i64 n]⟩
 h2 : hget H 2 = some ⟨.box, [oV id 1 new.length]⟩
 h3 : hget H 3 = some ⟨.box, [rwK 1 2 3]⟩
 id4 : 4 ≤ id
 hr : 0 < new.length → hget H id = some ⟨.row, lcs new⟩
structure RoB (l : List Int) (n : Nat) (L : List (List Int)) (H : AHeap) (st : BS) : Prop where
 h0 : hget H 0 = some ⟨st, ics l⟩
 st : st = .row ∨ st = .froz
 h1 : hget H 1 = some ⟨.box, [.int .i64 n]⟩
 h2 : hget H 2 = some ⟨.box, [.ref 3 0 L.length L.length L.length 1 false]⟩
 h3 : hget H 3 = some ⟨.row, lcs L⟩
 h4 : hget H 4 = some ⟨.box, [rwK 1 2 4]⟩
structure RoC (d : Nat) (l : List Int) (n k m : Nat) (left most : Int) : Prop where
 a : ∃ H id st, pF d 105 [.ref 0 0 k k k 1 false, .int .i64 left, .int .i64 most, .ptr 1 0 1, .ptr 2 0 1, .ptr 3 0 1] (rhA l n) 64 = some (.tup [], H) ∧ RoA l n (fuR l m left most) H id st
 b : ∀ L : List (List Int), 0 < L.length → L.length + 9 ^ m ≤ 900000 → ∃ H st, pF d 105 [.ref 0 0 k k k 1 false, .int .i64 left, .int .i64 most, .ptr 1 0 1, .ptr 2 0 1, .ptr 4 0 1] (rhB l n L) 64 = some (.tup [], H) ∧ RoB l n (L ++ fuR l m left most) H st
theorem newsA {l : List Int} {n : Nat} {new : List (List Int)} {H : AHeap} {id : Nat} {st : BS} (h : RoA l n new H id st) : newsF H (.tup []) 4 = if new = [] then [] else [id] := by
 obtain ⟨h0, hs, h1, h2, h3, h4, hr⟩ := h
 have e : refsOf (.tup []) ++ List.range 4 = [0, 1, 2, 3] := rfl
 unfold newsF
 rw [e]
 cases hn : new with
 | nil =>
   subst hn
   rw [if_pos rfl]
   have hv : oV id 1 ([] : List (List Int)).length = .nilsl := rfl
   rw [hv] at h2
   rcases hs with rfl | rfl <;> simp [mark, h0, h1, h2, h3, refsL, refsOf]
 | cons x xs =>
   rw [← hn]
   have hp : 0 < new.length := by rw [hn]; simp
   rw [if_neg (by rw [hn]; simp)]
   rw [ZR hp] at h2
   have hr := hr hp
   have c0 : (id == 0) = false := by rw [beq_eq_false_iff_ne]; omega
   have c1 : (id == 1) = false := by rw [beq_eq_false_iff_ne]; omega
   have c2 : (id == 2) = false := by rw [beq_eq_false_iff_ne]; omega
   have c3 : (3 == id) = false := by rw [beq_eq_false_iff_ne]; omega
   have c4 : ¬ id < 4 := by omega
   have d0 : ¬ id = 0 := by omega
   have d1 : ¬ id = 1 := by omega
   have d2 : ¬ id = 2 := by omega
   have d3 : ¬ id = 3 := by omega
   have d3' : ¬ 3 = id := by omega
   have d2' : ¬ 2 = id := by omega
   have d1' : ¬ 1 = id := by omega
   rcases hs with rfl | rfl <;> simp [mark, h0, h1, h2, h3, hr, refsL, refsOf, d0, d1, d2, d1', d2', d3', h4]
theorem newsB {l : List Int} {n : Nat} {L : List (List Int)} {H : AHeap} {st : BS} (h : RoB l n L H st) : newsF H (.tup []) 5 = [] := by
 obtain ⟨h0, hs, h1, h2, h3, h4⟩ := h
 have e : refsOf (.tup []) ++ List.range 5 = [0, 1, 2, 3, 4] := rfl
 unfold newsF
 rw [e]
 rcases hs with rfl | rfl <;> simp [mark, h0, h1, h2, h3, h4, refsL, refsOf]
end Go.AM.Ytfmnoohhhokicaa
end
noncomputable section
namespace Go.AM.Ytfmnoohhhokicaa
open Go Go.AM Go.AM.Rub
noncomputable section
variable {d : Nat} {l l' : List Int} {n k m : Nat} {left most : Int} {c : List AV}
theorem Zqm (hC : RoC d l' n k m left most) (_ : l'.length = k) : ∃ st, kF d 105 [.ref 100 0 k k k 1 false, .int .i64 left, .int .i64 most, .ptr 1 0 1, .ptr 2 0 1, .ptr 3 0 1]
     [(0, ⟨.row, ics l⟩), (1, ⟨.box, [.int .i64 n]⟩), (2, ⟨.box, [.nilsl]⟩), (3, ⟨.box, [rwK 1 2 3]⟩), (99, ⟨.row, c⟩), (100, ⟨.row, ics l'⟩)] 400 =
   some (.tup [], (0, ⟨.row, ics l⟩) :: (1, ⟨.box, [.int .i64 n]⟩) :: (2, ⟨.box, [oV 400 1 (fuR l' m left most).length]⟩) :: (3, ⟨.box, [rwK 1 2 3]⟩) :: (99, ⟨.row, c⟩) :: (100, ⟨st, ics l'⟩) :: oH 400 (lcs (fuR l' m left most))) := by
 obtain ⟨H, id, st, hp, ro⟩ := hC.a
 refine ⟨st, ?_⟩
 rw [Z0b rfl]
 have hks : (mark [(0, ⟨.row, ics l⟩), (1, ⟨.box, [.int .i64 n]⟩), (2, ⟨.box, [.nilsl]⟩), (3, ⟨.box, [rwK 1 2 3]⟩), (99, ⟨.row, c⟩), (100, ⟨.row, ics l'⟩)] 1000 (refsL [.ref 100 0 k k k 1 false, .int .i64 left, .int .i64 most, .ptr 1 0 1, .ptr 2 0 1, .ptr 3 0 1]) []).reverse = [100, 1, 2, 3] := rfl
 have hap : AM.apart [100, 1, 2, 3] = true := rfl
 have e1 : renL (posF [100, 1, 2, 3] 0) [.ref 100 0 k k k 1 false, .int .i64 left, .int .i64 most, .ptr 1 0 1, .ptr 2 0 1, .ptr 3 0 1] = some [.ref 0 0 k k k 1 false, .int .i64 left, .int .i64 most, .ptr 1 0 1, .ptr 2 0 1, .ptr 3 0 1] := rfl
 have e2 : foc (posF [100, 1, 2, 3] 0) [(0, ⟨.row, ics l⟩), (1, ⟨.box, [.int .i64 n]⟩), (2, ⟨.box, [.nilsl]⟩), (3, ⟨.box, [rwK 1 2 3]⟩), (99, ⟨.row, c⟩), (100, ⟨.row, ics l'⟩)] 0 [100, 1, 2, 3] = some (rhA l' n) := rfl
 have hn := newsA ro
 obtain ⟨h0, hs, h1, h2, h3, h4, hr⟩ := ro
 have hlen : (ics l').length = (ics l').length := rfl
 have hl4 : ([100, 1, 2, 3] : List Nat).length = 4 := rfl
 have er : List.range 4 = [0, 1, 2, 3] := rfl
 rw [hks]
 unfold focus
 rw [if_pos hap]
 simp only [e1, e2, hp, backF, hl4, hn, er]
 rcases ocvL 400 (fuR l' m left most) with ⟨hn0, o1, o2⟩ | ⟨hp0, o1, o2⟩
 · rw [o1, o2]
   rw [hn0] at h2
   have hv : oV id 1 ([] : List (List Int)).length = .nilsl := rfl
   rw [hv] at h2
   rcases hs with rfl | rfl <;>
   simp only [hn0, if_true, List.length_nil, baseF, freeL, AM.apart, List.append_nil, ren, renL, unf, outF, posF, h0, h1, h2, h3, List.getElem?_cons_zero, List.getElem?_cons_succ, Nat.reduceLT, if_true, goodB, BS.open_, Bool.true_or, Bool.false_or, rhA, Zj, decide_true, Bool.and_self, renB, hl4, upds, Zi, Zl, Nat.reduceEqDiff, Nat.reduceLeDiff, if_false, Nat.reduceAdd, reduceCtorEq]
 · rw [o1, o2]
   rw [ZR hp0] at h2
   have hr := hr hp0
   have hne : ¬ fuR l' m left most = [] := fun e => by rw [e] at hp0; simp at hp0
   have c4 : ¬ id < 4 := by omega
   have hbase : baseF [(0, ⟨.row, ics l⟩), (1, ⟨.box, [.int .i64 n]⟩), (2, ⟨.box, [.nilsl]⟩), (3, ⟨.box, [rwK 1 2 3]⟩), (99, ⟨.row, c⟩), (100, ⟨.row, ics l'⟩)] 1 8 400 = some 400 := rfl
   rcases hs with rfl | rfl <;>
   simp only [hne, if_false, List.length_cons, List.length_nil, Nat.zero_add, hbase, AM.apart, List.elem_nil, Bool.not_false, Bool.and_self, if_true, List.cons_append, List.nil_append, ren, renL, unf, outF, posF, h0, h1, h2, h3, hr, c4, List.getElem?_cons_zero, List.getElem?_cons_succ, Nat.reduceLT, goodB, BS.open_, Bool.true_or, Bool.false_or, rhA, Zj, decide_true, renB, hl4, upds, Zi, Zl, Nat.reduceEqDiff, Nat.reduceLeDiff, Nat.add_zero, reduceCtorEq]
theorem ZsQ (hC : RoC d l' n k m left most) {L : List (List Int)} (h0 : 0 < L.length) (h8 : L.length + 9 ^ m ≤ 900000) : ∃ st, kF d 105 [.ref 100 0 k k k 1 false, .int .i64 left, .int .i64 most, .ptr 1 0 1, .ptr 2 0 1, .ptr 3 0 1]
     [(0, ⟨.row, ics l⟩), (1, ⟨.box, [.int .i64 n]⟩), (2, ⟨.box, [.ref 400 0 L.length L.length L.length 1 false]⟩), (3, ⟨.box, [rwK 1 2 3]⟩), (99, ⟨.row, c⟩), (100, ⟨.row, ics l'⟩), (400, ⟨.row, lcs L⟩)] 400 =
   some (.tup [], [(0, ⟨.row, ics l⟩), (1, ⟨.box, [.int .i64 n]⟩), (2, ⟨.box, [.ref 400 0 (L ++ fuR l' m left most).length (L ++ fuR l' m left most).length (L ++ fuR l' m left most).length 1 false]⟩), (3, ⟨.box, [rwK 1 2 3]⟩), (99, ⟨.row, c⟩), (100, ⟨st, ics l'⟩), (400, ⟨.row, lcs (L ++ fuR l' m left most)⟩)]) := by
 obtain ⟨H, st, hp, ro⟩ := hC.b L h0 h8
 refine ⟨st, ?_⟩
 rw [Z0b rfl]
 have hks : (mark [(0, ⟨.row, ics l⟩), (1, ⟨.box, [.int .i64 n]⟩), (2, ⟨.box, [.ref 400 0 L.length L.length L.length 1 false]⟩), (3, ⟨.box, [rwK 1 2 3]⟩), (99, ⟨.row, c⟩), (100, ⟨.row, ics l'⟩), (400, ⟨.row, lcs L⟩)] 1000 (refsL [.ref 100 0 k k k 1 false, .int .i64 left, .int .i64 most, .ptr 1 0 1, .ptr 2 0 1, .ptr 3 0 1]) []).reverse = [100, 1, 2, 400, 3] := rfl
 have hap : AM.apart [100, 1, 2, 400, 3] = true := rfl
 have e1 : renL (posF [100, 1, 2, 400, 3] 0) [.ref 100 0 k k k 1 false, .int .i64 left, .int .i64 most, .ptr 1 0 1, .ptr 2 0 1, .ptr 3 0 1] = some [.ref 0 0 k k k 1 false, .int .i64 left, .int .i64 most, .ptr 1 0 1, .ptr 2 0 1, .ptr 4 0 1] := rfl
 have e2 : foc (posF [100, 1, 2, 400, 3] 0) [(0, ⟨.row, ics l⟩), (1, ⟨.box, [.int .i64 n]⟩), (2, ⟨.box, [.ref 400 0 L.length L.length L.length 1 false]⟩), (3, ⟨.box, [rwK 1 2 3]⟩), (99, ⟨.row, c⟩), (100, ⟨.row, ics l'⟩), (400, ⟨.row, lcs L⟩)] 0 [100, 1, 2, 400, 3] = some (rhB l' n L) := rfl
 have hn := newsB ro
 obtain ⟨h0, hs, h1, h2, h3, h4⟩ := ro
 have hl5 : ([100, 1, 2, 400, 3] : List Nat).length = 5 := rfl
 have er : List.range 5 = [0, 1, 2, 3, 4] := rfl
 rw [hks]
 unfold focus
 rw [if_pos hap]
 simp only [e1, e2, hp, backF, hl5, hn, er]
 rcases hs with rfl | rfl <;>
 simp only [List.length_nil, baseF, freeL, AM.apart, if_true, List.append_nil, ren, renL, unf, outF, posF, h0, h1, h2, h3, h4, List.getElem?_cons_zero, List.getElem?_cons_succ, Nat.reduceLT, goodB, BS.open_, Bool.true_or, Bool.false_or, rhB, Zj, decide_true, Bool.and_self, renB, hl5, upds, Zi, Zl, Nat.reduceEqDiff, Nat.reduceLeDiff, if_false, Nat.reduceAdd, reduceCtorEq]
theorem ZvM (hC : RoC d l' n k m left most) {L : List (List Int)} (h0 : 0 < L.length) (h8 : L.length + 9 ^ m ≤ 900000) : ∃ st, kF d 105 [.ref 100 0 k k k 1 false, .int .i64 left, .int .i64 most, .ptr 1 0 1, .ptr 2 0 1, .ptr 4 0 1]
     [(0, ⟨.row, ics l⟩), (1, ⟨.box, [.int .i64 n]⟩), (2, ⟨.box, [.ref 3 0 L.length L.length L.length 1 false]⟩), (3, ⟨.row, lcs L⟩), (4, ⟨.box, [rwK 1 2 4]⟩), (99, ⟨.row, c⟩), (100, ⟨.row, ics l'⟩)] 400 =
   some (.tup [], [(0, ⟨.row, ics l⟩), (1, ⟨.box, [.int .i64 n]⟩), (2, ⟨.box, [.ref 3 0 (L ++ fuR l' m left most).length (L ++ fuR l' m left most).length (L ++ fuR l' m left most).length 1 false]⟩), (3, ⟨.row, lcs (L ++ fuR l' m left most)⟩), (4, ⟨.box, [rwK 1 2 4]⟩), (99, ⟨.row, c⟩), (100, ⟨st, ics l'⟩)]) := by
 obtain ⟨H, st, hp, ro⟩ := hC.b L h0 h8
 refine ⟨st, ?_⟩
 rw [Z0b rfl]
 have hks : (mark [(0, ⟨.row, ics l⟩), (1, ⟨.box, [.int .i64 n]⟩), (2, ⟨.box, [.ref 3 0 L.length L.length L.length 1 false]⟩), (3, ⟨.row, lcs L⟩), (4, ⟨.box, [rwK 1 2 4]⟩), (99, ⟨.row, c⟩), (100, ⟨.row, ics l'⟩)] 1000 (refsL [.ref 100 0 k k k 1 false, .int .i64 left, .int .i64 most, .ptr 1 0 1, .ptr 2 0 1, .ptr 4 0 1]) []).reverse = [100, 1, 2, 3, 4] := rfl
 have hap : AM.apart [100, 1, 2, 3, 4] = true := rfl
 have e1 : renL (posF [100, 1, 2, 3, 4] 0) [.ref 100 0 k k k 1 false, .int .i64 left, .int .i64 most, .ptr 1 0 1, .ptr 2 0 1, .ptr 4 0 1] = some [.ref 0 0 k k k 1 false, .int .i64 left, .int .i64 most, .ptr 1 0 1, .ptr 2 0 1, .ptr 4 0 1] := rfl
 have e2 : foc (posF [100, 1, 2, 3, 4] 0) [(0, ⟨.row, ics l⟩), (1, ⟨.box, [.int .i64 n]⟩), (2, ⟨.box, [.ref 3 0 L.length L.length L.length 1 false]⟩), (3, ⟨.row, lcs L⟩), (4, ⟨.box, [rwK 1 2 4]⟩), (99, ⟨.row, c⟩), (100, ⟨.row, ics l'⟩)] 0 [100, 1, 2, 3, 4] = some (rhB l' n L) := rfl
 have hn := newsB ro
 obtain ⟨h0, hs, h1, h2, h3, h4⟩ := ro
 have hl5 : ([100, 1, 2, 3, 4] : List Nat).length = 5 := rfl
 have er : List.range 5 = [0, 1, 2, 3, 4] := rfl
 rw [hks]
 unfold focus
 rw [if_pos hap]
 simp only [e1, e2, hp, backF, hl5, hn, er]
 rcases hs with rfl | rfl <;>
 simp only [List.length_nil, baseF, freeL, AM.apart, if_true, List.append_nil, ren, renL, unf, outF, posF, h0, h1, h2, h3, h4, List.getElem?_cons_zero, List.getElem?_cons_succ, Nat.reduceLT, goodB, BS.open_, Bool.true_or, Bool.false_or, rhB, Zj, decide_true, Bool.and_self, renB, hl5, upds, Zi, Zl, Nat.reduceEqDiff, Nat.reduceLeDiff, if_false, Nat.reduceAdd, reduceCtorEq]
end
end Go.AM.Ytfmnoohhhokicaa
end
noncomputable section
namespace Go.AM.Ytfmnoohhhokicaa
open Go Go.AM Go.AM.Rub
theorem ZE4 {d : Nat} {l : List Int} {n : Nat} {left most : Int} (hl : l.length = n) : RoC (d + 1) l n n 0 left most := by
 have hlen : (ics l).length = n := by rw [Z7, hl]
 have htk : List.take n (ics l) = ics l := List.take_of_length_le (by omega)
 have em : AV.imm (ics l) n false = .imm (ics l) l.length false := by rw [hl]
 constructor
 · rw [pF_s, Zgs]
   by_cases h : left = 0
   · rw [if_pos h]
     subst h
     generalize kF d = C
     simp only [rhA]
     have e : lcs [l] = [.imm (ics l) n false] := by show [AV.imm (ics l) l.length false] = _; rw [hl]
     simp (disch := omega) only [ZF, Z3, stp, just, Rd.bind, Rd.run, Rd.opt, upds, acells, zeroCells, tsz, elemT, rdCells, aLoad, aStore, opStore, resA, resL, fresh, aLen, Z1, aBin, aInt, putC, evO, Nat.reduceAdd, Nat.reduceLT, Nat.reduceBEq, Nat.reduceEqDiff, Nat.reduceLeDiff, ↓reduceIte, reduceCtorEq, Z6, Zg, partsOf, fillA, repC, Zh, aAppend, srcOf, window, snaps, ZT, Z0i, hlen, htk, Z7z (show 1 ≤ 1000000 by omega)]
     exact ⟨_, 83, .froz, rfl, ⟨rfl, .inr rfl, rfl, rfl, rfl, by omega, fun _ => by rw [e]; rfl⟩⟩
   · rw [if_neg h]
     have h' : (left == 0) = false := by rw [beq_eq_false_iff_ne]; exact h
     generalize kF d = C
     simp only [rhA]
     simp (disch := omega) only [ZF, Z3, stp, just, Rd.bind, Rd.run, Rd.opt, upds, acells, zeroCells, tsz, elemT, rdCells, aLoad, resA, resL, fresh, aLen, Z1, aBin, aInt, putC, evO, Nat.reduceAdd, Nat.reduceLT, Nat.reduceBEq, Nat.reduceEqDiff, Nat.reduceLeDiff, ↓reduceIte, reduceCtorEq, Z6, Zg, partsOf, fillA, repC, Zh, aAppend, srcOf, window, snaps, ZT, Z0i, hlen, h']
     exact ⟨_, 83, .row, rfl, ⟨rfl, .inl rfl, rfl, rfl, rfl, by omega, fun h => by simp at h⟩⟩
 · intro L h0 h8
   rw [pF_s, Zgs]
   have hlo := ZO L
   have hto := Z91 L
   by_cases h : left = 0
   · rw [if_pos h]
     subst h
     generalize kF d = C
     have hsn := Zef L l
     rw [← em] at hsn
     have hno : ¬ L.length + 1 ≤ L.length := by omega
     simp only [rhB]
     have key : ∀ (A : List AV) (m : Nat), A.length = m → List.take m A = A → ¬ m + 1 ≤ m → m + 1 ≤ 1000000 → ∃ H st, bodyA E C fg 1000000 105 [.ref 0 0 n n n 1 false, .int .i64 0, .int .i64 most, .ptr 1 0 1, .ptr 2 0 1, .ptr 4 0 1] [(0, ⟨.row, ics l⟩), (1, ⟨.box, [.int .i64 n]⟩), (2, ⟨.box, [.ref 3 0 m m m 1 false]⟩), (3, ⟨.row, A⟩), (4, ⟨.box, [rwK 1 2 4]⟩)] 64 = some (.tup [], H) ∧
         (hget H 0 = some ⟨st, ics l⟩ ∧ (st = .row ∨ st = .froz) ∧ hget H 1 = some ⟨.box, [.int .i64 n]⟩ ∧ hget H 2 = some ⟨.box, [.ref 3 0 (m + 1) (m + 1) (m + 1) 1 false]⟩ ∧ hget H 3 = some ⟨.row, A ++ [.imm (ics l) n false]⟩ ∧ hget H 4 = some ⟨.box, [rwK 1 2 4]⟩) := by
       intro A m q1 q2 q3 q4
       simp (disch := omega) only [ZF, Z3, stp, just, Rd.bind, Rd.run, Rd.opt, upds, acells, zeroCells, tsz, elemT, rdCells, aLoad, aStore, opStore, resA, resL, fresh, aLen, Z1, aBin, aInt, putC, evO, Nat.reduceAdd, Nat.reduceLT, Nat.reduceBEq, Nat.reduceEqDiff, Nat.reduceLeDiff, ↓reduceIte, reduceCtorEq, Z6, Zg, partsOf, fillA, repC, Zh, aAppend, srcOf, window, snaps, ZT, Z0i, hlen, htk, q1, q2, q3, Z7z q4]
       exact ⟨_, .froz, rfl, rfl, .inr rfl, rfl, rfl, rfl, rfl⟩
     obtain ⟨H, st, p1, p2, p3, p4, p5, p6, p7⟩ := key (lcs L) L.length hlo hto hno (by omega)
     refine ⟨H, st, p1, ⟨p2, p3, p4, by rw [List.length_append]; exact p5, by rw [← hsn]; exact p6, p7⟩⟩
   · rw [if_neg h, List.append_nil]
     have h' : (left == 0) = false := by rw [beq_eq_false_iff_ne]; exact h
     generalize kF d = C
     simp only [rhB]
     simp (disch := omega) only [ZF, Z3, stp, just, Rd.bind, Rd.run, Rd.opt, upds, acells, zeroCells, tsz, elemT, rdCells, aLoad, resA, resL, fresh, aLen, Z1, aBin, aInt, putC, evO, Nat.reduceAdd, Nat.reduceLT, Nat.reduceBEq, Nat.reduceEqDiff, Nat.reduceLeDiff, ↓reduceIte, reduceCtorEq, Z6, Zg, partsOf, fillA, repC, Zh, aAppend, srcOf, window, snaps, ZT, Z0i, hlen, h', if_pos]
     exact ⟨_, .row, rfl, ⟨rfl, .inl rfl, rfl, rfl, rfl, rfl⟩⟩
theorem Z2u (caps args : List AV) : mutV E (.clo 105 caps) args = some (105, args ++ caps) := rfl
abbrev rsA (l : List Int) (n k : Nat) (left t : Int) (L : List (List Int)) : St :=
 ([(9, .int .i64 t), (5, .ptr 3 0 1), (1, .int .i64 left), (0, .ref 0 0 k k k 1 false)], (0, ⟨.row, ics l⟩) :: (1, ⟨.box, [.int .i64 n]⟩) :: (2, ⟨.box, [oV 400 1 L.length]⟩) :: (3, ⟨.box, [rwK 1 2 3]⟩) :: oH 400 (lcs L))
abbrev rsB (l : List Int) (n k : Nat) (left t : Int) (L : List (List Int)) : St :=
 ([(9, .int .i64 t), (5, .ptr 4 0 1), (1, .int .i64 left), (0, .ref 0 0 k k k 1 false)], [(0, ⟨.row, ics l⟩), (1, ⟨.box, [.int .i64 n]⟩), (2, ⟨.box, [.ref 3 0 L.length L.length L.length 1 false]⟩), (3, ⟨.row, lcs L⟩), (4, ⟨.box, [rwK 1 2 4]⟩)])
theorem ZOO {d : Nat} {l : List Int} {n k m : Nat} {left t : Int} (hl : l.length = k) (h9 : k ≤ 1000) (ht : 0 ≤ t ∧ t ≤ 1000) (hlf : 0 ≤ left ∧ left ≤ 1000) (hC : RoC d (l ++ [t]) n (k + 1) m (left - t) t) (L : List (List Int)) (h8 : L.length + 9 ^ m ≤ 900000) :
   ∃ s', execA E (kF d) (fg 105) 64 42 (rhA l n) 1000000 Z0F (rsA l n k left t L) = some (.normal, s') ∧ headA (rhA l n) s' = rsA l n k left (t - 1) (L ++ fuR (l ++ [t]) m (left - t) t) := by
 have hlen : (ics l).length = k := by rw [Z7, hl]
 have htk : List.take k (ics l) = ics l := List.take_of_length_le (by omega)
 have hsn := Z1b l t
 have hl' : (l ++ [t]).length = k + 1 := by simp [hl]
 have g1 : t ≥ 0 := ht.1
 have w1 : wrp .i64 (left - t) = left - t := Z9 (by omega)
 have w2 : wrp .i64 (t - 1) = t - 1 := Z9 (by omega)
 have gk : (0 : Int) ≤ (k : Int) ∧ (k : Int) ≤ (k : Int) := by omega
 have hno : ¬ k + 1 ≤ k := by omega
 rcases ocvL 400 L with ⟨hn0, o1, o2⟩ | ⟨hp0, o1, o2⟩
 · obtain ⟨st, hc⟩ := Zqm (l := l) (c := [.int .i64 t]) hC hl'
   subst hn0
   rw [List.nil_append]
   simp only [rsA]
   rw [o1, o2]
   rw [← hsn] at hc
   generalize fuR (l ++ [t]) m (left - t) t = new at *
   generalize kF d = C at *
   rcases ocvL 400 new with ⟨hn1, p1, p2⟩ | ⟨hp1, p1, p2⟩ <;> rw [p1, p2] at hc ⊢ <;>
     simp (disch := omega) only [ZF, stp, just, Rd.bind, Rd.run, Rd.opt, upds, acells, zeroCells, tsz, elemT, rdCells, aLoad, fresh, aNum, aLen, Z1, aBin, aInt, putC, evO, Nat.reduceAdd, Nat.reduceMul, Nat.reduceLT, Nat.reduceBEq, Nat.reduceEqDiff, Nat.reduceLeDiff, ↓reduceIte, reduceCtorEq, stpT, Rd.foot, writing, Zb, Tr.empty, Zd, apartT, disj, Z6, Zg, partsOf, fillA, repC, Zh, aAppend, srcOf, window, mutX, snaps, aSlice, aBounds, bMax, bHigh, bLow, ZT, Z0i, callVT, Z2u, hlen, htk, hno, g1, w1, w2, gk, hc, Z01 (show k + 1 ≤ 1000000 by omega)] <;> exact ⟨_, rfl, rfl⟩
 · obtain ⟨st, hc⟩ := ZsQ (l := l) (c := [.int .i64 t]) hC hp0 h8
   simp only [rsA]
   rw [o1, o2, ZR (show 0 < (L ++ fuR (l ++ [t]) m (left - t) t).length by rw [List.length_append]; omega), Z3e (show 0 < (L ++ fuR (l ++ [t]) m (left - t) t).length by rw [List.length_append]; omega)]
   rw [← hsn] at hc
   generalize L ++ fuR (l ++ [t]) m (left - t) t = new at *
   generalize lcs new = LN at *
   generalize new.length = nn at *
   generalize lcs L = LL at *
   generalize L.length = ll at *
   generalize kF d = C at *
   simp (disch := omega) only [ZF, stp, just, Rd.bind, Rd.run, Rd.opt, upds, acells, zeroCells, tsz, elemT, rdCells, aLoad, fresh, aNum, aLen, Z1, aBin, aInt, putC, evO, Nat.reduceAdd, Nat.reduceMul, Nat.reduceLT, Nat.reduceBEq, Nat.reduceEqDiff, Nat.reduceLeDiff, ↓reduceIte, reduceCtorEq, stpT, Rd.foot, writing, Zb, Tr.empty, Zd, apartT, disj, Z6, Zg, partsOf, fillA, repC, Zh, aAppend, srcOf, window, mutX, snaps, aSlice, aBounds, bMax, bHigh, bLow, ZT, Z0i, callVT, Z2u, hlen, htk, hno, g1, w1, w2, gk, hc, Z01 (show k + 1 ≤ 1000000 by omega)]
   exact ⟨_, rfl, rfl⟩
theorem ZPm {d : Nat} {l : List Int} {n k m : Nat} {left t : Int} (hl : l.length = k) (h9 : k ≤ 1000) (ht : 0 ≤ t ∧ t ≤ 1000) (hlf : 0 ≤ left ∧ left ≤ 1000) (hC : RoC d (l ++ [t]) n (k + 1) m (left - t) t) (L0 L : List (List Int)) (hp0 : 0 < L.length) (h8 : L.length + 9 ^ m ≤ 900000) :
   ∃ s', execA E (kF d) (fg 105) 64 42 (rhB l n L0) 1000000 Z0F (rsB l n k left t L) = some (.normal, s') ∧ headA (rhB l n L0) s' = rsB l n k left (t - 1) (L ++ fuR (l ++ [t]) m (left - t) t) := by
 have hlen : (ics l).length = k := by rw [Z7, hl]
 have htk : List.take k (ics l) = ics l := List.take_of_length_le (by omega)
 have hsn := Z1b l t
 have g1 : t ≥ 0 := ht.1
 have w1 : wrp .i64 (left - t) = left - t := Z9 (by omega)
 have w2 : wrp .i64 (t - 1) = t - 1 := Z9 (by omega)
 have gk : (0 : Int) ≤ (k : Int) ∧ (k : Int) ≤ (k : Int) := by omega
 have hno : ¬ k + 1 ≤ k := by omega
 obtain ⟨st, hc⟩ := ZvM (l := l) (c := [.int .i64 t]) hC hp0 h8
 simp only [rsB]
 rw [← hsn] at hc
 generalize L ++ fuR (l ++ [t]) m (left - t) t = new at *
 generalize lcs new = LN at *
 generalize new.length = nn at *
 generalize lcs L = LL at *
 generalize L.length = ll at *
 generalize lcs L0 = LL0 at *
 generalize L0.length = l0 at *
 generalize kF d = C at *
 simp (disch := omega) only [ZF, stp, just, Rd.bind, Rd.run, Rd.opt, upds, acells, zeroCells, tsz, elemT, rdCells, aLoad, fresh, aNum, aLen, Z1, aBin, aInt, putC, evO, Nat.reduceAdd, Nat.reduceMul, Nat.reduceLT, Nat.reduceBEq, Nat.reduceEqDiff, Nat.reduceLeDiff, ↓reduceIte, reduceCtorEq, stpT, Rd.foot, writing, Zb, Tr.empty, Zd, apartT, disj, Z6, Zg, partsOf, fillA, repC, Zh, aAppend, srcOf, window, mutX, snaps, aSlice, aBounds, bMax, bHigh, bLow, ZT, Z0i, callVT, Z2u, hlen, htk, hno, g1, w1, w2, gk, hc, Z01 (show k + 1 ≤ 1000000 by omega)]
 exact ⟨_, rfl, rfl⟩
end Go.AM.Ytfmnoohhhokicaa
end
noncomputable section
namespace Go.AM.Ytfmnoohhhokicaa
open Go Go.AM Go.AM.Rub
theorem Zsl {d n : Nat} (h6 : n ≤ 6) : ∀ (m : Nat) (l : List Int) (k : Nat) (left most : Int), l.length = k → k + m = n → 0 ≤ left ∧ left ≤ 1000 → 0 ≤ most ∧ most ≤ 8 → RoC (d + m + 1) l n k m left most
 | 0, l, k, left, most, hl, hk, _, _ => by
   rw [Nat.add_zero] at hk
   subst hk
   exact ZE4 hl
 | m + 1, l, k, left, most, hl, hk, hlf, hm => by
   obtain ⟨m0, hm0⟩ : ∃ m0 : Nat, min most left = m0 := ⟨(min most left).toNat, by omega⟩
   have hrec : ∀ j : Nat, j < m0 + 1 → RoC (d + m + 1) (l ++ [((m0 : Int) - j)]) n (k + 1) m (left - ((m0 : Int) - j)) ((m0 : Int) - j) := fun j hj =>
     Zsl h6 m (l ++ [((m0 : Int) - j)]) (k + 1) (left - ((m0 : Int) - j)) ((m0 : Int) - j) (by simp [hl]) (by omega) (by omega) (by omega)
   have hlen : (ics l).length = k := by rw [Z7, hl]
   have hall := Zhv l m hm0
   have h9 : 9 ^ (m + 1) ≤ 531441 := by have := Nat.pow_le_pow_right (n := 9) (by omega) (show m + 1 ≤ 6 by omega); omega
   have h9' : 9 ^ (m + 1) = 9 * 9 ^ m := by rw [Nat.pow_succ, Nat.mul_comm]
   have hfl : ∀ j, j ≤ m0 + 1 → (fuP l m left m0 j).length ≤ j * 9 ^ m := Z8A l m left m0 (by omega)
   have hj9 : ∀ j, j ≤ m0 → j * 9 ^ m ≤ 8 * 9 ^ m := fun j hj => Nat.mul_le_mul_right _ (by omega)
   have emin : (if left < most then left else most) = (m0 : Int) := by rw [← hm0]; split <;> omega
   have gk : ¬ (k : Int) = n := by omega
   have gk' : ((k : Int) == n) = false := by rw [beq_eq_false_iff_ne]; exact gk
   have e2 : ∀ j : Nat, (m0 : Int) - ((j + 1 : Nat) : Int) = (m0 : Int) - j - 1 := fun j => by omega
   have ge : ¬ (m0 : Int) - ((m0 + 1 : Nat) : Int) ≥ 0 := by omega
   constructor
   · rw [show d + (m + 1) + 1 = (d + m + 1) + 1 by omega, pF_s]
     have hloop := loopM (f := execA E (kF (d + m + 1)) (fg 105) 64 42 (rhA l n) 1000000 Z0F) (E0 := rhA l n) (fun j => rsA l n k left ((m0 : Int) - j) (fuP l m left m0 j)) (m0 + 1) (fun j hj => by
         simp only [Z3G, e2]
         exact ZOO hl (by omega) (by omega) hlf (hrec j hj) (fuP l m left m0 j) (by have := hfl j (by omega); have := hj9 j (by omega); omega)) (by
         have e0 : fuP l m left m0 0 = [] := rfl
         simp only [rsA, e0]; rfl) (by omega)
       (e := .exit 0) (se := ([(24, .bool false), (9, .int .i64 ((m0 : Int) - ((m0 + 1 : Nat) : Int))), (5, .ptr 3 0 1), (1, .int .i64 left), (0, .ref 0 0 k k k 1 false)], (0, ⟨.row, ics l⟩) :: (1, ⟨.box, [.int .i64 n]⟩) :: (2, ⟨.box, [oV 400 1 (fuR l (m + 1) left most).length]⟩) :: (3, ⟨.box, [rwK 1 2 3]⟩) :: oH 400 (lcs (fuR l (m + 1) left most))))
       (by
         simp only [rsA, hall]
         rcases ocvL 400 (fuR l (m + 1) left most) with ⟨_, o1, o2⟩ | ⟨_, o1, o2⟩ <;> rw [o1, o2] <;>
           simp (disch := omega) only [ZF, stp, just, Rd.bind, Rd.run, Rd.opt, upds, aBin, aInt, Nat.reduceBEq, Nat.reduceEqDiff, Nat.reduceLeDiff, ↓reduceIte, Z0i, ge]) (by simp)
     have e0 : fuP l m left m0 0 = [] := rfl
     have v0 : oV 400 1 ([] : List (List Int)).length = .nilsl := rfl
     have o0 : oH 400 (lcs []) = [] := rfl
     have z0 : (m0 : Int) - ((0 : Nat) : Int) = m0 := by omega
     simp only [rsA, e0, v0, o0, z0, rhA] at hloop
     simp only [rhA]
     generalize fuR l (m + 1) left most = R at *
     generalize kF (d + m + 1) = C at *
     rcases ocvL 400 R with ⟨hn1, o1, o2⟩ | ⟨hp1, o1, o2⟩ <;> rw [o1, o2] at hloop
     · simp (disch := omega) only [ZF, Z3, stp, justO, just, Rd.bind, Rd.run, Rd.opt, upds, acells, zeroCells, tsz, elemT, rdCells, aLoad, resA, resL, fresh, aLen, Z1, aMin, aBin, aInt, putC, evO, Nat.reduceAdd, Nat.reduceLT, Nat.reduceBEq, Nat.reduceEqDiff, Nat.reduceLeDiff, ↓reduceIte, reduceCtorEq, Z6, Zg, partsOf, fillA, repC, Zh, aAppend, srcOf, window, snaps, ZT, Z0i, hlen, gk', emin, hloop]
       exact ⟨_, 400, .row, rfl, ⟨rfl, .inl rfl, rfl, by rw [o1]; rfl, rfl, by omega, fun h => by rw [hn1] at h; simp at h⟩⟩
     · simp (disch := omega) only [ZF, Z3, stp, justO, just, Rd.bind, Rd.run, Rd.opt, upds, acells, zeroCells, tsz, elemT, rdCells, aLoad, resA, resL, fresh, aLen, Z1, aMin, aBin, aInt, putC, evO, Nat.reduceAdd, Nat.reduceLT, Nat.reduceBEq, Nat.reduceEqDiff, Nat.reduceLeDiff, ↓reduceIte, reduceCtorEq, Z6, Zg, partsOf, fillA, repC, Zh, aAppend, srcOf, window, snaps, ZT, Z0i, hlen, gk', emin, hloop]
       exact ⟨_, 400, .row, rfl, ⟨rfl, .inl rfl, rfl, by rw [o1]; rfl, rfl, by omega, fun h => rfl⟩⟩
   · intro L h0 h8
     rw [show d + (m + 1) + 1 = (d + m + 1) + 1 by omega, pF_s]
     have hloop := loopM (f := execA E (kF (d + m + 1)) (fg 105) 64 42 (rhB l n L) 1000000 Z0F) (E0 := rhB l n L) (fun j => rsB l n k left ((m0 : Int) - j) (L ++ fuP l m left m0 j)) (m0 + 1) (fun j hj => by
         simp only [Z3G, e2, ← List.append_assoc]
         exact ZPm hl (by omega) (by omega) hlf (hrec j hj) L (L ++ fuP l m left m0 j) (by rw [List.length_append]; omega) (by rw [List.length_append]; have := hfl j (by omega); have := hj9 j (by omega); omega)) (Z25 (by simp [rhB, Zj])) (by omega)
       (e := .exit 0) (se := ([(24, .bool false), (9, .int .i64 ((m0 : Int) - ((m0 + 1 : Nat) : Int))), (5, .ptr 4 0 1), (1, .int .i64 left), (0, .ref 0 0 k k k 1 false)], [(0, ⟨.row, ics l⟩), (1, ⟨.box, [.int .i64 n]⟩), (2, ⟨.box, [.ref 3 0 (L ++ fuR l (m + 1) left most).length (L ++ fuR l (m + 1) left most).length (L ++ fuR l (m + 1) left most).length 1 false]⟩), (3, ⟨.row, lcs (L ++ fuR l (m + 1) left most)⟩), (4, ⟨.box, [rwK 1 2 4]⟩)]))
       (by
         simp only [rsB, hall]
         simp (disch := omega) only [ZF, stp, just, Rd.bind, Rd.run, Rd.opt, upds, aBin, aInt, Nat.reduceBEq, Nat.reduceEqDiff, Nat.reduceLeDiff, ↓reduceIte, Z0i, ge]) (by simp)
     have e0 : fuP l m left m0 0 = [] := rfl
     have z0 : (m0 : Int) - ((0 : Nat) : Int) = m0 := by omega
     simp only [rsB, e0, z0, rhB, List.append_nil] at hloop
     simp only [rhB]
     generalize L ++ fuR l (m + 1) left most = R at *
     generalize kF (d + m + 1) = C at *
     simp (disch := omega) only [ZF, Z3, stp, justO, just, Rd.bind, Rd.run, Rd.opt, upds, acells, zeroCells, tsz, elemT, rdCells, aLoad, resA, resL, fresh, aLen, Z1, aMin, aBin, aInt, putC, evO, Nat.reduceAdd, Nat.reduceLT, Nat.reduceBEq, Nat.reduceEqDiff, Nat.reduceLeDiff, ↓reduceIte, reduceCtorEq, Z6, Zg, partsOf, fillA, repC, Zh, aAppend, srcOf, window, snaps, ZT, Z0i, hlen, gk', emin, hloop]
     exact ⟨_, .row, rfl, ⟨rfl, .inl rfl, rfl, rfl, rfl, rfl⟩⟩
end Go.AM.Ytfmnoohhhokicaa
end
noncomputable section
namespace Go.AM.Ytfmnoohhhokicaa
open Go Go.AM Go.AM.Rub
abbrev rhN (n : Nat) : AHeap := [(0, ⟨.box, [.int .i64 n]⟩), (1, ⟨.box, [.nilsl]⟩), (2, ⟨.box, [rwK 0 1 2]⟩)]
noncomputable section
variable {d : Nat} {l' : List Int} {n k m : Nat} {left most : Int} {c : List AV}
theorem Zts (hC : RoC d l' n k m left most) : ∃ st, kF d 105 [.ref 100 0 k k k 1 false, .int .i64 left, .int .i64 most, .ptr 0 0 1, .ptr 1 0 1, .ptr 2 0 1] [(0, ⟨.box, [.int .i64 n]⟩), (1, ⟨.box, [.nilsl]⟩), (2, ⟨.box, [rwK 0 1 2]⟩), (99, ⟨.row, c⟩), (100, ⟨.row, ics l'⟩)] 400 =
   some (.tup [], (0, ⟨.box, [.int .i64 n]⟩) :: (1, ⟨.box, [oV 400 1 (fuR l' m left most).length]⟩) :: (2, ⟨.box, [rwK 0 1 2]⟩) :: (99, ⟨.row, c⟩) :: (100, ⟨st, ics l'⟩) :: oH 400 (lcs (fuR l' m left most))) := by
 obtain ⟨H, id, st, hp, ro⟩ := hC.a
 refine ⟨st, ?_⟩
 rw [Z0b rfl]
 have hks : (mark [(0, ⟨.box, [.int .i64 n]⟩), (1, ⟨.box, [.nilsl]⟩), (2, ⟨.box, [rwK 0 1 2]⟩), (99, ⟨.row, c⟩), (100, ⟨.row, ics l'⟩)] 1000 (refsL [.ref 100 0 k k k 1 false, .int .i64 left, .int .i64 most, .ptr 0 0 1, .ptr 1 0 1, .ptr 2 0 1]) []).reverse = [100, 0, 1, 2] := rfl
 have hap : AM.apart [100, 0, 1, 2] = true := rfl
 have e1 : renL (posF [100, 0, 1, 2] 0) [.ref 100 0 k k k 1 false, .int .i64 left, .int .i64 most, .ptr 0 0 1, .ptr 1 0 1, .ptr 2 0 1] = some [.ref 0 0 k k k 1 false, .int .i64 left, .int .i64 most, .ptr 1 0 1, .ptr 2 0 1, .ptr 3 0 1] := rfl
 have e2 : foc (posF [100, 0, 1, 2] 0) [(0, ⟨.box, [.int .i64 n]⟩), (1, ⟨.box, [.nilsl]⟩), (2, ⟨.box, [rwK 0 1 2]⟩), (99, ⟨.row, c⟩), (100, ⟨.row, ics l'⟩)] 0 [100, 0, 1, 2] = some (rhA l' n) := rfl
 have hn := newsA ro
 obtain ⟨h0, hs, h1, h2, h3, h4, hr⟩ := ro
 have hl4 : ([100, 0, 1, 2] : List Nat).length = 4 := rfl
 have er : List.range 4 = [0, 1, 2, 3] := rfl
 rw [hks]
 unfold focus
 rw [if_pos hap]
 simp only [e1, e2, hp, backF, hl4, hn, er]
 rcases ocvL 400 (fuR l' m left most) with ⟨hn0, o1, o2⟩ | ⟨hp0, o1, o2⟩
 · rw [o1, o2]
   rw [hn0] at h2
   have hv : oV id 1 ([] : List (List Int)).length = .nilsl := rfl
   rw [hv] at h2
   rcases hs with rfl | rfl <;>
   simp only [hn0, if_true, List.length_nil, baseF, freeL, AM.apart, List.append_nil, ren, renL, unf, outF, posF, h0, h1, h2, h3, List.getElem?_cons_zero, List.getElem?_cons_succ, Nat.reduceLT, if_true, goodB, BS.open_, Bool.true_or, Bool.false_or, rhA, Zj, decide_true, Bool.and_self, renB, hl4, upds, Zi, Zl, Nat.reduceEqDiff, Nat.reduceLeDiff, if_false, Nat.reduceAdd, reduceCtorEq]
 · rw [o1, o2]
   rw [ZR hp0] at h2
   have hr := hr hp0
   have hne : ¬ fuR l' m left most = [] := fun e => by rw [e] at hp0; simp at hp0
   have c4 : ¬ id < 4 := by omega
   have hbase : baseF [(0, ⟨.box, [.int .i64 n]⟩), (1, ⟨.box, [.nilsl]⟩), (2, ⟨.box, [rwK 0 1 2]⟩), (99, ⟨.row, c⟩), (100, ⟨.row, ics l'⟩)] 1 8 400 = some 400 := rfl
   rcases hs with rfl | rfl <;>
   simp only [hne, if_false, List.length_cons, List.length_nil, Nat.zero_add, hbase, AM.apart, List.elem_nil, Bool.not_false, Bool.and_self, if_true, List.cons_append, List.nil_append, ren, renL, unf, outF, posF, h0, h1, h2, h3, hr, c4, List.getElem?_cons_zero, List.getElem?_cons_succ, Nat.reduceLT, goodB, BS.open_, Bool.true_or, Bool.false_or, rhA, Zj, decide_true, renB, hl4, upds, Zi, Zl, Nat.reduceEqDiff, Nat.reduceLeDiff, Nat.add_zero, reduceCtorEq]
theorem ZrJ (hC : RoC d l' n k m left most) {L : List (List Int)} (h0 : 0 < L.length) (h8 : L.length + 9 ^ m ≤ 900000) : ∃ st, kF d 105 [.ref 100 0 k k k 1 false, .int .i64 left, .int .i64 most, .ptr 0 0 1, .ptr 1 0 1, .ptr 2 0 1] [(0, ⟨.box, [.int .i64 n]⟩), (1, ⟨.box, [.ref 400 0 L.length L.length L.length 1 false]⟩), (2, ⟨.box, [rwK 0 1 2]⟩), (99, ⟨.row, c⟩), (100, ⟨.row, ics l'⟩), (400, ⟨.row, lcs L⟩)] 400 =
   some (.tup [], [(0, ⟨.box, [.int .i64 n]⟩), (1, ⟨.box, [.ref 400 0 (L ++ fuR l' m left most).length (L ++ fuR l' m left most).length (L ++ fuR l' m left most).length 1 false]⟩), (2, ⟨.box, [rwK 0 1 2]⟩), (99, ⟨.row, c⟩), (100, ⟨st, ics l'⟩), (400, ⟨.row, lcs (L ++ fuR l' m left most)⟩)]) := by
 obtain ⟨H, st, hp, ro⟩ := hC.b L h0 h8
 refine ⟨st, ?_⟩
 rw [Z0b rfl]
 have hks : (mark [(0, ⟨.box, [.int .i64 n]⟩), (1, ⟨.box, [.ref 400 0 L.length L.length L.length 1 false]⟩), (2, ⟨.box, [rwK 0 1 2]⟩), (99, ⟨.row, c⟩), (100, ⟨.row, ics l'⟩), (400, ⟨.row, lcs L⟩)] 1000 (refsL [.ref 100 0 k k k 1 false, .int .i64 left, .int .i64 most, .ptr 0 0 1, .ptr 1 0 1, .ptr 2 0 1]) []).reverse = [100, 0, 1, 400, 2] := rfl
 have hap : AM.apart [100, 0, 1, 400, 2] = true := rfl
 have e1 : renL (posF [100, 0, 1, 400, 2] 0) [.ref 100 0 k k k 1 false, .int .i64 left, .int .i64 most, .ptr 0 0 1, .ptr 1 0 1, .ptr 2 0 1] = some [.ref 0 0 k k k 1 false, .int .i64 left, .int .i64 most, .ptr 1 0 1, .ptr 2 0 1, .ptr 4 0 1] := rfl
 have e2 : foc (posF [100, 0, 1, 400, 2] 0) [(0, ⟨.box, [.int .i64 n]⟩), (1, ⟨.box, [.ref 400 0 L.length L.length L.length 1 false]⟩), (2, ⟨.box, [rwK 0 1 2]⟩), (99, ⟨.row, c⟩), (100, ⟨.row, ics l'⟩), (400, ⟨.row, lcs L⟩)] 0 [100, 0, 1, 400, 2] = some (rhB l' n L) := rfl
 have hn := newsB ro
 obtain ⟨h0, hs, h1, h2, h3, h4⟩ := ro
 have hl5 : ([100, 0, 1, 400, 2] : List Nat).length = 5 := rfl
 have er : List.range 5 = [0, 1, 2, 3, 4] := rfl
 rw [hks]
 unfold focus
 rw [if_pos hap]
 simp only [e1, e2, hp, backF, hl5, hn, er]
 rcases hs with rfl | rfl <;>
 simp only [List.length_nil, baseF, freeL, AM.apart, if_true, List.append_nil, ren, renL, unf, outF, posF, h0, h1, h2, h3, h4, List.getElem?_cons_zero, List.getElem?_cons_succ, Nat.reduceLT, goodB, BS.open_, Bool.true_or, Bool.false_or, rhB, Zj, decide_true, Bool.and_self, renB, hl5, upds, Zi, Zl, Nat.reduceEqDiff, Nat.reduceLeDiff, if_false, Nat.reduceAdd, reduceCtorEq]
end
abbrev rsN (n : Nat) (left t : Int) (L : List (List Int)) : St :=
 ([(9, .int .i64 t), (5, .ptr 2 0 1), (1, .int .i64 left), (0, .nilsl)], (0, ⟨.box, [.int .i64 n]⟩) :: (1, ⟨.box, [oV 400 1 L.length]⟩) :: (2, ⟨.box, [rwK 0 1 2]⟩) :: oH 400 (lcs L))
theorem ZLJ {d : Nat} {n m : Nat} {left t : Int} (ht : 0 ≤ t ∧ t ≤ 1000) (hlf : 0 ≤ left ∧ left ≤ 1000) (hC : RoC d [t] n 1 m (left - t) t) (L : List (List Int)) (h8 : L.length + 9 ^ m ≤ 900000) :
   ∃ s', execA E (kF d) (fg 105) 64 42 (rhN n) 1000000 Z0F (rsN n left t L) = some (.normal, s') ∧ headA (rhN n) s' = rsN n left (t - 1) (L ++ fuR [t] m (left - t) t) := by
 have e1 : ics [t] = [.int .i64 t] := rfl
 have g1 : t ≥ 0 := ht.1
 have w1 : wrp .i64 (left - t) = left - t := Z9 (by omega)
 have w2 : wrp .i64 (t - 1) = t - 1 := Z9 (by omega)
 rcases ocvL 400 L with ⟨hn0, o1, o2⟩ | ⟨hp0, o1, o2⟩
 · obtain ⟨st, hc⟩ := Zts (c := [.int .i64 t]) hC
   subst hn0
   rw [List.nil_append]
   simp only [rsN]
   rw [o1, o2]
   rw [e1] at hc
   generalize fuR [t] m (left - t) t = new at *
   generalize kF d = C at *
   rcases ocvL 400 new with ⟨hn1, p1, p2⟩ | ⟨hp1, p1, p2⟩ <;> rw [p1, p2] at hc ⊢ <;>
     simp (disch := omega) only [ZF, stp, just, Rd.bind, Rd.run, Rd.opt, upds, acells, zeroCells, tsz, elemT, rdCells, aLoad, fresh, aNum, aLen, Z1, aBin, aInt, putC, evO, Nat.reduceAdd, Nat.reduceMul, Nat.reduceLT, Nat.reduceBEq, Nat.reduceEqDiff, Nat.reduceLeDiff, ↓reduceIte, reduceCtorEq, stpT, Rd.foot, writing, Zb, Tr.empty, Zd, apartT, disj, Z6, Zg, partsOf, fillA, repC, Zh, aAppend, srcOf, window, mutX, snaps, aSlice, aBounds, bMax, bHigh, bLow, Int.reduceLE, Int.reduceToNat, ZT, Z0i, callVT, Z2u, g1, w1, w2, hc, Z01 (show 1 ≤ 1000000 by omega)] <;> exact ⟨_, rfl, rfl⟩
 · obtain ⟨st, hc⟩ := ZrJ (c := [.int .i64 t]) hC hp0 h8
   simp only [rsN]
   rw [o1, o2, ZR (show 0 < (L ++ fuR [t] m (left - t) t).length by rw [List.length_append]; omega), Z3e (show 0 < (L ++ fuR [t] m (left - t) t).length by rw [List.length_append]; omega)]
   rw [e1] at hc
   generalize L ++ fuR [t] m (left - t) t = new at *
   generalize lcs new = LN at *
   generalize new.length = nn at *
   generalize lcs L = LL at *
   generalize L.length = ll at *
   generalize kF d = C at *
   simp (disch := omega) only [ZF, stp, just, Rd.bind, Rd.run, Rd.opt, upds, acells, zeroCells, tsz, elemT, rdCells, aLoad, fresh, aNum, aLen, Z1, aBin, aInt, putC, evO, Nat.reduceAdd, Nat.reduceMul, Nat.reduceLT, Nat.reduceBEq, Nat.reduceEqDiff, Nat.reduceLeDiff, ↓reduceIte, reduceCtorEq, stpT, Rd.foot, writing, Zb, Tr.empty, Zd, apartT, disj, Z6, Zg, partsOf, fillA, repC, Zh, aAppend, srcOf, window, mutX, snaps, aSlice, aBounds, bMax, bHigh, bLow, Int.reduceLE, Int.reduceToNat, ZT, Z0i, callVT, Z2u, g1, w1, w2, hc, Z01 (show 1 ≤ 1000000 by omega)]
   exact ⟨_, rfl, rfl⟩
structure RoN (n : Nat) (new : List (List Int)) (H : AHeap) : Prop where
 h0 : hget H 0 = some ⟨.box, [.int .i64 n]⟩
 h1 : hget H 1 = some ⟨.box, [oV 400 1 new.length]⟩
 h2 : hget H 2 = some ⟨.box, [rwK 0 1 2]⟩
 hr : 0 < new.length → hget H 400 = some ⟨.row, lcs new⟩
theorem ZDI {d n : Nat} (h0 : 0 < n) (h6 : n ≤ 6) {left : Int} (hlf : 0 ≤ left ∧ left ≤ 1000) : ∃ H, pF (d + n + 1) 105 [.nilsl, .int .i64 left, .int .i64 8, .ptr 0 0 1, .ptr 1 0 1, .ptr 2 0 1] (rhN n) 64 = some (.tup [], H) ∧ RoN n (rowsL n left 8) H := by
 obtain ⟨m, rfl⟩ : ∃ m, n = m + 1 := ⟨n - 1, by omega⟩
 obtain ⟨m0, hm0⟩ : ∃ m0 : Nat, min 8 left = m0 := ⟨(min 8 left).toNat, by omega⟩
 have hrec : ∀ j : Nat, j < m0 + 1 → RoC (d + m + 1) ([] ++ [((m0 : Int) - j)]) (m + 1) 1 m (left - ((m0 : Int) - j)) ((m0 : Int) - j) := fun j hj =>
   Zsl h6 m _ 1 _ _ rfl (by omega) (by omega) (by omega)
 have hall := Zhv [] m hm0
 rw [ZEQ] at hall
 have h9 : 9 ^ (m + 1) ≤ 531441 := by have := Nat.pow_le_pow_right (n := 9) (by omega) (show m + 1 ≤ 6 by omega); omega
 have h9' : 9 ^ (m + 1) = 9 * 9 ^ m := by rw [Nat.pow_succ, Nat.mul_comm]
 have hfl : ∀ j, j ≤ m0 + 1 → (fuP [] m left m0 j).length ≤ j * 9 ^ m := Z8A [] m left m0 (by omega)
 have hj9 : ∀ j, j ≤ m0 → j * 9 ^ m ≤ 8 * 9 ^ m := fun j hj => Nat.mul_le_mul_right _ (by omega)
 have emin : (if left < 8 then left else 8) = (m0 : Int) := by rw [← hm0]; split <;> omega
 have gk : ¬ (0 : Int) = ((m + 1 : Nat) : Int) := by omega
 have gk' : ((0 : Int) == ((m + 1 : Nat) : Int)) = false := by rw [beq_eq_false_iff_ne]; exact gk
 have e2 : ∀ j : Nat, (m0 : Int) - ((j + 1 : Nat) : Int) = (m0 : Int) - j - 1 := fun j => by omega
 have ge : ¬ (m0 : Int) - ((m0 + 1 : Nat) : Int) ≥ 0 := by omega
 rw [show d + (m + 1) + 1 = (d + m + 1) + 1 by omega, pF_s]
 have hloop := loopM (f := execA E (kF (d + m + 1)) (fg 105) 64 42 (rhN (m + 1)) 1000000 Z0F) (E0 := rhN (m + 1)) (fun j => rsN (m + 1) left ((m0 : Int) - j) (fuP [] m left m0 j)) (m0 + 1) (fun j hj => by
     simp only [Z3G, e2]
     exact ZLJ (by omega) hlf (hrec j hj) (fuP [] m left m0 j) (by have := hfl j (by omega); have := hj9 j (by omega); omega)) (by
     have e0 : fuP [] m left m0 0 = [] := rfl
     simp only [rsN, e0]; rfl) (by omega)
   (e := .exit 0) (se := ([(24, .bool false), (9, .int .i64 ((m0 : Int) - ((m0 + 1 : Nat) : Int))), (5, .ptr 2 0 1), (1, .int .i64 left), (0, .nilsl)], (0, ⟨.box, [.int .i64 ((m + 1 : Nat) : Int)]⟩) :: (1, ⟨.box, [oV 400 1 (rowsL (m + 1) left 8).length]⟩) :: (2, ⟨.box, [rwK 0 1 2]⟩) :: oH 400 (lcs (rowsL (m + 1) left 8))))
   (by
     simp only [rsN, hall]
     rcases ocvL 400 (rowsL (m + 1) left 8) with ⟨_, o1, o2⟩ | ⟨_, o1, o2⟩ <;> rw [o1, o2] <;>
       simp (disch := omega) only [ZF, stp, just, Rd.bind, Rd.run, Rd.opt, upds, aBin, aInt, Nat.reduceBEq, Nat.reduceEqDiff, Nat.reduceLeDiff, ↓reduceIte, Z0i, ge]) (by simp)
 have e0 : fuP [] m left m0 0 = [] := rfl
 have v0 : oV 400 1 ([] : List (List Int)).length = .nilsl := rfl
 have o0 : oH 400 (lcs []) = [] := rfl
 have z0 : (m0 : Int) - ((0 : Nat) : Int) = m0 := by omega
 simp only [rsN, e0, v0, o0, z0, rhN] at hloop
 simp only [rhN]
 generalize rowsL (m + 1) left 8 = R at *
 generalize kF (d + m + 1) = C at *
 rcases ocvL 400 R with ⟨hn1, o1, o2⟩ | ⟨hp1, o1, o2⟩ <;> rw [o1, o2] at hloop
 · simp (disch := omega) only [ZF, Z3, stp, justO, just, Rd.bind, Rd.run, Rd.opt, upds, acells, zeroCells, tsz, elemT, rdCells, aLoad, resA, resL, fresh, aLen, Z1, aMin, aBin, aInt, putC, evO, Nat.reduceAdd, Nat.reduceLT, Nat.reduceBEq, Nat.reduceEqDiff, Nat.reduceLeDiff, ↓reduceIte, reduceCtorEq, Z6, Zg, partsOf, fillA, repC, Zh, aAppend, srcOf, window, snaps, ZT, Z0i, gk', emin, hloop]
   exact ⟨_, rfl, ⟨rfl, by rw [o1]; rfl, rfl, fun h => by rw [hn1] at h; simp at h⟩⟩
 · simp (disch := omega) only [ZF, Z3, stp, justO, just, Rd.bind, Rd.run, Rd.opt, upds, acells, zeroCells, tsz, elemT, rdCells, aLoad, resA, resL, fresh, aLen, Z1, aMin, aBin, aInt, putC, evO, Nat.reduceAdd, Nat.reduceLT, Nat.reduceBEq, Nat.reduceEqDiff, Nat.reduceLeDiff, ↓reduceIte, reduceCtorEq, Z6, Zg, partsOf, fillA, repC, Zh, aAppend, srcOf, window, snaps, ZT, Z0i, gk', emin, hloop]
   exact ⟨_, rfl, ⟨rfl, by rw [o1]; rfl, rfl, fun h => rfl⟩⟩
theorem newsN {n : Nat} {new : List (List Int)} {H : AHeap} (h : RoN n new H) : newsF H (.tup []) 3 = if new = [] then [] else [400] := by
 obtain ⟨h0, h1, h2, hr⟩ := h
 have e : refsOf (.tup []) ++ List.range 3 = [0, 1, 2] := rfl
 unfold newsF
 rw [e]
 cases hn : new with
 | nil =>
   subst hn
   rw [if_pos rfl]
   have hv : oV 400 1 ([] : List (List Int)).length = .nilsl := rfl
   rw [hv] at h1
   simp [mark, h0, h1, h2, refsL, refsOf]
 | cons x xs =>
   rw [← hn]
   have hp : 0 < new.length := by rw [hn]; simp
   rw [if_neg (by rw [hn]; simp)]
   rw [ZR hp] at h1
   have hr := hr hp
   simp [mark, h0, h1, h2, hr, refsL, refsOf]
theorem ZOG {d n : Nat} (h0 : 0 < n) (h6 : n ≤ 6) {left : Int} (hlf : 0 ≤ left ∧ left ≤ 1000) : kF (d + n + 1) 105 [.nilsl, .int .i64 left, .int .i64 8, .ptr 2 0 1, .ptr 5 0 1, .ptr 6 0 1] [(2, ⟨.box, [.int .i64 n]⟩), (5, ⟨.box, [.nilsl]⟩), (6, ⟨.box, [rwK 2 5 6]⟩)] 96 =
   some (.tup [], (2, ⟨.box, [.int .i64 n]⟩) :: (5, ⟨.box, [oV 96 1 (rowsL n left 8).length]⟩) :: (6, ⟨.box, [rwK 2 5 6]⟩) :: oH 96 (lcs (rowsL n left 8))) := by
 obtain ⟨H, hp, ro⟩ := ZDI (d := d) h0 h6 hlf
 rw [Z0b rfl]
 have hks : (mark [(2, ⟨.box, [.int .i64 n]⟩), (5, ⟨.box, [.nilsl]⟩), (6, ⟨.box, [rwK 2 5 6]⟩)] 1000 (refsL [.nilsl, .int .i64 left, .int .i64 8, .ptr 2 0 1, .ptr 5 0 1, .ptr 6 0 1]) []).reverse = [2, 5, 6] := rfl
 have hap : AM.apart [2, 5, 6] = true := rfl
 have e1 : renL (posF [2, 5, 6] 0) [.nilsl, .int .i64 left, .int .i64 8, .ptr 2 0 1, .ptr 5 0 1, .ptr 6 0 1] = some [.nilsl, .int .i64 left, .int .i64 8, .ptr 0 0 1, .ptr 1 0 1, .ptr 2 0 1] := rfl
 have e2 : foc (posF [2, 5, 6] 0) [(2, ⟨.box, [.int .i64 n]⟩), (5, ⟨.box, [.nilsl]⟩), (6, ⟨.box, [rwK 2 5 6]⟩)] 0 [2, 5, 6] = some (rhN n) := rfl
 have hn := newsN ro
 obtain ⟨h0, h1, h2, hr⟩ := ro
 have hl3 : ([2, 5, 6] : List Nat).length = 3 := rfl
 have er : List.range 3 = [0, 1, 2] := rfl
 rw [hks]
 unfold focus
 rw [if_pos hap]
 simp only [e1, e2, hp, backF, hl3, hn, er]
 rcases ocvL 96 (rowsL n left 8) with ⟨hn0, o1, o2⟩ | ⟨hp0, o1, o2⟩
 · rw [o1, o2]
   rw [hn0] at h1
   have hv : oV 400 1 ([] : List (List Int)).length = .nilsl := rfl
   rw [hv] at h1
   simp only [hn0, if_true, List.length_nil, baseF, freeL, AM.apart, List.append_nil, ren, renL, unf, outF, posF, h0, h1, h2, List.getElem?_cons_zero, List.getElem?_cons_succ, Nat.reduceLT, if_true, goodB, BS.open_, Bool.true_or, renB, hl3, upds, Zi, Zl, Nat.reduceEqDiff, Nat.reduceLeDiff, if_false, Nat.reduceAdd]
 · rw [o1, o2]
   rw [ZR hp0] at h1
   have hr := hr hp0
   have hne : ¬ rowsL n left 8 = [] := fun e => by rw [e] at hp0; simp at hp0
   have hbase : baseF [(2, ⟨.box, [.int .i64 n]⟩), (5, ⟨.box, [.nilsl]⟩), (6, ⟨.box, [rwK 2 5 6]⟩)] 1 8 96 = some 96 := rfl
   simp only [hne, if_false, List.length_cons, List.length_nil, Nat.zero_add, hbase, AM.apart, List.elem_nil, Bool.not_false, Bool.and_self, if_true, List.cons_append, List.nil_append, ren, renL, unf, outF, posF, h0, h1, h2, hr, List.getElem?_cons_zero, List.getElem?_cons_succ, Nat.reduceLT, goodB, BS.open_, Bool.true_or, renB, hl3, upds, Zi, Zl, Nat.reduceEqDiff, Nat.reduceLeDiff, Nat.add_zero, reduceCtorEq]
theorem ZrL {d n : Nat} {site : Nat → Nat} {seen : List Nat} (h0 : 0 < n) (h6 : n ≤ 6) {left : Int} (hlf : 0 ≤ left ∧ left ≤ 1000) : aBack site true seen (thaw (kF (d + n + 2)) 59 [.int .i64 n, .int .i64 left] [] 0) =
   if rowsL n left 8 = [] then .pure (.nilsl, []) else Z0g (site 0) seen (fun k => .ref k 0 (rowsL n left 8).length (rowsL n left 8).length (rowsL n left 8).length 1 false) ⟨.row, lcs (rowsL n left 8)⟩ := by
 have hc := ZOG (d := d) h0 h6 hlf
 have key : (rowsL n left 8 = [] ∧ ∃ H, bodyA E (kF (d + n + 1)) fg 1000000 59 [.int .i64 n, .int .i64 left] [] 0 = some (.nilsl, H)) ∨ (0 < (rowsL n left 8).length ∧ ∃ H, bodyA E (kF (d + n + 1)) fg 1000000 59 [.int .i64 n, .int .i64 left] [] 0 = some (.ref 96 0 (rowsL n left 8).length (rowsL n left 8).length (rowsL n left 8).length 1 false, H) ∧ hget H 96 = some ⟨.row, lcs (rowsL n left 8)⟩) := by
   generalize rowsL n left 8 = R at *
   generalize kF (d + n + 1) = C at *
   rcases ocvL 96 R with ⟨hn1, o1, o2⟩ | ⟨hp1, o1, o2⟩ <;> rw [o1, o2] at hc
   · refine .inl ⟨hn1, ?_⟩
     simp (disch := omega) only [ZF, Z3, stp, opBox, just, Rd.bind, Rd.run, Rd.opt, upds, acells, zeroCells, tsz, rdCells, aLoad, aStore, opStore, resA, resL, fresh, putC, Nat.reduceMul, Nat.reduceBEq, Nat.reduceEqDiff, Nat.reduceLeDiff, ↓reduceIte, reduceCtorEq, mutX, snaps, ZT, F_59, callV, Z2u, hc]
     exact ⟨_, rfl⟩
   · refine .inr ⟨hp1, ?_⟩
     simp (disch := omega) only [ZF, Z3, stp, opBox, just, Rd.bind, Rd.run, Rd.opt, upds, acells, zeroCells, tsz, rdCells, aLoad, aStore, opStore, resA, resL, fresh, putC, Nat.reduceMul, Nat.reduceBEq, Nat.reduceEqDiff, Nat.reduceLeDiff, ↓reduceIte, reduceCtorEq, mutX, snaps, ZT, F_59, callV, Z2u, hc]
     exact ⟨_, rfl, rfl⟩
 rcases key with ⟨e, H, h1⟩ | ⟨hp, H, h1, h2⟩
 · rw [if_pos e]
   exact Zrz ⟨H, by rw [Z15 rfl]; exact h1⟩
 · rw [if_neg (fun e => by rw [e] at hp; simp at hp)]
   exact Z3M (by rw [Z15 rfl]; exact h1) h2 (ZO _)
end Go.AM.Ytfmnoohhhokicaa
end
noncomputable section
namespace Go.AM.Ytfmnoohhhokicaa
open Go Go.AM Go.AM.Rub
theorem ZyK {n : Nat} {l : List Int} (h : Rw n l) : l.take n = l := List.take_of_length_le (by rw [h.len]; exact Nat.le_refl _)
theorem totalA {d : Nat} {site : Nat → Nat} {seen : List Nat} {n : Nat} {l : List Int} (h : Rw n l) (hn : n ≤ 8) {ex : Bool} : aBack site true seen (thaw (kF (d + 1)) 58 [.imm (ics l) n ex] [] 0) = .pure (.int .i64 (ps (rowF l) n), []) := by
 have := Z0T (d := d) (site := site) (seen := seen) h hn (Nat.le_refl n) (ex := ex)
 rw [ZyK h] at this
 exact this
theorem ZyJ {n : Nat} {l : List Int} (h : Rw n l) : l ∈ rowsL n (ps (rowF l) n) 8 := by
 rw [Z1i]
 exact ⟨h.len, by rw [← Z1m, h.len], h.row⟩
theorem Z8n {n : Nat} {s : Int} {l : List Int} (h : l ∈ rowsL n s 8) : Rw n l ∧ ps (rowF l) n = s := by
 rw [Z1i] at h
 exact ⟨⟨h.1, h.2.2⟩, by rw [← h.2.1, ← Z1m, h.1]⟩
theorem Zt8 {n : Nat} {l : List Int} (h : Rw n l) (h0 : 0 < n) (h6 : n ≤ 6) : chkR l = 0 := by
 rw [Z1Q, h.len]; exact ⟨h0, h6, h⟩
end Go.AM.Ytfmnoohhhokicaa
end
noncomputable section
namespace Go.AM.Rub
theorem Zov {n : Nat} {a f : List Int} (ha : Rw n a) (hf : Rw n f) (ht : totL a = totL f) (h0 : 0 < n) (hd : rowF f 0 - rowF f (n - 1) ≤ 1) : MajL a f := by
 have la := ha.len
 have lf := hf.len
 have df := Z0v hf.row
 rw [lf] at df
 have eqt : ps (rowF a) n = ps (rowF f) n := by
   have x := Z1m a
   have y := Z1m f
   rw [la] at x
   rw [lf] at y
   omega
 unfold MajL
 rw [la]
 refine ⟨eqt, ?_⟩
 have two : ∀ k, k < n → rowF f k = rowF f 0 ∨ rowF f k = rowF f 0 - 1 := fun k hk => by
   have x := Z0s df (show 0 ≤ k by omega) hk
   have y := Z0s df (show k ≤ n - 1 by omega) (by omega)
   omega
 have da := Z0v ha.row
 rw [la] at da
 intro k hk
 by_cases hx : ∃ m, m < n + 1 ∧ ps (rowF a) m < ps (rowF f) m
 · exfalso
   obtain ⟨m, hm, hm1, hm2⟩ := Z5t (n + 1) hx
   have m0 : m ≠ 0 := fun e => by subst e; simp [ps] at hm1
   obtain ⟨q, rfl⟩ : ∃ q, m = q + 1 := ⟨m - 1, by omega⟩
   have p := hm2 q (by omega)
   have x1 : ps (rowF a) (q + 1) = ps (rowF a) q + rowF a q := rfl
   have y1 : ps (rowF f) (q + 1) = ps (rowF f) q + rowF f q := rfl
   have lt : rowF a q < rowF f q := by omega
   have rest : ∀ j, q + 1 + j ≤ n → ps (rowF a) (q + 1 + j) < ps (rowF f) (q + 1 + j) := by
     intro j
     induction j with
     | zero => intro _; exact hm1
     | succ j ih =>
       intro hj
       have := ih (by omega)
       have u := Z0s da (show q ≤ q + 1 + j by omega) (by omega)
       have v := Z0s df (show q ≤ q + 1 + j by omega) (by omega)
       have w1 := two q (by omega)
       have w2 := two (q + 1 + j) (by omega)
       rw [show q + 1 + (j + 1) = q + 1 + j + 1 by omega]
       simp only [ps]
       omega
   have := rest (n - (q + 1)) (by omega)
   rw [show q + 1 + (n - (q + 1)) = n by omega] at this
   omega
 · by_cases e : ps (rowF f) k ≤ ps (rowF a) k
   · exact e
   · exact absurd ⟨k, by omega, by omega⟩ hx
theorem ZrZ (a : List Int) : MajL a a := Maj.refl _ _
end Go.AM.Rub
end
noncomputable section
namespace Go.AM.Ytfmnoohhhokicaa
open Go Go.AM Go.AM.Rub
theorem Zhm {n : Nat} {a : List Int} (h : Rw n a) : ∀ m j, j + m ≤ n → ps (rowF a) j ≤ ps (rowF a) (j + m)
 | 0, j, _ => Int.le_refl _
 | m + 1, j, hj => by
   have ih := Zhm h m j (by omega)
   have := rw_b h (k := j + m) (by omega)
   rw [show j + (m + 1) = j + m + 1 by omega, ps]
   omega
theorem Z6b {n : Nat} {a l : List Int} (ha : Rw n a) (hl : Rw n l) (he : ps (rowF l) n = ps (rowF a) n) : okE (ps (rowF a)) 0 0 l = true ↔ MajL a l := by
 rw [Zrw, hl.len]
 constructor
 · intro h
   refine ⟨by rw [ha.len, he], fun k hk => ?_⟩
   rw [ha.len] at hk
   cases k with
   | zero => exact Int.le_refl _
   | succ k =>
     have := h k (by omega)
     rw [Nat.zero_add] at this
     omega
 · intro h j hj
   have := h.le (j + 1) (by rw [ha.len]; omega)
   rw [Nat.zero_add]
   omega
theorem Zrh {n : Nat} {a : List Int} (ha : Rw n a) (p : List Int → Bool) (hp : ∀ l, Rw n l → ps (rowF l) n = ps (rowF a) n → (p l = true ↔ MajL a l)) : beL a = (rowsL n (ps (rowF a) n) 8).filter p := by
 unfold beL
 have hx : ∀ j, j ≤ a.length → ps (rowF a) j ≤ ps (rowF a) a.length := fun j hj => by
   have := Zhm ha (a.length - j) j (by rw [ha.len] at hj ⊢; omega)
   rw [show j + (a.length - j) = a.length by omega] at this
   exact this
 rw [ZrR hx a.length [] 0 8 (by simp) (by omega) (fun h0 => by rw [h0]; rfl), ha.len, Int.sub_zero]
 simp only [List.nil_append, List.map_id']
 apply List.filter_congr
 intro l hl
 obtain ⟨h1, h2⟩ := Z8n hl
 rw [Bool.eq_iff_iff, hp l h1 h2]
 exact Z6b ha h1 h2
theorem ZEj {n : Nat} {a l : List Int} (ha : Rw n a) : l ∈ beL a ↔ Rw n l ∧ ps (rowF l) n = ps (rowF a) n ∧ MajL a l := by
 rw [Zrh ha (okE (ps (rowF a)) 0 0) fun l hl he => Z6b ha hl he, List.mem_filter]
 constructor
 · rintro ⟨h, ho⟩
   obtain ⟨h1, h2⟩ := Z8n h
   exact ⟨h1, h2, (Z6b ha h1 h2).1 ho⟩
 · rintro ⟨h1, h2, h3⟩
   refine ⟨by rw [← h2]; exact ZyJ h1, (Z6b ha h1 h2).2 h3⟩
theorem Zmo {n : Nat} {a : List Int} (ha : Rw n a) : 0 < (beL a).length := List.length_pos_of_mem ((ZEj ha).2 ⟨ha, rfl, ZrZ a⟩)
theorem ZuI {n : Nat} {s : Int} (h : n ≤ 6) : (rowsL n s 8).length ≤ 531441 := by
 have := Z41 n s 8 (by omega)
 have := Nat.pow_le_pow_right (n := 9) (show 0 < 9 by omega) h
 omega
theorem ZrI {d : Nat} {l : List Int} {a : AV} (ha : IV l a) (hl : l.length ≤ 1000) :
   (chkR l ≠ 0 ∧ ∃ H, bodyA E (kF (d + 10)) fg 1000000 37 [a] [] 0 = some (.tup [.nilsl, .int .i64 (chkR l)], H)) ∨
   (chkR l = 0 ∧ ∃ H, bodyA E (kF (d + 10)) fg 1000000 37 [a] [] 0 = some (.tup [.ref 232 0 (beL l).length (beL l).length (beL l).length 1 false, .int .i64 0], H) ∧ hget H 232 = some ⟨.row, lcs (beL l)⟩) := by
 have hc := fun (site : Nat → Nat) seen => Z3t (d := d + 9) (site := site) (seen := seen) ha hl
 have sn := Z8v ha
 by_cases h0 : chkR l = 0
 · obtain ⟨hp, h6, hr⟩ := Z1Q.1 h0
   obtain ⟨H, he, h5, h232⟩ := ZxB (d := d + 6 - l.length) ha hr hp h6
   rw [show d + 6 - l.length + l.length + 3 = d + 9 by omega] at he
   have he := (Z15 (d := d + 9) (f := 92) rfl [a, vB 5] [(5, ⟨.box, [.nilsl]⟩)] 120).trans he
   have h232 := h232 (Zmo hr)
   rw [ZR (Zmo hr)] at h5
   refine .inr ⟨h0, H, ?_⟩
   rw [h0] at hc
   generalize kF (d + 10) = C at *
   simp (disch := omega) only [ZF, Z3, stp, opBox, just, Rd.bind, Rd.run, Rd.opt, upds, zeroCells, rdCells, aLoad, resA, resL, fresh, aBin, aInt, Nat.reduceMul, Nat.reduceBEq, Nat.reduceEqDiff, Nat.reduceLeDiff, ↓reduceIte, reduceCtorEq, mutX, aCall, snaps, ZT, F_37, hc, he, h5, h232, sn 198]
 · refine .inl ⟨h0, ?_⟩
   generalize kF (d + 10) = C at *
   generalize chkR l = z at *
   have h0' : (z == 0) = false := by rw [beq_eq_false_iff_ne]; exact h0
   simp (disch := omega) only [ZF, Z3, stp, just, Rd.bind, Rd.run, Rd.opt, upds, resA, resL, aBin, aInt, Nat.reduceBEq, Nat.reduceEqDiff, Nat.reduceLeDiff, ↓reduceIte, reduceCtorEq, aCall, snaps, F_37, hc, h0, sn 198]
   exact ⟨_, rfl⟩
def RLL (C : Callee) (f : FuncId) (args : List AV) (e : Int) (L : List (List Int)) : Prop :=
 (e ≠ 0 ∧ ∀ (site : Nat → Nat) seen, aBack site true seen (thaw C f args [] 0) = .pure (.tup [.nilsl, .int .i64 e], [])) ∨
 (e = 0 ∧ ∀ (site : Nat → Nat) seen, aBack site true seen (thaw C f args [] 0) = Z0g (site 0) seen (fun k => .tup [.ref k 0 L.length L.length L.length 1 false, .int .i64 0]) ⟨.row, lcs L⟩)
theorem Zwz {d : Nat} {l : List Int} {a : AV} (ha : IV l a) (hl : l.length ≤ 1000) : RLL (kF (d + 11)) 37 [a] (chkR l) (beL l) := by
 rcases ZrI (d := d) ha hl with ⟨h0, H, h⟩ | ⟨h0, H, h1, h2⟩
 · exact .inl ⟨h0, fun site seen => Z3Z ⟨H, by rw [Z15 rfl]; exact h⟩⟩
 · exact .inr ⟨h0, fun site seen => Z3N (by rw [Z15 rfl]; exact h1) h2 (ZO _)⟩
theorem Zpr {d n : Nat} {l : List Int} {a : AV} (ha : IV l a) (hr : Rw n l) (h0 : 0 < n) (h6 : n ≤ 6) (site : Nat → Nat) (seen : List Nat) :
   aBack site true seen (thaw (kF (d + 11)) 37 [a] [] 0) = Z0g (site 0) seen (fun k => .tup [.ref k 0 (beL l).length (beL l).length (beL l).length 1 false, .int .i64 0]) ⟨.row, lcs (beL l)⟩ := by
 rcases Zwz (d := d) ha (by rw [hr.len]; omega) with ⟨hz, _⟩ | ⟨_, h⟩
 · exact absurd (Zt8 hr h0 h6) hz
 · exact h site seen
end Go.AM.Ytfmnoohhhokicaa
end
noncomputable section
namespace Go.AM.Ytfmnoohhhokicaa
open Go Go.AM Go.AM.Rub
theorem nineC {N a b : Nat} (h : b + 9 * N ≤ 900000) (h1 : a ≤ 8 * N) : b + a + N ≤ 900000 := by omega
theorem Zra {d n : Nat} {xs : List Int} {x : Nat → Int} (hn0 : 0 < n) (h6 : n ≤ 6) (hxl : xs.length = n + 1) (hxx : ∀ j, j ≤ n → (ics xs)[j]? = some (.int .i64 (x j))) (hxb : ∀ j, j ≤ n → 0 ≤ x j ∧ x j ≤ 500) : ∀ (m : Nat) (l : List Int) (k : Nat) (sum most : Int), l.length = k → k + m = n → 0 ≤ sum ∧ sum ≤ 8 * k → 0 ≤ most ∧ most ≤ 8 → EcC (d + m + 2) l xs x n k m sum most
 | 0, l, k, sum, most, hl, hk, _, _ => by
   rw [Nat.add_zero] at hk
   subst hk
   exact ZI8 hl
 | m + 1, l, k, sum, most, hl, hk, hs, hm => by
   intro c0 h8
   have hb1 := hxb (k + 1) (by omega)
   have hbn := hxb n (Nat.le_refl _)
   obtain ⟨t0, ht0⟩ : ∃ t0 : Int, min most (x (k + 1) - sum) = t0 := ⟨_, rfl⟩
   have ht8 : t0 ≤ 8 := by omega
   have ht1 : t0 < ((100 : Nat) : Int) := by omega
   have hc9 := Z3b (x n - sum) (m + 1) 100 t0 ht8
   obtain ⟨hin, hout⟩ := Z1e (x n - sum) (m + 1) 100 t0 ht1
   clear ht1
   obtain ⟨c, hcc⟩ : ∃ c : Nat, cntE (x n - sum) (m + 1) 100 t0 = c := ⟨_, rfl⟩
   rw [hcc] at hin hout hc9
   have hall : eaP x n m l sum t0 c = eaR x n (m + 1) l sum most := by rw [Z1y, hl, ht0, hcc]
   clear hcc
   have hrec : ∀ j : Nat, j < c → EcC (d + m + 2) (l ++ [t0 - j]) xs x n (k + 1) m (sum + (t0 - j)) (t0 - j) := fun j hj => by
     have := (hin j hj).2
     clear h8
     exact Zra hn0 h6 hxl hxx hxb m (l ++ [t0 - j]) (k + 1) (sum + (t0 - j)) (t0 - j) (by simp [hl]) (by omega) (by omega) (by omega)
   have hlen : (ics l).length = k := by rw [Z7, hl]
   have hxlen : (ics xs).length = n + 1 := by rw [Z7, hxl]
   have hx1 : (ics xs)[k + 1]? = some (.int .i64 (x (k + 1))) := hxx (k + 1) (by omega)
   have hxn : (ics xs)[n]? = some (.int .i64 (x n)) := hxx n (Nat.le_refl _)
   have h9s : 9 ^ (m + 1) = 9 * 9 ^ m := by rw [Nat.pow_succ, Nat.mul_comm]
   have hfl : ∀ j, j < c → (eaP x n m l sum t0 j).length ≤ 8 * 9 ^ m := fun j hj => Nat.le_trans (Z3a x n m l sum t0 ht8 j) (Nat.mul_le_mul_right _ (by omega))
   have hB8 : ∀ j, j < c → c0 + (eaP x n m l sum t0 j).length + 9 ^ m ≤ 900000 := fun j hj => by
     rw [h9s] at h8
     exact nineC h8 (hfl j hj)
   clear h9s h8 hfl
   have gk : ¬ (k : Int) = n := by omega
   have gk' : ((k : Int) == n) = false := by rw [beq_eq_false_iff_ne]; exact gk
   have b1 : (0 : Int) ≤ ((k + 1 : Nat) : Int) ∧ ((k + 1 : Nat) : Int) < ((n + 1 : Nat) : Int) := by omega
   have bn : (0 : Int) ≤ (n : Int) ∧ (n : Int) < ((n + 1 : Nat) : Int) := by omega
   have w1 : ∀ _ : Unit, wrp .i64 (x n - sum) = x n - sum := fun _ => Z9 (by omega)
   have w2 : ∀ _ : Unit, wrp .i64 (x (k + 1) - sum) = x (k + 1) - sum := fun _ => Z9 (by omega)
   have w3 : ∀ _ : Unit, wrp .i64 ((k : Int) + 1) = ((k + 1 : Nat) : Int) := fun _ => by rw [Z9 (by omega)]; omega
   have emin : (if x (k + 1) - sum < most then x (k + 1) - sum else most) = t0 := by rw [← ht0]; split <;> omega
   have e2 : ∀ j : Nat, t0 - ((j + 1 : Nat) : Int) = t0 - j - 1 := fun j => by omega
   have z0 : t0 - ((0 : Nat) : Int) = t0 := by omega
   have hnk : ∀ _ : Unit, wrp .i64 ((n : Int) - k) = ((m + 1 : Nat) : Int) := fun _ => by rw [Z9 (by omega)]; omega
   have hmb := mulb (t := t0 - c) (m := m + 1) (by omega) (by omega)
   obtain ⟨P, hP⟩ : ∃ P, (t0 - c) * ((m + 1 : Nat) : Int) = P := ⟨_, rfl⟩
   rw [hP] at hout hmb
   have w0 : ∀ _ : Unit, wrp .i64 ((t0 - c) * ((m + 1 : Nat) : Int)) = P := fun _ => by rw [hP]; exact Z9 (by omega)
   clear hP
   rw [show d + (m + 1) + 2 = (d + m + 2) + 1 by omega, pF_s]
   have hloop := loopM (f := execA E (kF (d + m + 2)) (fg 116) 64 62 (chA l (ics xs) n c0) 1000000 ZY) (E0 := chA l (ics xs) n c0) (fun j => csA l xs n k sum (x n - sum) (t0 - j) (c0 + (eaP x n m l sum t0 j).length)) c (fun j hj => by
       simp only [Z19, e2, List.length_append, ← Nat.add_assoc]
       exact ZUg hl hk (by omega) (by omega) (by omega) (hin j hj) (hrec j hj) c0 (c0 + (eaP x n m l sum t0 j).length) (hB8 j hj)) (Z25 (by simp [chA, Zj])) (by omega)
     (e := .exit 0) (se := ([(46, .bool false), (12, .int .i64 (t0 - c)), (11, .int .i64 (x n - sum)), (10, .int .i64 k), (6, .ptr 6 0 1), (3, .ptr 1 0 1), (1, .int .i64 sum), (0, .ref 0 0 k k k 1 false)], chA l (ics xs) n ((c0 + (eaR x n (m + 1) l sum most).length : Nat) : Int)))
     (by
       simp only [csA, hall, chA]
       generalize x n - sum = lf at *
       by_cases g1 : P ≥ lf
       · have g2 : ¬ t0 - c ≥ 0 := fun h => hout ⟨g1, h⟩
         simp (disch := omega) only [ZF, ↓gd, stp, opPick, just, Rd.bind, Rd.run, Rd.opt, upds, rdCells, aLoad, aBin, aInt, Nat.reduceBEq, Nat.reduceEqDiff, Nat.reduceLeDiff, ↓reduceIte, reduceCtorEq, ZT, ZG, hnk (), w0 (), g1, g2]
       · simp (disch := omega) only [ZF, ↓gd, stp, opPick, just, Rd.bind, Rd.run, Rd.opt, upds, rdCells, aLoad, aBin, aInt, Nat.reduceBEq, Nat.reduceEqDiff, Nat.reduceLeDiff, ↓reduceIte, reduceCtorEq, ZT, ZG, hnk (), w0 (), g1]) (by simp)
   have e0 : eaP x n m l sum t0 0 = [] := rfl
   simp only [csA, e0, z0, chA, List.length_nil, Nat.add_zero] at hloop
   simp only [chA]
   generalize c0 + (eaR x n (m + 1) l sum most).length = R at *
   generalize kF (d + m + 2) = C at *
   simp (disch := omega) only [ZF, Z3, stp, justO, just, Rd.bind, Rd.run, Rd.opt, upds, tsz, rdCells, aLoad, resA, resL, Z4, aNum, aLen, Z1, aMin, aBin, aInt, Nat.reduceAdd, Nat.reduceMul, Nat.reduceLT, Nat.reduceBEq, Nat.reduceEqDiff, Nat.reduceLeDiff, ↓reduceIte, reduceCtorEq, ZT, ZG, hlen, hxlen, hx1, hxn, w1 (), w2 (), w3 (), b1, bn, gk', emin, hloop]
   exact ⟨_, rfl, ⟨rfl, rfl, rfl, rfl, rfl, rfl, rfl⟩⟩
structure EcN (xs : List Int) (n : Nat) (c : Int) (H : AHeap) : Prop where
 h0 : hget H 0 = some ⟨.box, [.int .i64 n]⟩
 h1 : hget H 1 = some ⟨.box, [vC 2]⟩
 h2 : hget H 2 = some ⟨.box, [.int .i64 c]⟩
 h3 : hget H 3 = some ⟨.box, [.ref 4 0 (n + 1) (n + 1) (n + 1) 1 false]⟩
 h4 : hget H 4 = some ⟨.row, ics xs⟩
 h5 : hget H 5 = some ⟨.box, [puK 0 1 3 5]⟩
theorem ZDr {d n : Nat} {xs : List Int} {x : Nat → Int} (hn0 : 0 < n) (h6 : n ≤ 6) (hxl : xs.length = n + 1) (hxx : ∀ j, j ≤ n → (ics xs)[j]? = some (.int .i64 (x j))) (hxb : ∀ j, j ≤ n → 0 ≤ x j ∧ x j ≤ 500) {sum : Int} (hs : sum = 0) :
   ∃ H, pF (d + n + 2) 116 [.nilsl, .int .i64 sum, .int .i64 8, .ptr 0 0 1, .ptr 1 0 1, .ptr 3 0 1, .ptr 5 0 1] (chN (ics xs) n 0) 64 = some (.tup [], H) ∧ EcN xs n (eaR x n n [] sum 8).length H := by
 obtain ⟨m, rfl⟩ : ∃ m, n = m + 1 := ⟨n - 1, by omega⟩
 have hb1 := hxb 1 (by omega)
 have hbn := hxb (m + 1) (Nat.le_refl _)
 obtain ⟨t0, ht0⟩ : ∃ t0 : Int, min 8 (x 1 - sum) = t0 := ⟨_, rfl⟩
 have ht8 : t0 ≤ 8 := by omega
 have ht1 : t0 < ((100 : Nat) : Int) := by omega
 have hc9 := Z3b (x (m + 1) - sum) (m + 1) 100 t0 ht8
 obtain ⟨hin, hout⟩ := Z1e (x (m + 1) - sum) (m + 1) 100 t0 ht1
 clear ht1
 obtain ⟨c, hcc⟩ : ∃ c : Nat, cntE (x (m + 1) - sum) (m + 1) 100 t0 = c := ⟨_, rfl⟩
 rw [hcc] at hin hout hc9
 have hall : eaP x (m + 1) m [] sum t0 c = eaR x (m + 1) (m + 1) [] sum 8 := by rw [Z1y, List.length_nil, Nat.zero_add, ht0, hcc]
 clear hcc
 have hrec : ∀ j : Nat, j < c → EcC (d + m + 2) [t0 - j] xs x (m + 1) 1 m (sum + (t0 - j)) (t0 - j) := fun j hj => by
   have := (hin j hj).2
   exact Zra hn0 h6 hxl hxx hxb m [t0 - j] 1 (sum + (t0 - j)) (t0 - j) rfl (by omega) (by omega) (by omega)
 have hxlen : (ics xs).length = m + 1 + 1 := by rw [Z7, hxl]
 have hx1 : (ics xs)[1]? = some (.int .i64 (x 1)) := hxx 1 (by omega)
 have hxn : (ics xs)[m + 1]? = some (.int .i64 (x (m + 1))) := hxx (m + 1) (Nat.le_refl _)
 have gk : ¬ (0 : Int) = ((m + 1 : Nat) : Int) := by omega
 have gk' : ((0 : Int) == ((m + 1 : Nat) : Int)) = false := by rw [beq_eq_false_iff_ne]; exact gk
 have b1 : (0 : Int) ≤ 1 ∧ (1 : Int) < ((m + 1 + 1 : Nat) : Int) := by omega
 have bn : (0 : Int) ≤ ((m + 1 : Nat) : Int) ∧ ((m + 1 : Nat) : Int) < ((m + 1 + 1 : Nat) : Int) := by omega
 have w1 : ∀ _ : Unit, wrp .i64 (x (m + 1) - sum) = x (m + 1) - sum := fun _ => Z9 (by omega)
 have w2 : ∀ _ : Unit, wrp .i64 (x 1 - sum) = x 1 - sum := fun _ => Z9 (by omega)
 have w3 : wrp .i64 (0 + 1) = 1 := rfl
 have emin : (if x 1 - sum < 8 then x 1 - sum else 8) = t0 := by rw [← ht0]; split <;> omega
 have e2 : ∀ j : Nat, t0 - ((j + 1 : Nat) : Int) = t0 - j - 1 := fun j => by omega
 have z0 : t0 - ((0 : Nat) : Int) = t0 := by omega
 have hnk : ∀ _ : Unit, wrp .i64 (((m + 1 : Nat) : Int) - 0) = ((m + 1 : Nat) : Int) := fun _ => by rw [Z9 (by omega)]; omega
 have hmb := mulb (t := t0 - c) (m := m + 1) (by omega) (by omega)
 obtain ⟨P, hP⟩ : ∃ P, (t0 - c) * ((m + 1 : Nat) : Int) = P := ⟨_, rfl⟩
 rw [hP] at hout hmb
 have w0 : ∀ _ : Unit, wrp .i64 ((t0 - c) * ((m + 1 : Nat) : Int)) = P := fun _ => by rw [hP]; exact Z9 (by omega)
 clear hP
 have h9c : ∀ _ : Unit, 9 ^ (m + 1) ≤ 531441 := fun _ => by have := Nat.pow_le_pow_right (n := 9) (by omega) (show m + 1 ≤ 6 by omega); omega
 have h9s : 9 ^ (m + 1) = 9 * 9 ^ m := by rw [Nat.pow_succ, Nat.mul_comm]
 have hfl : ∀ j, j < c → (eaP x (m + 1) m [] sum t0 j).length ≤ 8 * 9 ^ m := fun j hj => Nat.le_trans (Z3a x (m + 1) m [] sum t0 ht8 j) (Nat.mul_le_mul_right _ (by omega))
 have hA8 : ∀ j, j < c → 0 + (eaP x (m + 1) m [] sum t0 j).length + 9 ^ m ≤ 900000 := fun j hj => by rw [Nat.zero_add]; exact nineA (hfl j hj) (by rw [← h9s]; exact h9c ())
 clear h9s hfl
 rw [show d + (m + 1) + 2 = (d + m + 2) + 1 by omega, pF_s]
 have hloop := loopM (f := execA E (kF (d + m + 2)) (fg 116) 64 62 (chN (ics xs) (m + 1) ((0 : Nat) : Int)) 1000000 ZY) (E0 := chN (ics xs) (m + 1) ((0 : Nat) : Int)) (fun j => csN xs (m + 1) sum (x (m + 1) - sum) (t0 - j) (0 + (eaP x (m + 1) m [] sum t0 j).length)) c (fun j hj => by
     simp only [Z19, e2, List.length_append, ← Nat.add_assoc]
     exact ZKR rfl (by omega) (by omega) (by omega) (hin j hj) (hrec j hj) 0 (0 + (eaP x (m + 1) m [] sum t0 j).length) (hA8 j hj)) (Z25 (by simp [chN, Zj])) (by omega)
   (e := .exit 0) (se := ([(46, .bool false), (12, .int .i64 (t0 - c)), (11, .int .i64 (x (m + 1) - sum)), (10, .int .i64 0), (6, .ptr 5 0 1), (3, .ptr 0 0 1), (1, .int .i64 sum), (0, .nilsl)], chN (ics xs) (m + 1) ((eaR x (m + 1) (m + 1) [] sum 8).length : Int)))
   (by
     simp only [csN, hall, chN, Nat.zero_add]
     generalize x (m + 1) - sum = lf at *
     by_cases g1 : P ≥ lf
     · have g2 : ¬ t0 - c ≥ 0 := fun h => hout ⟨g1, h⟩
       simp (disch := omega) only [ZF, ↓gd, stp, opPick, just, Rd.bind, Rd.run, Rd.opt, upds, rdCells, aLoad, aBin, aInt, Nat.reduceBEq, Nat.reduceEqDiff, Nat.reduceLeDiff, ↓reduceIte, ZT, ZG, hnk (), w0 (), g1, g2]
     · simp (disch := omega) only [ZF, ↓gd, stp, opPick, just, Rd.bind, Rd.run, Rd.opt, upds, rdCells, aLoad, aBin, aInt, Nat.reduceBEq, Nat.reduceEqDiff, Nat.reduceLeDiff, ↓reduceIte, ZT, ZG, hnk (), w0 (), g1]) (by simp)
 have e0 : eaP x (m + 1) m [] sum t0 0 = [] := rfl
 simp only [csN, e0, chN, List.length_nil, Nat.add_zero, cl0, Int.sub_zero] at hloop
 simp only [chN]
 generalize (eaR x (m + 1) (m + 1) [] sum 8).length = R at *
 generalize kF (d + m + 2) = C at *
 simp (disch := omega) only [ZF, Z3, stp, justO, just, Rd.bind, Rd.run, Rd.opt, upds, tsz, rdCells, aLoad, resA, resL, Z4, aNum, aLen, Z1, aMin, aBin, aInt, Nat.reduceAdd, Nat.reduceMul, Nat.reduceLT, Nat.reduceBEq, Nat.reduceEqDiff, Nat.reduceLeDiff, ↓reduceIte, reduceCtorEq, Int.reduceToNat, ZT, ZG, hxlen, hx1, hxn, w1 (), w2 (), w3, b1, bn, gk', emin, hloop]
 exact ⟨_, rfl, ⟨rfl, rfl, rfl, rfl, rfl, rfl⟩⟩
theorem newsEcN {xs : List Int} {n : Nat} {c : Int} {H : AHeap} (h : EcN xs n c H) : newsF H (.tup []) 6 = [] := by
 obtain ⟨h0, h1, h2, h3, h4, h5⟩ := h
 have e : refsOf (.tup []) ++ List.range 6 = [0, 1, 2, 3, 4, 5] := rfl
 unfold newsF
 rw [e]
 simp [mark, h0, h1, h2, h3, h4, h5, refsL, refsOf]
abbrev ctH (X A : List AV) (n : Nat) (c : Int) : AHeap := [(8, ⟨.box, [.int .i64 c]⟩), (26, ⟨.froz, A⟩), (387, ⟨.box, [vC 8]⟩), (388, ⟨.box, [.ref 392 0 (n + 1) (n + 1) (n + 1) 1 false]⟩), (389, ⟨.box, [.int .i64 n]⟩), (390, ⟨.box, [puK 389 387 388 390]⟩), (392, ⟨.row, X⟩)]
theorem ZLw {d n : Nat} {xs : List Int} {x : Nat → Int} {A : List AV} (hn0 : 0 < n) (h6 : n ≤ 6) (hxl : xs.length = n + 1) (hxx : ∀ j, j ≤ n → (ics xs)[j]? = some (.int .i64 (x j))) (hxb : ∀ j, j ≤ n → 0 ≤ x j ∧ x j ≤ 500) :
   kF (d + n + 2) 116 [.nilsl, .int .i64 0, .int .i64 8, .ptr 389 0 1, .ptr 387 0 1, .ptr 388 0 1, .ptr 390 0 1] (ctH (ics xs) A n 0) 496 = some (.tup [], ctH (ics xs) A n (eaR x n n [] 0 8).length) := by
 obtain ⟨H, hp, ro⟩ := ZDr (d := d) hn0 h6 hxl hxx hxb (sum := 0) rfl
 rw [Z0b rfl]
 have hks : (mark (ctH (ics xs) A n 0) 1000 (refsL [.nilsl, .int .i64 0, .int .i64 8, .ptr 389 0 1, .ptr 387 0 1, .ptr 388 0 1, .ptr 390 0 1]) []).reverse = [389, 387, 8, 388, 392, 390] := rfl
 have hap : AM.apart [389, 387, 8, 388, 392, 390] = true := rfl
 have e1 : renL (posF [389, 387, 8, 388, 392, 390] 0) [.nilsl, .int .i64 0, .int .i64 8, .ptr 389 0 1, .ptr 387 0 1, .ptr 388 0 1, .ptr 390 0 1] = some [.nilsl, .int .i64 0, .int .i64 8, .ptr 0 0 1, .ptr 1 0 1, .ptr 3 0 1, .ptr 5 0 1] := rfl
 have e2 : foc (posF [389, 387, 8, 388, 392, 390] 0) (ctH (ics xs) A n 0) 0 [389, 387, 8, 388, 392, 390] = some (chN (ics xs) n 0) := rfl
 have hn := newsEcN ro
 obtain ⟨h0, h1, h2, h3, h4, h5⟩ := ro
 have hl6 : ([389, 387, 8, 388, 392, 390] : List Nat).length = 6 := rfl
 have er : List.range 6 = [0, 1, 2, 3, 4, 5] := rfl
 rw [hks]
 unfold focus
 rw [if_pos hap]
 simp only [e1, e2, hp, backF, hl6, hn, er]
 generalize (eaR x n n [] 0 8).length = R at *
 simp only [List.length_nil, baseF, freeL, List.append_nil, AM.apart, ren, renL, unf, outF, posF, h0, h1, h2, h3, h4, h5, List.getElem?_cons_zero, List.getElem?_cons_succ, Nat.reduceLT, goodB, BS.open_, Bool.true_or, ctH, chN, Zj, decide_true, Bool.and_self, renB, hl6, upds, Zi, Zl, Nat.reduceEqDiff, Nat.reduceLeDiff, if_true, if_false, Nat.reduceAdd, reduceCtorEq]
theorem Zt9 {d n : Nat} {row : List Int} (h : Rw n row) (h0 : 0 < n) (h6 : n ≤ 6) : ∃ H, bodyA E (kF (d + n + 2)) fg 1000000 92 [.ref 26 0 n n n 1 false, vC 8] [(8, ⟨.box, [.int .i64 0]⟩), (26, ⟨.row, ics row⟩)] 384 = some (.tup [], H) ∧ hget H 8 = some ⟨.box, [.int .i64 (beL row).length]⟩ := by
 have hl := h.len
 have hb := ps_b h
 have hri := fun (site : Nat → Nat) seen ex => Z3E (d := d + n + 1) (site := site) (seen := seen) (Z3V row ex) h (by omega)
 have hc := ZLw (d := d) (n := n) (xs := riL row) (x := ps (rowF row)) (A := ics row) h0 h6 (by unfold riL; rw [Z4X, hl]) (fun j hj => Z3U (Z6I (by omega))) (fun j hj => by have := hb j hj; omega)
 have e : eaR (ps (rowF row)) n n [] 0 8 = beL row := by unfold beL; rw [hl]
 rw [e] at hc
 have hlen := Z7 row
 have htk : List.take n (ics row) = ics row := List.take_of_length_le (by omega)
 simp only [hl] at hri hlen
 simp only [ctH] at hc
 generalize (beL row).length = R at *
 generalize kF (d + n + 2) = C at *
 simp (disch := omega) only [ZF, Z3, stp, opBox, just, Rd.bind, Rd.run, Rd.opt, upds, acells, zeroCells, tsz, rdCells, aLoad, aStore, opStore, resA, resL, fresh, aLen, Z1, putC, Nat.reduceAdd, Nat.reduceMul, Nat.reduceBEq, Nat.reduceEqDiff, Nat.reduceLeDiff, ↓reduceIte, reduceCtorEq, mutX, aCall, snaps, ZT, F_92, callV, Z0U, hlen, htk, hri, hc]
 exact ⟨_, rfl, rfl⟩
end Go.AM.Ytfmnoohhhokicaa
end
noncomputable section
namespace Go.AM.Rub
def topF (s : Int) (k : Nat) : Int := min (max (s - 8 * k) 0) 8
def topP (s : Int) (n i : Nat) : List Int := (List.range n).map fun k => if k < i then topF s k else 0
def topR (s : Int) (n : Nat) : List Int := (List.range n).map (topF s)
theorem Zdr (s : Int) (n i : Nat) : (topP s n i).length = n := by simp [topP]
theorem Z06 (s : Int) (n : Nat) : (topR s n).length = n := by simp [topR]
theorem Zrb (s : Int) (n : Nat) : topP s n 0 = List.replicate n 0 := by
 apply List.ext_getElem
 · simp [topP]
 · intro i h1 h2
   simp [topP]
theorem ZwW (s : Int) (n : Nat) : topP s n n = topR s n := by
 unfold topP topR
 apply List.map_congr_left
 intro k hk
 rw [if_pos (List.mem_range.1 hk)]
theorem ZwY (s : Int) (n i : Nat) (_ : i < n) : topP s n (i + 1) = (topP s n i).set i (topF s i) := by
 apply List.ext_getElem
 · simp [topP]
 · intro k h1 h2
   rw [List.getElem_set]
   simp only [topP, List.getElem_map, List.getElem_range]
   by_cases hk : i = k
   · subst hk
     rw [if_pos rfl, if_pos (by omega)]
   · rw [if_neg hk]
     by_cases h : k < i
     · rw [if_pos h, if_pos (by omega)]
     · rw [if_neg h, if_neg (by omega)]
theorem Z2g {s : Int} {n k : Nat} (h : k < n) : rowF (topR s n) k = topF s k := by simp [rowF, topR, h]
theorem ZiH (s : Int) (h0 : 0 ≤ s) : ∀ k : Nat, ps (topF s) k = min s (8 * k)
 | 0 => by simp only [ps]; omega
 | k + 1 => by rw [ps, ZiH s h0 k]; unfold topF; omega
theorem Z6p {s : Int} {n k : Nat} (h0 : 0 ≤ s) (h : k ≤ n) : ps (rowF (topR s n)) k = min s (8 * k) := by
 rw [← ZiH s h0 k]
 exact Z0x k fun i hi => Z2g (by omega)
theorem Z4p {s : Int} {n : Nat} : Rw n (topR s n) := by
 refine ⟨Z06 s n, Z3D (fun i hi => ?_) (fun h => ?_) (fun i hi => ?_)⟩
 · rw [Z06] at hi
   rw [Z2g hi]; unfold topF; omega
 · rw [Z06] at h
   rw [Z2g h]; unfold topF; omega
 · rw [Z06] at hi
   rw [Z2g hi, Z2g (by omega)]; unfold topF; omega
theorem ZM1 {n : Nat} {l : List Int} (h : Rw n l) : ∀ k, k ≤ n → ps (rowF l) k ≤ 8 * k ∧ ps (rowF l) k ≤ ps (rowF l) n := by
 have hb : ∀ k, k < n → 0 ≤ rowF l k ∧ rowF l k ≤ 8 := fun k hk => Z09 h.row k (by rw [h.len]; exact hk)
 have h1 : ∀ k, k ≤ n → ps (rowF l) k ≤ 8 * k := by
   intro k
   induction k with
   | zero => intro _; simp [ps]
   | succ k ih => intro hk; have := ih (by omega); have := hb k (by omega); rw [ps]; omega
 have h2 : ∀ m k, k + m = n → ps (rowF l) k ≤ ps (rowF l) n := by
   intro m
   induction m with
   | zero => intro k hk; rw [Nat.add_zero] at hk; rw [hk]; exact Int.le_refl _
   | succ m ih =>
     intro k hk
     have := ih (k + 1) (by omega)
     have := hb k (by omega)
     rw [ps] at *
     omega
 exact fun k hk => ⟨h1 k hk, h2 (n - k) k (by omega)⟩
theorem ZnS {s : Int} {n : Nat} {l : List Int} (h0 : 0 ≤ s) (h8 : s ≤ 8 * n) (hl : Rw n l) (hs : ps (rowF l) n = s) : MajL (topR s n) l := by
 refine ⟨by rw [Z06, Z6p h0 (Nat.le_refl n), hs]; omega, fun k hk => ?_⟩
 rw [Z06] at hk
 rw [Z6p h0 hk]
 have := ZM1 hl k hk
 omega
theorem Zs0 : ∀ {x y : List Int}, lexGt x y → x.length = y.length → ∃ k, k ≤ x.length ∧ ps (rowF x) k > ps (rowF y) k
 | [], _, h, _ => absurd h (by cases ‹List Int› <;> exact fun h => h)
 | _ :: _, [], h, _ => absurd h (fun h => h)
 | a :: l, b :: r, h, hl => by
   rcases h with h | ⟨rfl, h⟩
   · exact ⟨1, by simp, by simp [ps, rowF]; omega⟩
   · obtain ⟨k, h1, h2⟩ := Zs0 h (by simpa using hl)
     refine ⟨k + 1, by simpa using h1, ?_⟩
     rw [Z2d, Z2d]; omega
theorem Zsr {s : Int} {n : Nat} (h0 : 0 ≤ s) (h8 : s ≤ 8 * n) : (rowsL n s 8)[0]? = some (topR s n) := by
 have hm : topR s n ∈ rowsL n s 8 := by
   rw [Z1i]
   refine ⟨Z06 s n, ?_, Z4p.row⟩
   rw [← Z1m, Z06, Z6p h0 (Nat.le_refl n)]; omega
 have hd := Z5J n s 8
 have hall : ∀ x ∈ rowsL n s 8, x.length = n ∧ totL x = s ∧ IsRow 8 x := fun x hx => (Z1i n s 8 x).1 hx
 cases hR : rowsL n s 8 with
 | nil => rw [hR] at hm; simp at hm
 | cons x R =>
   rw [hR] at hm hd hall
   rw [List.getElem?_cons_zero]
   rcases List.mem_cons.1 hm with e | e
   · rw [e]
   · exfalso
     have hg := (List.pairwise_cons.1 hd).1 _ e
     obtain ⟨x1, x2, x3⟩ := hall x (List.mem_cons_self ..)
     obtain ⟨k, k1, k2⟩ := Zs0 hg (by rw [x1, Z06])
     have := (ZnS (l := x) h0 h8 ⟨x1, x3⟩ (by rw [← x2, ← Z1m, x1])).le k (by rw [Z06]; omega)
     omega
end Go.AM.Rub
end
noncomputable section
namespace Go.AM.Ytfmnoohhhokicaa
open Go Go.AM Go.AM.Rub
theorem ZhO {n : Nat} {s : Int} (h0 : 0 ≤ s) (h8 : s ≤ 8 * n) : beL (topR s n) = rowsL n s 8 := by
 have he : ps (rowF (topR s n)) n = s := by rw [Z6p h0 (Nat.le_refl n)]; omega
 have := Zrh (a := topR s n) Z4p (fun _ => true) fun l hl hs => ⟨fun _ => ZnS h0 h8 hl (by rw [hs, he]), fun _ => rfl⟩
 rw [this, he]
 exact List.filter_eq_self.2 fun _ _ => rfl
def cntX (n : Int) (s : Int) : Int := if n < 1 ∨ n > 6 ∨ s < 0 ∨ s > n * 8 then 1 else 0
def cntY (n : Int) (s : Int) : Int := if n < 1 ∨ n > 6 ∨ s < 0 ∨ s > n * 8 then 0 else (rowsL n.toNat s 8).length
abbrev cuS (s : Int) (n i : Nat) : St := ([(29, .int .i64 i), (28, .int .i64 n), (6, .ref 26 0 n n n 1 false), (1, .int .i64 (max (s - 8 * i) 0))], [(26, ⟨.row, ics (topP s n i)⟩)])
theorem ZR4 {C : Callee} {s : Int} {n : Nat} (h0 : 0 ≤ s ∧ s ≤ 100) (h6 : n ≤ 6) (i : Nat) (hi : i < n) :
   ∃ s', (execA E C (fg 50) 0 48 [] 1000000 Z3j) (cuS s n i) = some (.normal, s') ∧ headA [] s' = cuS s n (i + 1) := by
 have hl : (ics (topP s n i)).length = n := by rw [Z7, Zdr]
 have hl2 : ((ics (topP s n i)).set i (.int .i64 (topF s i))).length = n := by rw [List.length_set, hl]
 have hst : (ics (topP s n i)).set i (.int .i64 (topF s i)) = ics (topP s n (i + 1)) := by rw [ZwY s n i hi, ZJe]
 have hat : (ics (topP s n (i + 1)))[i]? = some (.int .i64 (topF s i)) := by rw [← hst, List.getElem?_set_self (by omega)]
 have hl3 : (ics (topP s n (i + 1))).length = n := by rw [Z7, Zdr]
 have g1 : (i : Int) < n := by omega
 have em : (if 8 < max (s - 8 * (i : Int)) 0 then 8 else max (s - 8 * (i : Int)) 0) = topF s i := by unfold topF; split <;> omega
 have ec : max (s - 8 * (i : Int)) 0 - topF s i = max (s - 8 * ((i + 1 : Nat) : Int)) 0 := by unfold topF; omega
 have w : wrp .i64 (max (s - 8 * (i : Int)) 0 - topF s i) = max (s - 8 * ((i + 1 : Nat) : Int)) 0 := by rw [Z9 (by unfold topF; omega), ec]
 simp only [cuS]
 generalize max (s - 8 * ((i + 1 : Nat) : Int)) 0 = q2 at *
 generalize max (s - 8 * (i : Int)) 0 = q1 at *
 generalize topF s i = v at *
 simp (disch := omega) only [ZF, stp, justO, just, Rd.bind, Rd.run, Rd.opt, upds, acells, tsz, rdCells, aLoad, aStore, opStore, Z4, aNum, Z1, aMin, aBin, aInt, putC, Nat.reduceLT, Nat.reduceBEq, Nat.reduceEqDiff, Nat.reduceLeDiff, ↓reduceIte, snaps, ZT, F_50, aMin, g1, hl, hl3, hst, hat, em, w, if_pos, ZV (show i < 1000000 by omega)]
 exact ⟨_, rfl, rfl⟩
theorem Zqn {d : Nat} {n s : Int} : ∃ H, bodyA E (kF (d + 9)) fg 1000000 50 [.int .i64 n, .int .i64 s] [] 0 = some (.tup [.int .i64 (cntY n s), .int .i64 (cntX n s)], H) := by
 unfold cntY cntX
 by_cases hb : n < 1 ∨ n > 6 ∨ s < 0 ∨ s > n * 8
 · rw [if_pos hb, if_pos hb]
   generalize kF (d + 9) = C at *
   by_cases c1 : n < 1
   · simp (disch := omega) only [ZF, ↓gd, Z3, stp, opPick, just, Rd.bind, Rd.run, Rd.opt, upds, resA, resL, aBin, aInt, Nat.reduceBEq, Nat.reduceEqDiff, Nat.reduceLeDiff, ↓reduceIte, reduceCtorEq, F_50, c1]
     exact ⟨_, rfl⟩
   · by_cases c2 : n > 6
     · simp (disch := omega) only [ZF, ↓gd, Z3, stp, opPick, just, Rd.bind, Rd.run, Rd.opt, upds, resA, resL, aBin, aInt, Nat.reduceBEq, Nat.reduceEqDiff, Nat.reduceLeDiff, ↓reduceIte, reduceCtorEq, F_50, c1, c2]
       exact ⟨_, rfl⟩
     · by_cases c3 : s < 0
       · simp (disch := omega) only [ZF, ↓gd, Z3, stp, opPick, just, Rd.bind, Rd.run, Rd.opt, upds, resA, resL, aBin, aInt, Nat.reduceBEq, Nat.reduceEqDiff, Nat.reduceLeDiff, ↓reduceIte, reduceCtorEq, F_50, c1, c2, c3]
         exact ⟨_, rfl⟩
       · have c4 : s > n * 8 := by omega
         have w : wrp .i64 (n * 8) = n * 8 := Z9 (by omega)
         simp (disch := omega) only [ZF, ↓gd, Z3, stp, opPick, just, Rd.bind, Rd.run, Rd.opt, upds, resA, resL, aBin, aInt, Nat.reduceBEq, Nat.reduceEqDiff, Nat.reduceLeDiff, ↓reduceIte, reduceCtorEq, F_50, c1, c2, c3, c4, w]
         exact ⟨_, rfl⟩
 · rw [if_neg hb, if_neg hb]
   obtain ⟨m, rfl⟩ : ∃ m : Nat, n = m := ⟨n.toNat, by omega⟩
   rw [Int.toNat_natCast]
   have c1 : ¬ (m : Int) < 1 := by omega
   have c2 : ¬ (m : Int) > 6 := by omega
   have c3 : ¬ s < 0 := by omega
   have c4 : ¬ s > (m : Int) * 8 := by omega
   have hs : 0 ≤ s ∧ s ≤ 8 * m := by omega
   have h1 : 0 < m := by omega
   have h6 : m ≤ 6 := by omega
   have w : wrp .i64 ((m : Int) * 8) = (m : Int) * 8 := Z9 (by omega)
   clear hb
   obtain ⟨H, he, h8⟩ := Zt9 (d := d + 6 - m) (n := m) (row := topR s m) Z4p h1 h6
   rw [show d + 6 - m + m + 2 = d + 8 by omega] at he
   have he := (Z15 (d := d + 8) (f := 92) rfl [.ref 26 0 m m m 1 false, vC 8] [(8, ⟨.box, [.int .i64 0]⟩), (26, ⟨.row, ics (topR s m)⟩)] 384).trans he
   rw [ZhO hs.1 hs.2] at h8
   have hloop := loopM (f := execA E (kF (d + 9)) (fg 50) 0 48 [] 1000000 Z3j) (E0 := []) (cuS s m) m (fun i hi => ZR4 (by omega) h6 i hi) rfl (by omega)
     (e := .exit 0) (se := ([(30, .bool false), (29, .int .i64 m), (28, .int .i64 m), (6, .ref 26 0 m m m 1 false), (1, .int .i64 (max (s - 8 * m) 0))], [(26, ⟨.row, ics (topR s m)⟩)]))
     (by
       simp only [cuS, ZwW]
       generalize kF (d + 9) = C at *
       simp (disch := omega) only [ZF, stp, just, Rd.bind, Rd.run, Rd.opt, upds, aBin, aInt, Nat.reduceEqDiff, Nat.reduceLeDiff, ↓reduceIte, F_50]) (by simp)
   have e0 : max (s - 8 * 0) 0 = s := by omega
   simp only [cuS, Zrb, e0, cl0] at hloop
   have hrep := ZeI m
   have hlt : (ics (topR s m)).length = m := by rw [Z7, Z06]
   have hlr : (ics (List.replicate m 0)).length = m := by rw [Z7]; simp
   have hflat : [AV.int .i64 0].all AV.flat = true := rfl
   have hk : (m : Int) ≤ kHi .i64 := by simp only [kHi]; omega
   have hby : ((8 : Nat) : Int) * (m : Int) ≤ 281474976710656 := by omega
   generalize (rowsL m s 8).length = R at *
   generalize kF (d + 9) = C at *
   simp (disch := omega) only [ZF, ↓gd, Z3, stp, opPick, opBox, just, Rd.bind, Rd.run, Rd.opt, upds, acells, zeroCells, tsz, elemT, rdCells, aLoad, aStore, opStore, resA, resL, fresh, aNum, aLen, Z1, aBin, aInt, putC, Nat.reduceMul, Nat.reduceLT, Nat.reduceBEq, Nat.reduceEqDiff, Nat.reduceLeDiff, ↓reduceIte, reduceCtorEq, mutX, snaps, ZT, F_50, c1, c2, c3, c4, w, aMake, hrep, hflat, hk, hby, hloop, hlr, he, h8, if_pos]
   exact ⟨_, rfl⟩
theorem Z3y {d : Nat} {n s : Int} (site : Nat → Nat) (seen : List Nat) : aBack site true seen (thaw (kF (d + 10)) 50 [.int .i64 n, .int .i64 s] [] 0) = .pure (.tup [.int .i64 (cntY n s), .int .i64 (cntX n s)], []) := by
 obtain ⟨H, h⟩ := Zqn (d := d) (n := n) (s := s)
 have h' : kF (d + 10) 50 [.int .i64 n, .int .i64 s] [] 0 = some (.tup [.int .i64 (cntY n s), .int .i64 (cntX n s)], H) := by rw [Z15 rfl]; exact h
 exact Z0E h' rfl (fun _ => rfl) rfl
end Go.AM.Ytfmnoohhhokicaa
end
noncomputable section
namespace Go.AM.Ytfmnoohhhokicaa
open Go Go.AM Go.AM.Rub
def alE (A B : List (List Int)) (i : Nat) : Int := if A.getD i [] = B.getD i [] then 0 else 1
theorem Zx5 {A B : List (List Int)} (hl : A.length = B.length) : fe (alE A B) 0 A.length = 0 ↔ A = B := by
 rw [Z3l]
 constructor
 · intro h
   apply List.ext_getElem hl
   intro i h1 h2
   have := h i (by omega) (by omega)
   unfold alE at this
   split at this
   · rename_i e
     simpa [h1, h2] using e
   · exact absurd this (by decide)
 · rintro rfl i _ _
   unfold alE
   rw [if_pos rfl]
abbrev alS (A B : List (List Int)) (x y : Bool) (i : Nat) : St := ([(5, .int .i64 i), (1, .imm (lcs B) B.length y), (0, .imm (lcs A) A.length x)], [])
theorem Zz9 {L : List (List Int)} {a : AV} (h : LV L a) : aLen E.T 39 a = .pure (.int .i64 L.length) := by
 rcases h with ⟨rfl, rfl⟩ | ⟨ex, rfl⟩
 · rfl
 · rfl
theorem Zqq {d : Nat} {A B : List (List Int)} {a b : AV} (ha : LV A a) (hb : LV B b) (hA : A.length ≤ 900000) (hB : B.length ≤ 900000) (h9 : ∀ l ∈ A, l.length ≤ 1000) : rsOf (bodyA E (kF (d + 1)) fg 1000000 41 [a, b] [] 0) = some (.bool (decide (A = B))) := by
 have la := Zz9 ha
 have lb := Zz9 hb
 by_cases hl : A.length = B.length
 · have g2 : ((A.length : Int) != B.length) = false := by rw [bne_eq_false_iff_eq]; omega
   by_cases h0 : A.length = 0
   · have eA := List.length_eq_zero_iff.1 h0
     have eB := List.length_eq_zero_iff.1 (hl ▸ h0)
     subst eA; subst eB
     rw [decide_eq_true rfl]
     have hloop := Z6K (f := execA E (kF (d + 1)) (fg 41) 0 27 [] 1000000 Z3d) (E0 := []) (s0 := ([(5, .int .i64 0), (1, b), (0, a)], [])) (by rcases ha with ⟨_, rfl⟩ | ⟨_, rfl⟩ <;> rcases hb with ⟨_, rfl⟩ | ⟨_, rfl⟩ <;> rfl) (e := .exit 0) (se := ([(14, .bool false), (5, .int .i64 0), (1, b), (0, a)], []))
       (by
         have c0 : (([] : List (List Int)).length : Int) = 0 := rfl
         rw [c0] at la
         generalize kF (d + 1) = C at *
         simp (disch := omega) only [ZF, stp, just, Rd.bind, Rd.run, Rd.opt, upds, Z1, aBin, aInt, Nat.reduceBEq, Nat.reduceEqDiff, Nat.reduceLeDiff, ↓reduceIte, reduceCtorEq, F_41, la]) (by simp)
     generalize kF (d + 1) = C at *
     simp (disch := omega) only [ZF, Z3, stp, just, Rd.bind, Rd.run, Rd.opt, upds, resA, resL, Z1, aBin, aInt, Nat.reduceBEq, Nat.reduceEqDiff, Nat.reduceLeDiff, ↓reduceIte, reduceCtorEq, F_41, la, lb, hloop]
   · obtain ⟨x, rfl⟩ : ∃ x, a = .imm (lcs A) A.length x := by
       rcases ha with ⟨rfl, _⟩ | h
       · simp at h0
       · exact h
     obtain ⟨y, rfl⟩ : ∃ y, b = .imm (lcs B) B.length y := by
       rcases hb with ⟨rfl, _⟩ | h
       · simp at hl; simp [hl] at h0
       · exact h
     have hat : ∀ (L : List (List Int)) i, i < L.length → (lcs L)[i]? = some (.imm (ics (L.getD i [])) (L.getD i []).length false) := fun L i hi => Z6n (by simp [hi])
     have hs : ∀ i, i < A.length → ∀ (site : Nat → Nat) seen, aBack site true seen (thaw (kF (d + 1)) 24 [.imm (ics (A.getD i [])) (A.getD i []).length false, .imm (ics (B.getD i [])) (B.getD i []).length false] [] 0) = .pure (.bool (decide (A.getD i [] = B.getD i [])), []) := fun i hi site seen =>
       Z96 (d := d) (Z3V _ false) (Z3V _ false) (h9 _ (by simp [hi]))
     have hloop := loopE (f := execA E (kF (d + 1)) (fg 41) 0 27 [] 1000000 Z3d) (e := alE A B) (R := fun _ H => ([(4, .bool false)], H)) (alS A B x y) A.length (E0 := []) rfl (by omega) (x := .exit 0) (se := ([(14, .bool false), (5, .int .i64 A.length), (1, .imm (lcs B) B.length y), (0, .imm (lcs A) A.length x)], [])) (by simp)
       (fun i hi _ he => by
         have h1 := hat A i hi
         have h2 := hat B i (by omega)
         have h3 := hs i hi
         have e : A.getD i [] = B.getD i [] := Classical.byContradiction fun h => by unfold alE at he; rw [if_neg h] at he; exact absurd he (by decide)
         rw [decide_eq_true e] at h3
         have g1 : (i : Int) < A.length := by omega
         have g3 : (i : Int) < B.length := by omega
         have l1 := ZO A
         have l2 := ZO B
         generalize kF (d + 1) = C at *
         simp only [alS]
         generalize lcs A = P at *
         generalize lcs B = Q at *
         generalize A.length = p at *
         generalize B.length = q at *
         simp (disch := omega) only [ZF, stp, justO, just, Rd.bind, Rd.run, Rd.opt, upds, tsz, rdCells, aLoad, Z4, aNum, aLen, Z1, aBin, aInt, Nat.reduceAdd, Nat.reduceLT, Nat.reduceBEq, Nat.reduceEqDiff, Nat.reduceLeDiff, ↓reduceIte, reduceCtorEq, stpT, Rd.foot, writing, Zb, Tr.empty, Zd, aUn, aCall, snaps, ZT, F_41, h1, h2, h3, g1, g3, l1, l2, ZV (show i < 1000000 by omega)]
         exact ⟨_, rfl, rfl⟩)
       (fun i hi _ he => by
         have h1 := hat A i hi
         have h2 := hat B i (by omega)
         have h3 := hs i hi
         have e : ¬ A.getD i [] = B.getD i [] := fun h => by unfold alE at he; rw [if_pos h] at he; exact he rfl
         rw [decide_eq_false e] at h3
         have g1 : (i : Int) < A.length := by omega
         have g3 : (i : Int) < B.length := by omega
         have l1 := ZO A
         have l2 := ZO B
         generalize kF (d + 1) = C at *
         simp only [alS]
         generalize lcs A = P at *
         generalize lcs B = Q at *
         generalize A.length = p at *
         generalize B.length = q at *
         simp (disch := omega) only [ZF, stp, justO, just, Rd.bind, Rd.run, Rd.opt, upds, tsz, rdCells, aLoad, Z4, aNum, aLen, Z1, aBin, aInt, Nat.reduceAdd, Nat.reduceLT, Nat.reduceBEq, Nat.reduceEqDiff, Nat.reduceLeDiff, ↓reduceIte, reduceCtorEq, stpT, Rd.foot, writing, Zb, Tr.empty, Zd, aUn, aCall, snaps, ZT, F_41, h1, h2, h3, g1, g3, l1, l2]
         exact ⟨_, rfl⟩)
       (fun _ => by
         generalize kF (d + 1) = C at *
         simp (disch := omega) only [ZF, stp, just, Rd.bind, Rd.run, Rd.opt, upds, aLen, Z1, aBin, aInt, Nat.reduceBEq, Nat.reduceEqDiff, Nat.reduceLeDiff, ↓reduceIte, reduceCtorEq, ZT, F_41, alS])
     simp only [alS, cl0] at hloop
     have hz := Zx5 hl
     generalize kF (d + 1) = C at *
     rcases hloop with ⟨h, hloop⟩ | ⟨h, H, hloop⟩
     · rw [decide_eq_true (hz.1 h)]
       simp (disch := omega) only [ZF, Z3, stp, just, Rd.bind, Rd.run, Rd.opt, upds, resA, resL, Z1, aBin, aInt, Nat.reduceBEq, Nat.reduceEqDiff, Nat.reduceLeDiff, ↓reduceIte, reduceCtorEq, F_41, la, lb, g2, hloop]
     · rw [decide_eq_false (fun e => h (hz.2 e))]
       simp (disch := omega) only [ZF, Z3, stp, just, Rd.bind, Rd.run, Rd.opt, upds, resA, resL, Z1, aBin, aInt, Nat.reduceBEq, Nat.reduceEqDiff, Nat.reduceLeDiff, ↓reduceIte, reduceCtorEq, F_41, la, lb, g2, hloop]
 · have g2 : ((A.length : Int) != B.length) = true := by rw [bne_iff_ne]; omega
   have g3 : ¬ (A.length : Int) = B.length := by omega
   rw [decide_eq_false (fun e => hl (by rw [e]))]
   generalize kF (d + 1) = C at *
   simp (disch := omega) only [ZF, Z3, stp, just, Rd.bind, Rd.run, Rd.opt, upds, resA, resL, Z1, aBin, aInt, Nat.reduceBEq, Nat.reduceEqDiff, Nat.reduceLeDiff, ↓reduceIte, reduceCtorEq, F_41, la, lb, g2]
theorem Zqd {d : Nat} {site : Nat → Nat} {seen : List Nat} {A B : List (List Int)} {a b : AV} (ha : LV A a) (hb : LV B b) (hA : A.length ≤ 900000) (hB : B.length ≤ 900000) (h9 : ∀ l ∈ A, l.length ≤ 1000) : aBack site true seen (thaw (kF (d + 2)) 41 [a, b] [] 0) = .pure (.bool (decide (A = B)), []) :=
 Z1p (Z2F rfl (Zqq ha hb hA hB h9))
end Go.AM.Ytfmnoohhhokicaa
end
noncomputable section
namespace Go.AM.Ytfmnoohhhokicaa
open Go Go.AM Go.AM.Rub
theorem sq_b {v : Int} (h : 0 ≤ v ∧ v ≤ 8) : 0 ≤ v * v ∧ v * v ≤ 64 := ⟨Int.mul_nonneg h.1 h.1, Int.mul_le_mul h.2 h.2 h.1 (by decide)⟩
theorem ZKP (v : Int) : pw v 2 = v * v := by simp [pw]
abbrev xfS (F : List Int) (R : List (List Int)) (n : Nat) (P : Int) (i : Nat) : St := ([(141, .int .i64 i), (140, .int .i64 R.length), (139, .ref 38 0 R.length R.length R.length 1 false), (18, .int .i64 P), (17, .ref 100 0 n n n 1 false), (9, .int .i64 0)], [(38, ⟨.row, lcs R⟩), (100, ⟨.row, ics F⟩)])
abbrev xfI (F b : List Int) (R : List (List Int)) (n : Nat) (P X : Int) (i k : Nat) : St := ([(152, .int .i64 k), (151, .int .i64 n), (150, .imm (ics b) n false), (141, .int .i64 i), (140, .int .i64 R.length), (139, .ref 38 0 R.length R.length R.length 1 false), (23, .int .i64 (ps (poF b 2) k)), (22, .int .i64 0), (21, .int .i64 X), (20, .imm (ics b) n false), (18, .int .i64 P), (17, .ref 100 0 n n n 1 false), (9, .int .i64 0)], [(38, ⟨.row, lcs R⟩), (100, ⟨.row, ics F⟩)])
theorem ZRn {C : Callee} {F b : List Int} {R : List (List Int)} {n : Nat} {P X : Int} {i : Nat} (hb : Rw n b) (hn : n ≤ 6) (k : Nat) (hk : k < n) :
   ∃ s', (execA E C (fg 9) 0 190 [] 1000000 Z4o) (xfI F b R n P X i k) = some (.normal, s') ∧ headA [] s' = xfI F b R n P X i (k + 1) := by
 have lb : (ics b).length = n := by rw [Z7, hb.len]
 have a2 := Z02 (l := b) (k := k) (by rw [hb.len]; exact hk)
 have b2 := rw_b hb (k := k) hk
 have b3 := po_b hb (show 2 ≤ 4 by omega) k (by omega)
 have e : ps (poF b 2) (k + 1) = ps (poF b 2) k + rowF b k * rowF b k := by rw [ps]; unfold poF; rw [ZKP]
 have g1 : (k : Int) < n := by omega
 have hv := sq_b b2
 simp only [xfI, e]
 generalize ps (poF b 2) k = S at *
 generalize rowF b k = v at *
 generalize hq : v * v = q at *
 have w1 : wrp .i64 (v * v) = q := by rw [hq]; exact Z9 (by omega)
 have w2 : wrp .i64 (S + q) = S + q := Z9 (by omega)
 generalize lcs R = RL at *
 generalize R.length = rl at *
 simp (disch := omega) only [ZF, stp, just, Rd.bind, Rd.run, Rd.opt, upds, tsz, rdCells, aLoad, Z4, aNum, aBin, aInt, Nat.reduceLT, Nat.reduceBEq, Nat.reduceEqDiff, Nat.reduceLeDiff, ↓reduceIte, ZT, F_9, g1, a2, lb, w1, w2, ZV (show k < 1000000 by omega)]
 exact ⟨_, rfl, rfl⟩
theorem ZUj {C : Callee} {F b : List Int} {R : List (List Int)} {n : Nat} {P X : Int} {sm : Bool} (hb : Rw n b) (hn : n ≤ 6) (lF : (ics F).length = n) (i : Nat) (hR : R.length ≤ 900000) (hi : R[i]? = some b)
   (h1 : ∀ (site : Nat → Nat) seen x, aBack site true seen (thaw C 54 [.imm (ics b) n x, .int .i64 2] [] 0) = .pure (.tup [.int .i64 X, .int .i64 0], []))
   (hX : X = ps (poF b 2) n)
   (h2 : ∀ (site : Nat → Nat) seen x y, aBack site true seen (thaw C 62 [.imm (ics b) n x, .imm (ics F) n y] [] 0) = .pure (.bool true, []))
   (h3 : ∀ (site : Nat → Nat) seen x y, aBack site true seen (thaw C 24 [.imm (ics b) n x, .imm (ics F) n y] [] 0) = .pure (.bool sm, []))
   (h4 : X ≤ P ↔ sm = true) :
   ∃ s', (execA E C (fg 9) 0 190 [] 1000000 Z3v) (xfS F R n P i) = some (.normal, s') ∧ headA [] s' = xfS F R n P (i + 1) := by
 have hil := (List.getElem?_eq_some_iff.1 hi).1
 have hat := Z6n hi
 rw [hb.len] at hat
 have lb : (ics b).length = n := by rw [Z7, hb.len]
 have tF : List.take n (ics F) = ics F := List.take_of_length_le (by omega)
 have hlr := ZO R
 have g1 : (i : Int) < R.length := by omega
 have hloop := loopM (f := (execA E C (fg 9) 0 190 [] 1000000 Z4o)) (E0 := []) (xfI F b R n P X i) n (fun k hk => ZRn hb hn k hk) rfl (by omega)
   (e := .exit 2) (se := (([(153, .bool false)] : AFr) ++ (xfI F b R n P X i n).1, (xfI F b R n P X i n).2))
   (by
     simp only [xfI, List.cons_append, List.nil_append]
     simp (disch := omega) only [ZF, stp, just, Rd.bind, Rd.run, Rd.opt, upds, aBin, aInt, Nat.reduceEqDiff, Nat.reduceLeDiff, ↓reduceIte, F_9]) (by simp)
 have e0 : ps (poF b 2) 0 = 0 := rfl
 simp only [xfI, cl0, e0, ← hX, List.cons_append, List.nil_append] at hloop
 have ib : (X != X) = false := by simp
 simp only [xfS]
 clear hX
 generalize lcs R = RL at *
 generalize R.length = rl at *
 cases sm with
 | true =>
   have g2 : X ≤ P := h4.2 rfl
   simp (disch := omega) only [ZF, ↓gd, stp, opPick, justO, just, Rd.bind, Rd.run, Rd.opt, upds, tsz, rdCells, aLoad, Zu, Z4, aNum, aLen, Z1, aBin, aInt, Nat.reduceLT, Nat.reduceBEq, Nat.reduceEqDiff, Nat.reduceLeDiff, ↓reduceIte, aUn, aCall, snaps, isBoolT, ZT, F_9, hat, hlr, lF, tF, g1, g2, h1, h2, h3, hloop, ZV (show i < 1000000 by omega)]
   exact ⟨_, rfl, rfl⟩
 | false =>
   have g2 : ¬ X ≤ P := fun h => absurd (h4.1 h) (by decide)
   simp (disch := omega) only [ZF, ↓gd, stp, opPick, justO, just, Rd.bind, Rd.run, Rd.opt, upds, tsz, rdCells, aLoad, Zu, Z4, aNum, aLen, Z1, aBin, aInt, Nat.reduceLT, Nat.reduceBEq, Nat.reduceEqDiff, Nat.reduceLeDiff, ↓reduceIte, aUn, aCall, snaps, isBoolT, ZT, F_9, hat, hlr, lF, tF, g1, g2, h1, h2, h3, hloop, ZV (show i < 1000000 by omega)]
   exact ⟨_, rfl, rfl⟩
end Go.AM.Ytfmnoohhhokicaa
end
noncomputable section
namespace Go.AM.Ytfmnoohhhokicaa
open Go Go.AM Go.AM.Rub
theorem Zha {st sm : Int} (hst : 0 ≤ st ∧ st ≤ 255) (hsm : 0 ≤ sm ∧ sm ≤ 255) (hw : ∃ H0, kF 40 17 [] [] 0 = some (.bool true, H0)) :
   rsOf (bodyA E (kF 40) fg 1000000 9 [.int .u8 st, .int .u8 sm] [] 0) = some (.bool true) := by
 have hwk := fun (site : Nat → Nat) seen => Z1p (site := site) (seen := seen) hw
 have w1 : wrp .i64 st = st := Z9 (by omega)
 have w2 : wrp .i64 sm = sm := Z9 (by omega)
 obtain ⟨t6, ht6, b6⟩ : ∃ t6 : Int, (∀ _ : Unit, st.tmod 6 = t6) ∧ (0 ≤ t6 ∧ t6 < 6) := ⟨_, fun _ => rfl, Zem hst.1 (by decide)⟩
 obtain ⟨n, hn, n0, n6⟩ : ∃ n : Nat, 1 + t6 = n ∧ 0 < n ∧ n ≤ 6 := ⟨(1 + t6).toNat, by omega, by omega, by omega⟩
 have w3 : wrp .i64 t6 = t6 := Z9 (by omega)
 have w4 : wrp .i64 (1 + t6) = (n : Int) := by rw [Z9 (by omega)]; exact hn
 have w5 : wrp .i64 (8 * (n : Int)) = 8 * (n : Int) := Z9 (by omega)
 have w6 : wrp .i64 (8 * (n : Int) + 1) = 8 * (n : Int) + 1 := Z9 (by omega)
 obtain ⟨s, hs, bs⟩ : ∃ s : Int, (∀ _ : Unit, sm.tmod (8 * (n : Int) + 1) = s) ∧ (0 ≤ s ∧ s < 8 * (n : Int) + 1) := ⟨_, fun _ => rfl, Zem hsm.1 (by omega)⟩
 have w7 : wrp .i64 s = s := Z9 (by omega)
 have z6 : ¬ (8 * (n : Int) + 1) = 0 := by omega
 have hro := fun (site : Nat → Nat) seen => ZrL (d := 38 - n) (n := n) (site := site) (seen := seen) n0 n6 (left := s) (by omega)
 rw [show 38 - n + n + 2 = 40 by omega] at hro
 have htop := Zsr (s := s) (n := n) bs.1 (by omega)
 have hlp : 0 < (rowsL n s 8).length := (List.getElem?_eq_some_iff.1 htop).1
 have hne : ¬ rowsL n s 8 = [] := fun e => by rw [e] at hlp; simp at hlp
 simp only [if_neg hne] at hro
 have hlb := ZuI (n := n) (s := s) n6
 have rt : Rw n (topR s n) := Z4p
 have hbt := ZhO (n := n) (s := s) bs.1 (by omega)
 have hB := fun (site : Nat → Nat) seen x => Zpr (d := 29) (l := topR s n) (a := .imm (ics (topR s n)) n x) (.inr ⟨x, by rw [rt.len]⟩) rt n0 n6 site seen
 rw [hbt] at hB
 have c1 : cntY n s = (rowsL n s 8).length ∧ cntX n s = 0 := by
   unfold cntY cntX
   rw [if_neg (by omega), if_neg (by omega), Int.toNat_natCast]
   exact ⟨rfl, rfl⟩
 have c2 : cntX n (8 * (n : Int) + 1) = 1 := by unfold cntX; rw [if_pos (by omega)]
 have c3 : cntX 7 1 = 1 := by unfold cntX; rw [if_pos (by omega)]
 have hc1 := fun (site : Nat → Nat) seen => Z3y (d := 30) (n := n) (s := s) site seen
 have hc2 := fun (site : Nat → Nat) seen => Z3y (d := 30) (n := n) (s := 8 * (n : Int) + 1) site seen
 have hc3 := fun (site : Nat → Nat) seen => Z3y (d := 30) (n := 7) (s := 1) site seen
 rw [c1.1, c1.2] at hc1
 rw [c2] at hc2
 rw [c3] at hc3
 have hrw : ∀ c ∈ rowsL n s 8, Rw n c ∧ ps (rowF c) n = s := fun c hc => Z8n hc
 clear hbt hne c1 c2 c3
 generalize rowsL n s 8 = R at *
 have at0 := Z6n htop
 rw [rt.len] at at0
 have lR9 : ∀ l ∈ R, l.length ≤ 1000 := fun l hl => by rw [(hrw l hl).1.len]; omega
 have hal := fun (site : Nat → Nat) seen x y => Zqd (d := 38) (site := site) (seen := seen) (A := R) (B := R) (a := .imm (lcs R) R.length x) (b := .imm (lcs R) R.length y) (.inr ⟨x, rfl⟩) (.inr ⟨y, rfl⟩) (by omega) (by omega) lR9
 rw [decide_eq_true rfl] at hal
 obtain ⟨j, hj, hjl⟩ : ∃ j : Nat, sm.tmod (R.length : Int) = j ∧ j < R.length := by
   have := Zem (a := sm) (b := (R.length : Int)) hsm.1 (by omega)
   exact ⟨(sm.tmod (R.length : Int)).toNat, by omega, by omega⟩
 have hcj : R[j]? = some R[j] := List.getElem?_eq_getElem hjl
 obtain ⟨rb, eb⟩ := hrw _ (List.mem_of_getElem? hcj)
 have hat := Z6n hcj
 rw [rb.len] at hat
 generalize hcc : R[j]'hjl = b at *
 clear hcc
 have hfl := fun x => ZH6 (d := 37) (l := b) (a := .imm (ics b) n x) (.inr ⟨x, by rw [rb.len]⟩) (by rw [rb.len]; omega)
 have hfl := fun x => (hfl x).elim (fun h => absurd (Zt8 rb n0 n6) h.1) (·.2)
 obtain ⟨N, rfl⟩ : ∃ N : Nat, s = N := ⟨s.toNat, by omega⟩
 have efl : flatL b = flL n N n := by unfold flatL; rw [rb.len, eb]
 rw [efl, Z1z] at hfl
 obtain ⟨_, rF, tF, dF⟩ := ZnY (k := n) (n := N) n0 n6 (by omega)
 generalize flL n (N : Int) n = F at *
 have eF : ps (rowF F) n = N := by rw [← tF, ← Z1m, rF.len]
 have hsort := fun (site : Nat → Nat) seen x => Z9w (d := 38) (site := site) (seen := seen) (x := x) rF n0 (by omega)
 have htot := fun (site : Nat → Nat) seen ex => totalA (d := 39) (site := site) (seen := seen) (ex := ex) rF (by omega)
 rw [eF] at htot
 have iF : ∀ x, IV F (.imm (ics F) n x) := fun x => .inr ⟨x, by rw [rF.len]⟩
 obtain ⟨pe, pv⟩ := ZfF rF n0 n6 (p := 2) (by omega) (by omega)
 have hpw := fun (site : Nat → Nat) seen x => Z6d (d := 38) (site := site) (seen := seen) (p := ((2 : Nat) : Int)) (iF x) (by rw [rF.len]; omega)
 rw [pe, pv] at hpw
 have hround : ∀ i, i < R.length → ∃ s', execA E (kF 40) (fg 9) 0 190 [] 1000000 Z3v (xfS F R n (sumG (fun x => pw x 2) F) i) = some (.normal, s') ∧ headA [] s' = xfS F R n (sumG (fun x => pw x 2) F) (i + 1) := by
   intro i hi
   have hri : R[i]? = some R[i] := List.getElem?_eq_getElem hi
   obtain ⟨rc, ec⟩ := hrw _ (List.mem_of_getElem? hri)
   generalize R[i]'hi = c at *
   have ic : ∀ x, IV c (.imm (ics c) n x) := fun x => .inr ⟨x, by rw [rc.len]⟩
   obtain ⟨qe, qv⟩ := ZfF rc n0 n6 (p := 2) (by omega) (by omega)
   have k1 := fun (site : Nat → Nat) seen x => Z6d (d := 38) (site := site) (seen := seen) (p := ((2 : Nat) : Int)) (ic x) (by rw [rc.len]; omega)
   rw [qe, qv] at k1
   have k2 := fun (site : Nat → Nat) seen x y => Zq2 (d := 38) (site := site) (seen := seen) (x := x) (y := y) rc rF (by omega)
   have tc : totL c = totL F := by rw [tF, ← Z1m, rc.len]; exact ec
   have hmj := Zov rc rF tc n0 dF
   rw [decide_eq_true ((ZNr rc rF (by rw [ec, eF])).2 hmj)] at k2
   have k3 := fun (site : Nat → Nat) seen x y => Z96 (d := 39) (site := site) (seen := seen) (ic x) (iF y) (by rw [rc.len]; omega)
   refine ZUj rc n6 (by rw [Z7, rF.len]) i (by omega) hri k1 ?_ k2 k3 ?_
   · rw [Z3f, rc.len]; rfl
   · rw [decide_eq_true_eq]
     by_cases h : c = F
     · subst h; simp
     · have := ZGj (ZFF (p := 2) (by omega) (by omega)) rc rF hmj h
       exact ⟨fun hh => by omega, fun hh => absurd hh h⟩
 generalize sumG (fun x => pw x 2) F = P at *
 have hloop := loopMS (f := execA E (kF 40) (fg 9) 0 190 [] 1000000 Z3v) (E0 := []) (s0 := ([(141, .int .i64 0), (140, .int .i64 R.length), (139, .ref 38 0 R.length R.length R.length 1 false), (18, .int .i64 P), (17, .ref 100 0 n n n 1 false), (9, .int .i64 0)], [(38, ⟨.row, lcs R⟩), (62, ⟨.row, lcs R⟩), (100, ⟨.row, ics F⟩)])) (xfS F R n P) R.length hround rfl (by omega)
   (e := .exit 0) (se := ([(142, .bool false), (141, .int .i64 R.length), (140, .int .i64 R.length), (139, .ref 38 0 R.length R.length R.length 1 false), (18, .int .i64 P), (17, .ref 100 0 n n n 1 false), (9, .int .i64 0)], [(38, ⟨.row, lcs R⟩), (100, ⟨.row, ics F⟩)]))
   (by
     generalize kF 40 = C at *
     simp only [xfS]
     simp (disch := omega) only [ZF, stp, just, Rd.bind, Rd.run, Rd.opt, upds, aBin, aInt, Nat.reduceEqDiff, Nat.reduceLeDiff, ↓reduceIte, F_9]) (by simp)
 have lF : (ics F).length = n := by rw [Z7, rF.len]
 have kF' : List.take n (ics F) = ics F := List.take_of_length_le (by omega)
 have a0 := Z02 (l := F) (k := 0) (by rw [rF.len]; exact n0)
 have aN := Z02 (l := F) (k := n - 1) (by rw [rF.len]; omega)
 have bF0 := rw_b rF (k := 0) n0
 have bFN := rw_b rF (k := n - 1) (by omega)
 have wN : wrp .i64 ((n : Int) - 1) = ((n - 1 : Nat) : Int) := by rw [Z9 (by omega)]; omega
 have wd : wrp .i64 (rowF F 0 - rowF F (n - 1)) = rowF F 0 - rowF F (n - 1) := Z9 (by omega)
 have hgd : ¬ rowF F 0 - rowF F (n - 1) > 1 := by omega
 have gn : (0 : Int) < (n : Int) := by omega
 have gn1 : ((n - 1 : Nat) : Int) < (n : Int) := by omega
 have hll := ZO R
 have hto := Z91 R
 have zR : ¬ (R.length : Int) = 0 := by omega
 have gj : (j : Int) < (R.length : Int) := by omega
 have g0 : (0 : Int) < (R.length : Int) := by omega
 have ii : ∀ x : Int, (x != x) = false := fun x => by simp
 have cl2' : ((2 : Nat) : Int) = 2 := rfl
 rw [cl2'] at hpw
 have b2 : (n : Int) ≠ 0 := by omega
 clear hround hrw rt rb rF hst hsm lR9
 generalize kF 40 = C at *
 generalize lcs R = RL at *
 generalize R.length = rl at *
 generalize rowF F 0 = f0 at *
 generalize rowF F (n - 1) = fN at *
 simp (maxSteps := 1000000) (disch := omega) only [ZF, ↓gd, Z3, stp, opPick, justO, just, Rd.bind, Rd.run, Rd.opt, upds, tsz, rdCells, aLoad, Zu, resA, resL, Z4, aNum, aLen, Z1, aBin, aInt, Nat.reduceAdd, Nat.reduceLT, Nat.reduceBEq, Nat.reduceEqDiff, Nat.reduceLeDiff, ↓reduceIte, reduceCtorEq, stpT, ↓gdT, Rd.foot, writing, Zb, Tr.empty, Zd, apartT, disj, aUn, aCall, snaps, aConv, Int.reduceEq, Int.reduceLE, Int.reduceToNat, ZT, F_9, w1, w2, w4, w5, w6, ht6 (), hs (), z6, hro, hc1, hc2, hc3, at0, hB, hal, hll, hto, zR, hj, gj, g0, hat, hfl, htot, lF, kF', a0, aN, wN, wd, hgd, gn, gn1, hsort, hpw, hloop, hwk]
end Go.AM.Ytfmnoohhhokicaa
end
noncomputable section
namespace Go.AM.Ytfmnoohhhokicaa
open Go Go.AM
theorem Zon : isTrue (kF 40 17 [] [] 0) = true := by kernel_rfl
theorem soundK (d : Nat) : CS Proofs.Try.prog E (kF d) := ZqG (Z5k envOk mixed fr fg 1000000 d)
theorem soundB : CS Proofs.Try.prog E (bodyA E (kF 40) fg 1000000) := Zjz envOk mixed fg 1000000 (soundK 40)
end Go.AM.Ytfmnoohhhokicaa
end
noncomputable section
namespace Go.AM.Ytfmnoohhhokicaa
open Go Go.AM Go.RowKit Go.Proofs Go.Proofs.Ytfmnoohhhokicaa Go.ChangeShapes Go.WideShapes Go.ChangeAt Go.AM.Rub
theorem laidOut : laidOutB Try.prog = true := by kernel_rfl
theorem Z5X : Try.prog.readableRec 5 = true := by kernel_rfl
theorem Z8g : 5 < Try.prog.types.size := of_decide_eq_true (by kernel_rfl)
theorem ZcK {W : World} {x0 : Int} {x1 : Int} (h0 : 0 ≤ x0 ∧ x0 ≤ 255) (h1 : 0 ≤ x1 ∧ x1 ≤ 255) :
   Calls Try.prog 9 #[.int .u8 x0, .int .u8 x1] W fun e w' => e = .returned (.bool true) ∧ Below W.heap.size W w' := by
 obtain ⟨H0, hw⟩ := Ztu Zon
 obtain ⟨H1, hr⟩ := Zz1 (Zha h0 h1 ⟨H0, hw⟩)
 refine Zzt soundB hr (fun k h => h) (vs := [.int .u8 x0, .int .u8 x1]) ?_
 simp only [Gh.Rs, VRs]
 exact ⟨_, _, rfl, by simp only [VR], _, _, rfl, by simp only [VR], rfl⟩
theorem Z8M (os : Os) (started : os.Started) (H : Type) (enc : TypeId × Value → H) :
   ReturnsInHanded {} Try.checked os 9 .any (Rows.rubFlatSpec.pre6 enc Try.prog Try.f9 Rows.rubFlatRow.domain false)
     (Rows.rubFlatSpec.post enc Try.prog Try.f9 false true false false) := by
 refine returnsInHanded_of_change own started (by kernel_rfl) Try.func9 (ChangeSpec.witness6 (enc := enc) (C := Try.checked) false ⟨#[], #[.int .u8 0, .int .u8 0], []⟩ 8 (by kernel_rfl) (by kernel_rfl) (by kernel_rfl) (by kernel_rfl)) ?_
 intro W base args ds gs before hval0 hW _ _
 have hW' := hW
 obtain ⟨p, q, hA0, hV, rfl, hfz, hnd⟩ := hW
 have hA : DataW.TrodAll enc Try.prog W 0 (fun _ => true) true Try.f9.params.toList args.toList ds p := hA0
 rw [Try.params9] at hA
 obtain ⟨w0, vs0, d0, ds0, p0, q0, ha, rfl, rfl, t0, hr0⟩ := trodAll_cons hA
 obtain ⟨w1, vs1, d1, ds1, p1, q1, rfl, rfl, rfl, t1, hr1⟩ := trodAll_cons hr0
 obtain ⟨rfl, rfl, rfl⟩ := trodAll_nil hr1
 obtain rfl : args = #[w0, w1] := by cases args; simp_all
 obtain ⟨rfl, rfl⟩ := trodVars_none hV
 have hval : ∀ (j : Nat) t v, (#[5, 5] : Array TypeId)[j]? = some t → (#[w0, w1] : Array Value)[j]? = some v → Value.okWide Try.prog W .any base t v := by
   intro j t v; have := hval0 j t v; rw [Try.params9] at this; exact this
 obtain ⟨x0, rfl, h0⟩ := Zjh Try.underlying5 (hval 0 5 w0 rfl rfl)
 obtain ⟨x1, rfl, h1⟩ := Zjh Try.underlying5 (hval 1 5 w1 rfl rfl)
 refine (ZcK h0 h1).mono fun e W' ⟨he, bel⟩ => ?_
 subst he
 exact ⟨_, rfl, _, _, _, [], _, [], hW', trodAll_mk1 (shut_bool Try.underlying4 _),
   trodAll_mk2 (bel.trod' laidOut Z5X Z8g t0) (bel.trod' laidOut Z5X Z8g t1), rfl, bel.frame _, fun h => by cases h⟩
theorem rubFlat_holds : Rows.RubFlatSaid :=
 OpenClaim.holds_of_wide 9 Try.f9 rfl rfl rfl rfl rfl rfl rfl ⟨rfl, rfl, rfl, rfl, rfl⟩ rfl rfl rfl rfl rfl (by kernel_rfl) Try.func9 (by kernel_rfl)
   (of_decide_eq_true (by kernel_rfl)) (by unfold Func.isWrapper; first | (rw [if_pos (by decide +kernel)]; kernel_rfl) | (rw [if_neg (by decide +kernel)]; exact ⟨rfl, rfl⟩))
   (fun os started H enc _ => Z8M os started H enc)
end Go.AM.Ytfmnoohhhokicaa
namespace Go.Proofs.Ytfmnoohhhokicaa
theorem rubFlat_holds : Rows.RubFlatSaid := Go.AM.Ytfmnoohhhokicaa.rubFlat_holds
end Go.Proofs.Ytfmnoohhhokicaa
end
end
#print axioms Go.Proofs.Ytfmnoohhhokicaa.rubFlat_holds
