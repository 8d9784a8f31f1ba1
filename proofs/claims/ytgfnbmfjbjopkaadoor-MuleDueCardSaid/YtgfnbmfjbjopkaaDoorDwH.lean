/- A part of the proof of muleDue_card: DuH. Own work of this project; texts printed by own programs among it. -/
import Derived.KernelRfl
import Derived.Test.YtgfnbmfjbjopkaaDoorDwG
set_option maxRecDepth 1000000
set_option maxHeartbeats 16000000
noncomputable section
noncomputable section
namespace Go.AM.YtgfnbmfjbjopkaaDoor
open Go Go.AM
abbrev XQ (f n : Nat) (c a b : Code) : Prop := ∀ {C : Callee} {B N : Nat} {E0 : AHeap} {s : St}, execA E C (fg f) B n E0 N c s = seqX (execA E C (fg f) B n E0 N a s) (execA E C (fg f) B n E0 N b)
abbrev XG (f n : Nat) (c : Code) (r : Array Oper) (l : List Nat) : Prop := ∀ {C : Callee} {B N : Nat} {E0 : AHeap} {s : St}, execA E C (fg f) B n E0 N c s = regX (runA E C B n r r.toList s) (fun s => gcM E0 l (forget s.1 l, s.2))
abbrev XD (f n : Nat) (c : Code) (r : Array Oper) (l : List Nat) : Prop := ∀ {C : Callee} {B N : Nat} {E0 : AHeap} {s : St}, execA E C (fg f) B n E0 N c s = regX (drawA E C B n r s) (fun s => gcM E0 l (forget s.1 l, s.2))
abbrev XC (f n : Nat) (c : Code) (k : Nat) (t e : Code) : Prop := ∀ {C : Callee} {B N : Nat} {E0 : AHeap} {φ : AFr} {H : AHeap}, execA E C (fg f) B n E0 N c (φ, H) = condX (fget φ k) (execA E C (fg f) B n E0 N t (φ, H)) (execA E C (fg f) B n E0 N e (φ, H))
variable {C : Callee} {B N : Nat} {E0 : AHeap} (φ : AFr) (H : AHeap) (s : St)
theorem T_3 : E.T 3 = some ⟨.int .i64, 1, 8, (some [.int .i64 0])⟩ := nf
theorem T_5 : E.T 5 = some ⟨.int .u8, 1, 1, (some [.int .u8 0])⟩ := nf
theorem T_22 : E.T 22 = some ⟨.slice 62, 1, 24, (some [.nilsl])⟩ := nf
theorem T_23 : E.T 23 = some ⟨.slice 64, 1, 24, (some [.nilsl])⟩ := nf
theorem T_25 : E.T 25 = some ⟨.struct [(0, 22, 1), (1, 23, 1)] false, 2, 48, (some [.nilsl, .nilsl])⟩ := nf
theorem T_36 : E.T 36 = some ⟨.slice 3, 1, 24, (some [.nilsl])⟩ := nf
theorem T_53 : E.T 53 = some ⟨.arr 5 5 true, 5, 5, (some [.int .u8 0, .int .u8 0, .int .u8 0, .int .u8 0, .int .u8 0])⟩ := nf
theorem T_54 : E.T 54 = some ⟨.arr 6 53 false, 30, 30, (some [.int .u8 0, .int .u8 0, .int .u8 0, .int .u8 0, .int .u8 0, .int .u8 0, .int .u8 0, .int .u8 0, .int .u8 0, .int .u8 0, .int .u8 0, .int .u8 0, .int .u8 0, .int .u8 0, .int .u8 0, .int .u8 0, .int .u8 0, .int .u8 0, .int .u8 0, .int .u8 0, .int .u8 0, .int .u8 0, .int .u8 0, .int .u8 0, .int .u8 0, .int .u8 0, .int .u8 0, .int .u8 0, .int .u8 0, .int .u8 0])⟩ := nf
theorem T_55 : E.T 55 = some ⟨.int .u16, 1, 2, (some [.int .u16 0])⟩ := nf
theorem T_56 : E.T 56 = some ⟨.arr 6 5 true, 6, 6, (some [.int .u8 0, .int .u8 0, .int .u8 0, .int .u8 0, .int .u8 0, .int .u8 0])⟩ := nf
theorem T_58 : E.T 58 = some ⟨.struct [(0, 5, 1), (1, 54, 30), (31, 55, 1), (32, 56, 6)] false, 38, 40, (some [.int .u8 0, .int .u8 0, .int .u8 0, .int .u8 0, .int .u8 0, .int .u8 0, .int .u8 0, .int .u8 0, .int .u8 0, .int .u8 0, .int .u8 0, .int .u8 0, .int .u8 0, .int .u8 0, .int .u8 0, .int .u8 0, .int .u8 0, .int .u8 0, .int .u8 0, .int .u8 0, .int .u8 0, .int .u8 0, .int .u8 0, .int .u8 0, .int .u8 0, .int .u8 0, .int .u8 0, .int .u8 0, .int .u8 0, .int .u8 0, .int .u8 0, .int .u16 0, .int .u8 0, .int .u8 0, .int .u8 0, .int .u8 0, .int .u8 0, .int .u8 0])⟩ := nf
theorem T_62 : E.T 62 = some ⟨.struct [(0, 3, 1), (1, 3, 1), (2, 3, 1), (3, 3, 1), (4, 3, 1)] true, 5, 40, (some [.int .i64 0, .int .i64 0, .int .i64 0, .int .i64 0, .int .i64 0])⟩ := nf
theorem T_64 : E.T 64 = some ⟨.arr 2 3 true, 2, 16, (some [.int .i64 0, .int .i64 0])⟩ := nf
theorem Z0X : E.T 106 = some ⟨.slice 126, 1, 24, (some [.nilsl])⟩ := nf
theorem Z2h : E.T 107 = some ⟨.slice 121, 1, 24, (some [.nilsl])⟩ := nf
theorem ZO : E.T 109 = some ⟨.struct [(0, 106, 1), (1, 107, 1)] false, 2, 48, (some [.nilsl, .nilsl])⟩ := nf
theorem Z1c : E.T 121 = some ⟨.int .u64, 1, 8, (some [.int .u64 0])⟩ := nf
theorem Z1j : E.T 126 = some ⟨.arr 5 3 true, 5, 40, (some [.int .i64 0, .int .i64 0, .int .i64 0, .int .i64 0, .int .i64 0])⟩ := nf
theorem Zp4 : E.T 135 = some ⟨.slice 53, 1, 24, (some [.nilsl])⟩ := nf
def ZgY := kBody Proofs.Tryd.f126
def ZSw := kL ZgY
def Zdc := kO ZSw
def ZSp := opN Zdc 0
def ZQd := opN Zdc 1
theorem Z0Es : XG 126 14 ZSw Zdc [0] := Z7 (by rfl) (by rfl) _
theorem Z0qg : Zdc.toList = [ZSp, ZQd] := nf
theorem Z0r0 : stepA E C B 14 Zdc ZSp (φ, H) = stp (some 1) φ H (opBox (B + 1) (acells (fget φ 0))) := nf
theorem Z0n8 : stepA E C B 14 Zdc ZQd (φ, H) = stp (some 2) φ H (opBox (B + 2) (zeroCells E.T 126)) := nf
def Zps := kR ZgY
def ZNs := kL Zps
def Z0D := kO ZNs
def ZLn := opN Z0D 0
def ZHd := opN Z0D 1
def ZVf := opN Z0D 2
def ZRh := opN Z0D 3
def ZVu := opN Z0D 4
def ZF7 := opN Z0D 5
def ZVa := opN Z0D 6
def ZE5 := opN Z0D 7
def ZDU := opN Z0D 8
def ZWr := opN Z0D 9
def Zzd := opN Z0D 10
def ZA9 := opN Z0D 11
theorem Z0EN : XG 126 14 ZNs Z0D [1, 3, 4, 5, 6, 7, 8, 9, 10, 11, 12, 13] := Z7 (by rfl) (by rfl) _
theorem Z0pr : Z0D.toList = [ZLn, ZHd, ZVf, ZRh, ZVu, ZF7, ZVa, ZE5, ZDU, ZWr, Zzd, ZA9] := nf
theorem Z0ph : stepA E C B 14 Z0D ZLn (φ, H) = stp (some 3) φ H (just (Zb E.T 62 (fget φ 1) 0)) := nf
theorem Z0pg : stepA E C B 14 Z0D ZHd (φ, H) = stp (some 4) φ H (just (aLoad E.T 3 (fget φ 3))) := nf
theorem Z0pS : stepA E C B 14 Z0D ZVf (φ, H) = stp (some 5) φ H (just (Zb E.T 62 (fget φ 1) 1)) := nf
theorem Z0qe : stepA E C B 14 Z0D ZRh (φ, H) = stp (some 6) φ H (just (aLoad E.T 3 (fget φ 5))) := nf
theorem Z0o4 : stepA E C B 14 Z0D ZVu (φ, H) = stp (some 7) φ H (just (Zb E.T 62 (fget φ 1) 2)) := nf
theorem Z0pA : stepA E C B 14 Z0D ZF7 (φ, H) = stp (some 8) φ H (just (aLoad E.T 3 (fget φ 7))) := nf
theorem Z0lO : stepA E C B 14 Z0D ZVa (φ, H) = stp (some 9) φ H (just (Zb E.T 62 (fget φ 1) 3)) := nf
theorem Z0r3 : stepA E C B 14 Z0D ZE5 (φ, H) = stp (some 10) φ H (just (aLoad E.T 3 (fget φ 9))) := nf
theorem Z0nI : stepA E C B 14 Z0D ZDU (φ, H) = stp (some 11) φ H (just (Zb E.T 62 (fget φ 1) 4)) := nf
theorem Z0os : stepA E C B 14 Z0D ZWr (φ, H) = stp (some 12) φ H (just (aLoad E.T 3 (fget φ 11))) := nf
theorem Z0jN : stepA E C B 14 Z0D Zzd (φ, H) = stp (some 13) φ H (justO (aBuild E.T 126 (evO E φ) [(0, Operand.tmp 4), (1, Operand.tmp 6), (2, Operand.tmp 8), (3, Operand.tmp 10), (4, Operand.tmp 12)])) := nf
theorem Z0hS : stepA E C B 14 Z0D ZA9 (φ, H) = stp none φ H (opStore E.T 126 (fget φ 2) (fget φ 13)) := nf
def Z0kW := kR Zps
theorem Z0Bm : execA E C (fg 126) B 14 E0 N Z0kW s = some (.ret, s) := Z00 (by rfl) s
theorem Z0E9 : XQ 126 14 Zps ZNs Z0kW := Z1 (by rfl) _
theorem Z0EQ : XQ 126 14 ZgY ZSw Zps := Z1 (by rfl) _
theorem Z0DP : fInfo E 126 = some ⟨14, #[.cell 2 126], ZgY⟩ := nf
theorem Z0F7 (args : List AV) : bodyA E C fg N 126 args H B = bodyX E [.cell 2 126] (execA E C (fg 126) B 14 H N ZgY (Zm args 0 [], H)) := ZV Z0DP args H
def Zpt := kBody Proofs.Tryd.f99
def Z0dA := kL Zpt
def Zio := kO Z0dA
def Z0bw := opN Zio 0
def Z01d := opN Zio 1
theorem Z0HU : XG 99 16 Z0dA Zio [0, 4] := Z7 (by rfl) (by rfl) _
theorem Z0xz : Zio.toList = [Z0bw, Z01d] := nf
theorem Z0xC : stepA E C B 16 Zio Z0bw (φ, H) = stp (some 2) φ H (opBox (B + 2) (acells (fget φ 0))) := nf
theorem Z0zC : stepA E C B 16 Zio Z01d (φ, H) = some (fput φ 4 (.int .i64 0), H) := nf
def ZAQ := kR Zpt
def Z0dH := kL ZAQ
def Z0U := kO Z0dH
def Z0cj := opN Z0U 0
def Z0cs := opN Z0U 1
def Z08P := opN Z0U 2
def Z04x := opN Z0U 3
def Z06x := opN Z0U 4
def Z09W := opN Z0U 5
def Z08T := opN Z0U 6
def Z05Q := opN Z0U 7
def Z073 := opN Z0U 8
def Z04W := opN Z0U 9
def ZPz := opN Z0U 10
def ZGL := opN Z0U 11
theorem Z0HE : XG 99 16 Z0dH Z0U [1, 2, 5, 6, 7, 8, 9, 10, 11, 12, 13, 14, 15] := Z7 (by rfl) (by rfl) _
theorem Z0se : Z0U.toList = [Z0cj, Z0cs, Z08P, Z04x, Z06x, Z09W, Z08T, Z05Q, Z073, Z04W, ZPz, ZGL] := nf
theorem Z0y1 : stepA E C B 16 Z0U Z0cj (φ, H) = stp (some 5) φ H (just (Z6 E.T 126 (fget φ 2) (.int .i64 4))) := nf
theorem Z0xw : stepA E C B 16 Z0U Z0cs (φ, H) = stp (some 6) φ H (just (aLoad E.T 3 (fget φ 5))) := nf
theorem Z0t9 : stepA E C B 16 Z0U Z08P (φ, H) = stp (some 7) φ H (just (Z6 E.T 126 (fget φ 2) (.int .i64 3))) := nf
theorem Z0tI : stepA E C B 16 Z0U Z04x (φ, H) = stp (some 8) φ H (just (aLoad E.T 3 (fget φ 7))) := nf
theorem Z0x7 : stepA E C B 16 Z0U Z06x (φ, H) = some (fput φ 9 (fget φ 1), H) := nf
theorem Z0sL : stepA E C B 16 Z0U Z09W (φ, H) = stp (some 10) φ H (just (Z6 E.T 126 (fget φ 2) (.int .i64 2))) := nf
theorem Z0tt : stepA E C B 16 Z0U Z08T (φ, H) = stp (some 11) φ H (just (aLoad E.T 3 (fget φ 10))) := nf
theorem Z0t7 : stepA E C B 16 Z0U Z05Q (φ, H) = stp (some 12) φ H (just (aBin E.T .sub 3 (fget φ 9) (fget φ 11))) := nf
theorem Z0t0 : stepA E C B 16 Z0U Z073 (φ, H) = stp (some 13) φ H (Zf E.T (B + 13) .max #[3, 3] [(.int .i64 0), (fget φ 12)]) := nf
theorem Z0za : stepA E C B 16 Z0U Z04W (φ, H) = stp (some 14) φ H (just (aBin E.T .mul 3 (fget φ 8) (fget φ 13))) := nf
theorem Z0qt : stepA E C B 16 Z0U ZPz (φ, H) = stp (some 15) φ H (just (aBin E.T .add 3 (fget φ 6) (fget φ 14))) := nf
theorem Z0mn : stepA E C B 16 Z0U ZGL (φ, H) = some (fput φ 4 (fget φ 15), H) := nf
def Z0rV := kR ZAQ
theorem Z0Fi : execA E C (fg 99) B 16 E0 N Z0rV s = some (.ret, s) := Z00 (by rfl) s
theorem Z0Ft : XQ 99 16 ZAQ Z0dH Z0rV := Z1 (by rfl) _
theorem Z0Hw : XQ 99 16 Zpt Z0dA ZAQ := Z1 (by rfl) _
theorem Z0Hf : fInfo E 99 = some ⟨16, #[.tmp 4], Zpt⟩ := nf
theorem b_99 (args : List AV) : bodyA E C fg N 99 args H B = bodyX E [.tmp 4] (execA E C (fg 99) B 16 H N Zpt (Zm args 0 [], H)) := ZV Z0Hf args H
def ZnS := kBody Proofs.Tryd.f88
def Z0d7 := kL ZnS
def Zcm := kO Z0d7
def Z06B := opN Zcm 0
def ZZk := opN Zcm 1
def Z0av := opN Zcm 2
theorem Z5f : XG 88 156 Z0d7 Zcm [0, 3] := Z7 (by rfl) (by rfl) _
theorem Z2B : Zcm.toList = [Z06B, ZZk, Z0av] := nf
theorem Z2q : stepA E C B 156 Zcm Z06B (φ, H) = stp (some 1) φ H (opBox (B + 1) (acells (fget φ 0))) := nf
theorem Z2D : stepA E C B 156 Zcm ZZk (φ, H) = stp (some 2) φ H (opBox (B + 2) (zeroCells E.T 109)) := nf
theorem Z2C : stepA E C B 156 Zcm Z0av (φ, H) = some (fput φ 3 (.int .i64 0), H) := nf
def ZC6 := kR ZnS
def Z0cQ := kL ZC6
def Z96 := kO Z0cQ
def ZXT := opN Z96 0
def Z02e := opN Z96 1
def Z0bH := opN Z96 2
def Z03g := opN Z96 3
theorem Z5i : XG 88 156 Z0cQ Z96 [15, 16, 17] := Z7 (by rfl) (by rfl) _
theorem Z2s : Z96.toList = [ZXT, Z02e, Z0bH, Z03g] := nf
theorem Z2M : stepA E C B 156 Z96 ZXT (φ, H) = stp (some 15) φ H (just (Zb E.T 25 (fget φ 1) 0)) := nf
theorem Z2o : stepA E C B 156 Z96 Z02e (φ, H) = stp (some 16) φ H (just (aLoad E.T 22 (fget φ 15))) := nf
theorem Z2r : stepA E C B 156 Z96 Z0bH (φ, H) = stp (some 17) φ H (Zf E.T (B + 17) .len #[22] [(fget φ 16)]) := nf
theorem Z2y : stepA E C B 156 Z96 Z03g (φ, H) = some (fput φ 4 (fget φ 17), H) := nf
def ZBh := kR ZC6
def Z0ea := kL ZBh
def ZBV := kB Z0ea
def Z0eh := kL ZBV
def Zc3 := kO Z0eh
def Z09G := opN Zc3 0
def Z07W := opN Zc3 1
def Z00q := opN Zc3 2
theorem Z5u : XG 88 156 Z0eh Zc3 [19, 20] := Z7 (by rfl) (by rfl) _
theorem Z2F : Zc3.toList = [Z09G, Z07W, Z00q] := nf
theorem Z2t : stepA E C B 156 Zc3 Z09G (φ, H) = some (fput φ 19 (fget φ 4), H) := nf
theorem Z2L : stepA E C B 156 Zc3 Z07W (φ, H) = stp (some 20) φ H (just (aBin E.T .eql 3 (fget φ 19) (.int .i64 0))) := nf
theorem Z2J : stepA E C B 156 Zc3 Z00q (φ, H) = some (fput φ 18 (fget φ 20), H) := nf
def ZBd := kR ZBV
def ZBz := kT ZBd
def ZFb := kL ZBz
def ZbX := kO ZFb
def Z06j := opN ZbX 0
def ZY9 := opN ZbX 1
def ZZQ := opN ZbX 2
theorem Z3O : XG 88 156 ZFb ZbX [1, 4, 18, 21] := Z7 (by rfl) (by rfl) _
theorem Z2K : ZbX.toList = [Z06j, ZY9, ZZQ] := nf
theorem Z2n : stepA E C B 156 ZbX Z06j (φ, H) = stp (some 21) φ H (justO (aBuild E.T 109 (evO E φ) [])) := nf
theorem Z2A : stepA E C B 156 ZbX ZY9 (φ, H) = stp none φ H (opStore E.T 109 (fget φ 2) (fget φ 21)) := nf
theorem Z2v : stepA E C B 156 ZbX ZZQ (φ, H) = some (fput φ 3 (.int .i64 4), H) := nf
def Z0fN := kR ZBz
theorem Z3z : execA E C (fg 88) B 156 E0 N Z0fN s = some (.ret, s) := Z00 (by rfl) s
theorem Z5x : XQ 88 156 ZBz ZFb Z0fN := Z1 (by rfl) _
def Zpg := kE ZBd
def ZFx := kL Zpg
def Z1t := kO ZFx
def ZZh := opN Z1t 0
def Z02m := opN Z1t 1
def Zb6 := opN Z1t 2
def Z0b8 := opN Z1t 3
def Z01L := opN Z1t 4
def ZYL := opN Z1t 5
def Z05p := opN Z1t 6
def Z03K := opN Z1t 7
def Z09b := opN Z1t 8
theorem Z3m : XG 88 156 ZFx Z1t [18, 23, 24, 25, 26, 27, 28, 29, 30] := Z7 (by rfl) (by rfl) _
theorem Z2H : Z1t.toList = [ZZh, Z02m, Zb6, Z0b8, Z01L, ZYL, Z05p, Z03K, Z09b] := nf
theorem Z2x : stepA E C B 156 Z1t ZZh (φ, H) = some (fput φ 23 (fget φ 4), H) := nf
theorem Z2I : stepA E C B 156 Z1t Z02m (φ, H) = stp (some 24) φ H (just (aBin E.T .gtr 3 (fget φ 23) (.int .i64 6))) := nf
theorem Z2E : stepA E C B 156 Z1t Zb6 (φ, H) = some (fput φ 25 (fget φ 24), H) := nf
theorem Z2l : stepA E C B 156 Z1t Z0b8 (φ, H) = gd φ 25 false (fun φ => some (fput φ 26 (.tup []), H)) (fun φ => stp (some 26) φ H (just (Zb E.T 25 (fget φ 1) 1))) := s_gd (j := 2) (oj := Zb6) rfl rfl rfl (fun _ => rfl) (fun _ => rfl)
theorem Z2z : stepA E C B 156 Z1t Z01L (φ, H) = gd φ 25 false (fun φ => some (fput φ 27 (.tup []), H)) (fun φ => stp (some 27) φ H (just (aLoad E.T 23 (fget φ 26)))) := s_gd (j := 2) (oj := Zb6) rfl rfl rfl (fun _ => rfl) (fun _ => rfl)
theorem Z2G : stepA E C B 156 Z1t ZYL (φ, H) = gd φ 25 false (fun φ => some (fput φ 28 (.tup []), H)) (fun φ => stp (some 28) φ H (Zf E.T (B + 28) .len #[23] [(fget φ 27)])) := s_gd (j := 2) (oj := Zb6) rfl rfl rfl (fun _ => rfl) (fun _ => rfl)
theorem Z40 : stepA E C B 156 Z1t Z05p (φ, H) = gd φ 25 false (fun φ => some (fput φ 29 (.tup []), H)) (fun φ => stp (some 29) φ H (just (aBin E.T .gtr 3 (fget φ 28) (.int .i64 15)))) := s_gd (j := 2) (oj := Zb6) rfl rfl rfl (fun _ => rfl) (fun _ => rfl)
theorem Z42 : stepA E C B 156 Z1t Z03K (φ, H) = stp (some 30) φ H (opPick (fget φ 25) (.bool true) (fget φ 29)) := nf
theorem Z4a : stepA E C B 156 Z1t Z09b (φ, H) = some (fput φ 22 (fget φ 30), H) := nf
def ZrW := kR Zpg
def ZqH := kT ZrW
def ZLf := kL ZqH
def Zco := kO ZLf
def Z05K := opN Zco 0
def Z0ce := opN Zco 1
def Z09g := opN Zco 2
theorem Z5v : XG 88 156 ZLf Zco [1, 4, 22, 31] := Z7 (by rfl) (by rfl) _
theorem Z45 : Zco.toList = [Z05K, Z0ce, Z09g] := nf
theorem Z48 : stepA E C B 156 Zco Z05K (φ, H) = stp (some 31) φ H (justO (aBuild E.T 109 (evO E φ) [])) := nf
theorem Z47 : stepA E C B 156 Zco Z0ce (φ, H) = stp none φ H (opStore E.T 109 (fget φ 2) (fget φ 31)) := nf
theorem Z44 : stepA E C B 156 Zco Z09g (φ, H) = some (fput φ 3 (.int .i64 3), H) := nf
def Z0hh := kR ZqH
theorem Z5b : execA E C (fg 88) B 156 E0 N Z0hh s = some (.ret, s) := Z00 (by rfl) s
theorem Z5j : XQ 88 156 ZqH ZLf Z0hh := Z1 (by rfl) _
def Z0gO := kE ZrW
theorem Z5w : execA E C (fg 88) B 156 E0 N Z0gO s = some (.normal, s) := ZQ (by rfl) s
theorem Z5g : XC 88 156 ZrW 22 ZqH Z0gO := ZF (by rfl) _
theorem Z3p : XQ 88 156 Zpg ZFx ZrW := Z1 (by rfl) _
theorem Z5r : XC 88 156 ZBd 18 ZBz Zpg := ZF (by rfl) _
theorem Z5d : XQ 88 156 ZBV Z0eh ZBd := Z1 (by rfl) _
theorem Z5h : execA E C (fg 88) B 156 E0 N Z0ea s = blockX 0 (fun s => (forget s.1 [22], s.2)) (execA E C (fg 88) B 156 E0 N ZBV s) := Zy (by rfl) (by rfl) s
def Zsh := kR ZBh
def ZN2 := kL Zsh
def Z4y := kO ZN2
def Z082 := opN Z4y 0
def Z087 := opN Z4y 1
def ZZl := opN Z4y 2
def Z0bP := opN Z4y 3
def Z08E := opN Z4y 4
theorem Zbw : XG 88 156 ZN2 Z4y [32, 33, 34] := Z7 (by rfl) (by rfl) _
theorem Z8M : Z4y.toList = [Z082, Z087, ZZl, Z0bP, Z08E] := nf
theorem Z6Z : stepA E C B 156 Z4y Z082 (φ, H) = some (fput φ 32 (fget φ 4), H) := nf
theorem Z8X : stepA E C B 156 Z4y Z087 (φ, H) = stp (some 33) φ H (aMake E.T (B + 33) 107 (fget φ 32) (fget φ 32)) := nf
theorem Z6U : stepA E C B 156 Z4y ZZl (φ, H) = stp (some 34) φ H (justO (aBuild E.T 109 (evO E φ) [(1, Operand.tmp 33)])) := nf
theorem Z5z : stepA E C B 156 Z4y Z0bP (φ, H) = stp (some 5) φ H (opBox (B + 5) (zeroCells E.T 109)) := nf
theorem Z7n : stepA E C B 156 Z4y Z08E (φ, H) = stp none φ H (opStore E.T 109 (fget φ 5) (fget φ 34)) := nf
def ZnT := kR Zsh
def ZpB := kL ZnT
def ZHN := kL ZpB
def Z9k := kO ZHN
def Z05q := opN Z9k 0
def Z0at := opN Z9k 1
def Z088 := opN Z9k 2
def Z060 := opN Z9k 3
theorem Zbu : XG 88 156 ZHN Z9k [35] := Z7 (by rfl) (by rfl) _
theorem Z5R : Z9k.toList = [Z05q, Z0at, Z088, Z060] := nf
theorem Z8N : stepA E C B 156 Z9k Z05q (φ, H) = stp (some 35) φ H (just (Zb E.T 25 (fget φ 1) 0)) := nf
theorem Z6b : stepA E C B 156 Z9k Z0at (φ, H) = stp (some 36) φ H (just (aLoad E.T 22 (fget φ 35))) := nf
theorem Z7a : stepA E C B 156 Z9k Z088 (φ, H) = stp (some 37) φ H (Zf E.T (B + 37) .len #[22] [(fget φ 36)]) := nf
theorem Z6W : stepA E C B 156 Z9k Z060 (φ, H) = some (fput φ 38 (.int .i64 0), H) := nf
def ZWM := kR ZpB
def ZN6 := kB ZWM
def Z3A := kB ZN6
def ZNB := kL Z3A
def ZBS := kO ZNB
def ZYb := opN ZBS 0
theorem ZgM : XG 88 156 ZNB ZBS [] := Z7 (by rfl) (by rfl) _
theorem Zd2 : ZBS.toList = [ZYb] := nf
theorem ZcY : stepA E C B 156 ZBS ZYb (φ, H) = stp (some 39) φ H (just (aBin E.T .lss 3 (fget φ 38) (fget φ 37))) := nf
def Zsa := kR Z3A
def ZqC := kL Zsa
def Z0hC := kT ZqC
theorem ZhH : execA E C (fg 88) B 156 E0 N Z0hC s = some (.normal, s) := ZQ (by rfl) s
def Z0in := kE ZqC
theorem ZgL : execA E C (fg 88) B 156 E0 N Z0in s = some (.exit 1, s) := Z0i (by rfl) s
theorem Zi9 : XC 88 156 ZqC 39 Z0hC Z0in := ZF (by rfl) _
def ZqG := kR Zsa
def ZPN := kL ZqG
def Zns := kB ZPN
def ZVz := kL Zns
def Z9m := kO ZVz
def Z09J := opN Z9m 0
def Z02d := opN Z9m 1
def Z04K := opN Z9m 2
def Z00X := opN Z9m 3
theorem Zp8 : XG 88 156 ZVz Z9m [39, 40, 41] := Z7 (by rfl) (by rfl) _
theorem Zlm : Z9m.toList = [Z09J, Z02d, Z04K, Z00X] := nf
theorem Zlr : stepA E C B 156 Z9m Z09J (φ, H) = stp (some 40) φ H (just (Z6 E.T 22 (fget φ 36) (fget φ 38))) := nf
theorem Zj0 : stepA E C B 156 Z9m Z02d (φ, H) = stp (some 41) φ H (just (aLoad E.T 62 (fget φ 40))) := nf
theorem ZiY : stepA E C B 156 Z9m Z04K (φ, H) = stp (some 7) φ H (opBox (B + 7) (zeroCells E.T 62)) := nf
theorem Zkc : stepA E C B 156 Z9m Z00X (φ, H) = stp none φ H (opStore E.T 62 (fget φ 7) (fget φ 41)) := nf
def Zsy := kR Zns
def ZP3 := kL Zsy
def Z4q := kO ZP3
def ZHT := opN Z4q 0
def ZL0 := opN Z4q 1
def ZCI := opN Z4q 2
def ZOX := opN Z4q 3
theorem ZnK : XG 88 156 ZP3 Z4q [7, 42, 43] := Z7 (by rfl) (by rfl) _
theorem ZfR : Z4q.toList = [ZHT, ZL0, ZCI, ZOX] := nf
theorem ZfJ : stepA E C B 156 Z4q ZHT (φ, H) = stp (some 42) φ H (just (aLoad E.T 62 (fget φ 7))) := nf
theorem Zff : stepA E C B 156 Z4q ZL0 (φ, H) = stp (some 43) φ H (aCall C (fun j => B + j * 156 + 43) true 126 [(fget φ 42)]) := nf
theorem ZfU : stepA E C B 156 Z4q ZCI (φ, H) = stp (some 8) φ H (opBox (B + 8) (zeroCells E.T 126)) := nf
theorem ZeI : stepA E C B 156 Z4q ZOX (φ, H) = stp none φ H (opStore E.T 126 (fget φ 8) (fget φ 43)) := nf
def Zqg := kR Zsy
def ZUA := kL Zqg
def Zqz := kB ZUA
def ZKh := kL Zqz
def Z1m := kO ZKh
def ZEo := opN Z1m 0
def ZGr := opN Z1m 1
def ZFN := opN Z1m 2
def ZPw := opN Z1m 3
def ZPk := opN Z1m 4
theorem Zq2 : XD 88 156 ZKh Z1m [45, 46, 47, 48] := Z0L (by rfl) (by rfl) _
theorem Zgu : Z1m.toList = [ZEo, ZGr, ZFN, ZPw, ZPk] := nf
theorem Z0fm : statOk Z1m = true := by kernel_rfl
theorem Zcw : drawA E C B 156 Z1m s = if neat 156 s = true then drX Z1m (runT E C B 156 Z1m Z1m.toList 0 s) else none := Z0w Z0fm s
theorem Zc2 (l : List (Nat × Tr)) : dynOk Z1m l = (!writing l || Zu [[], [], [1], [0, 1, 2], [0, 1, 2, 3]] (Zr l)) := Z0g (by kernel_rfl) l
theorem ZeG : stepT E C B 156 Z1m ZEo (φ, H) = stpT (some 45) φ H (just (aLoad E.T 126 (fget φ 8))) := Z8 rfl (Zg rfl rfl)
theorem Zfi : stepT E C B 156 Z1m ZGr (φ, H) = stpT (some 46) φ H (just (aLoad E.T 126 (fget φ 8))) := Z8 rfl (Zg rfl rfl)
theorem ZfL : stepT E C B 156 Z1m ZFN (φ, H) = stpT (some 47) φ H (aCall C (fun j => B + j * 156 + 47) true 127 [(fget φ 46)]) := Z8 rfl (Zg rfl rfl)
theorem Zez : stepT E C B 156 Z1m ZPw (φ, H) = stpT (some 48) φ H (just (aBin E.T .neq 126 (fget φ 45) (fget φ 47))) := Z8 rfl (Zg rfl rfl)
theorem Zfl : stepT E C B 156 Z1m ZPk (φ, H) = some ((fput φ 44 (fget φ 48), H), ⟨false, [], []⟩) := Z8 rfl (Zt rfl rfl)
def Zn0 := kR Zqz
def ZpW := kT Zn0
def ZXp := kL ZpW
def Z9y := kO ZXp
def ZDA := opN Z9y 0
def ZSE := opN Z9y 1
def ZRK := opN Z9y 2
theorem ZpR : XG 88 156 ZXp Z9y [1, 4, 5, 8, 36, 37, 38, 44, 49] := Z7 (by rfl) (by rfl) _
theorem Zfh : Z9y.toList = [ZDA, ZSE, ZRK] := nf
theorem Zgr : stepA E C B 156 Z9y ZDA (φ, H) = stp (some 49) φ H (justO (aBuild E.T 109 (evO E φ) [])) := nf
theorem Zg8 : stepA E C B 156 Z9y ZSE (φ, H) = stp none φ H (opStore E.T 109 (fget φ 2) (fget φ 49)) := nf
theorem Zg4 : stepA E C B 156 Z9y ZRK (φ, H) = some (fput φ 3 (.int .i64 1), H) := nf
def Z0fT := kR ZpW
theorem Zow : execA E C (fg 88) B 156 E0 N Z0fT s = some (.ret, s) := Z00 (by rfl) s
theorem Znk : XQ 88 156 ZpW ZXp Z0fT := Z1 (by rfl) _
def Zom := kE Zn0
def ZH6 := kL Zom
def Z1Z := kO ZH6
def ZPA := opN Z1Z 0
def ZDF := opN Z1Z 1
def ZEV := opN Z1Z 2
def ZWQ := opN Z1Z 3
def ZQn := opN Z1Z 4
def ZTr := opN Z1Z 5
theorem ZmU : XG 88 156 ZH6 Z1Z [44, 51, 52, 53, 54, 55] := Z7 (by rfl) (by rfl) _
theorem ZeR : Z1Z.toList = [ZPA, ZDF, ZEV, ZWQ, ZQn, ZTr] := nf
theorem Zfp : stepA E C B 156 Z1Z ZPA (φ, H) = stp (some 51) φ H (just (Z6 E.T 126 (fget φ 8) (.int .i64 0))) := nf
theorem ZeF : stepA E C B 156 Z1Z ZDF (φ, H) = stp (some 52) φ H (just (aLoad E.T 3 (fget φ 51))) := nf
theorem ZeW : stepA E C B 156 Z1Z ZEV (φ, H) = stp (some 53) φ H (just (Z6 E.T 126 (fget φ 8) (.int .i64 1))) := nf
theorem ZeQ : stepA E C B 156 Z1Z ZWQ (φ, H) = stp (some 54) φ H (just (aLoad E.T 3 (fget φ 53))) := nf
theorem Zfu : stepA E C B 156 Z1Z ZQn (φ, H) = stp (some 55) φ H (just (aBin E.T .gtr 3 (fget φ 52) (fget φ 54))) := nf
theorem Zg3 : stepA E C B 156 Z1Z ZTr (φ, H) = some (fput φ 50 (fget φ 55), H) := nf
def Zpm := kR Zom
def ZoN := kT Zpm
def ZPF := kL ZoN
def Z9t := kO ZPF
def ZNy := opN Z9t 0
def ZJw := opN Z9t 1
def ZQU := opN Z9t 2
theorem Zrh : XG 88 156 ZPF Z9t [1, 4, 5, 8, 36, 37, 38, 50, 56] := Z7 (by rfl) (by rfl) _
theorem ZeA : Z9t.toList = [ZNy, ZJw, ZQU] := nf
theorem ZfH : stepA E C B 156 Z9t ZNy (φ, H) = stp (some 56) φ H (justO (aBuild E.T 109 (evO E φ) [])) := nf
theorem Zgt : stepA E C B 156 Z9t ZJw (φ, H) = stp none φ H (opStore E.T 109 (fget φ 2) (fget φ 56)) := nf
theorem ZfE : stepA E C B 156 Z9t ZQU (φ, H) = some (fput φ 3 (.int .i64 7), H) := nf
def Z0fL := kR ZoN
theorem ZrV : execA E C (fg 88) B 156 E0 N Z0fL s = some (.ret, s) := Z00 (by rfl) s
theorem Zpe : XQ 88 156 ZoN ZPF Z0fL := Z1 (by rfl) _
def Z0ib := kE Zpm
theorem ZnH : execA E C (fg 88) B 156 E0 N Z0ib s = some (.normal, s) := ZQ (by rfl) s
theorem ZoB : XC 88 156 Zpm 50 ZoN Z0ib := ZF (by rfl) _
theorem ZrI : XQ 88 156 Zom ZH6 Zpm := Z1 (by rfl) _
theorem Zpp : XC 88 156 Zn0 44 ZpW Zom := ZF (by rfl) _
theorem Zpi : XQ 88 156 Zqz ZKh Zn0 := Z1 (by rfl) _
theorem ZpZ : execA E C (fg 88) B 156 E0 N ZUA s = blockX 3 (fun s => (forget s.1 [50], s.2)) (execA E C (fg 88) B 156 E0 N Zqz s) := Zy (by rfl) (by rfl) s
def ZMB := kR Zqg
def Z1C := kO ZMB
def ZW8 := opN Z1C 0
def ZPQ := opN Z1C 1
def ZNW := opN Z1C 2
def ZRg := opN Z1C 3
def ZJs := opN Z1C 4
def ZVY := opN Z1C 5
def ZL4 := opN Z1C 6
theorem Z0hE : XG 88 156 ZMB Z1C [8, 57, 58, 59, 60, 61, 62] := Z7 (by rfl) (by rfl) _
theorem ZME : Z1C.toList = [ZW8, ZPQ, ZNW, ZRg, ZJs, ZVY, ZL4] := nf
theorem ZOM : stepA E C B 156 Z1C ZW8 (φ, H) = stp (some 57) φ H (just (Zb E.T 109 (fget φ 5) 0)) := nf
theorem ZJc : stepA E C B 156 Z1C ZPQ (φ, H) = stp (some 58) φ H (just (aLoad E.T 106 (fget φ 57))) := nf
theorem ZRw : stepA E C B 156 Z1C ZNW (φ, H) = stp (some 59) φ H (just (aLoad E.T 126 (fget φ 8))) := nf
theorem ZHY : stepA E C B 156 Z1C ZRg (φ, H) = stp (some 60) φ H (ZZ E.T (B + 60) 106 1 (evO E φ) [(0, Operand.tmp 59)]) := nf
theorem ZOV : stepA E C B 156 Z1C ZJs (φ, H) = stp (some 61) φ H (Zf E.T (B + 61) .append #[106, 106] [(fget φ 58), (fget φ 60)]) := nf
theorem ZEd : stepA E C B 156 Z1C ZVY (φ, H) = stp (some 62) φ H (just (Zb E.T 109 (fget φ 5) 0)) := nf
theorem ZVF : stepA E C B 156 Z1C ZL4 (φ, H) = stp none φ H (opStore E.T 106 (fget φ 62) (fget φ 61)) := nf
theorem Zqi : XQ 88 156 Zqg ZUA ZMB := Z1 (by rfl) _
theorem Zqm : XQ 88 156 Zsy ZP3 Zqg := Z1 (by rfl) _
theorem Zoc : XQ 88 156 Zns ZVz Zsy := Z1 (by rfl) _
theorem Znr : execA E C (fg 88) B 156 E0 N ZPN s = blockX 2 (fun s => (forget s.1 [], s.2)) (execA E C (fg 88) B 156 E0 N Zns s) := Zy (by rfl) (by rfl) s
def ZJV := kR ZqG
def ZdZ := kO ZJV
def ZUP := opN ZdZ 0
def ZPh := opN ZdZ 1
theorem Z0je : XG 88 156 ZJV ZdZ [63] := Z7 (by rfl) (by rfl) _
theorem ZL9 : ZdZ.toList = [ZUP, ZPh] := nf
theorem ZUR : stepA E C B 156 ZdZ ZUP (φ, H) = stp (some 63) φ H (just (aBin E.T .add 3 (fget φ 38) (.int .i64 1))) := nf
theorem ZDr : stepA E C B 156 ZdZ ZPh (φ, H) = some (fput φ 38 (fget φ 63), H) := nf
theorem Zs0 : XQ 88 156 ZqG ZPN ZJV := Z1 (by rfl) _
theorem Zi4 : XQ 88 156 Zsa ZqC ZqG := Z1 (by rfl) _
theorem Zhd : XQ 88 156 Z3A ZNB Zsa := Z1 (by rfl) _
theorem Zbz : execA E C (fg 88) B 156 E0 N ZN6 s = iterA (execA E C (fg 88) B 156 E0 N Z3A) (headA E0) N s := Z0h (by rfl) s
theorem ZbT : execA E C (fg 88) B 156 E0 N ZWM s = blockX 1 (fun s => (forget s.1 [36, 37, 38, 39], s.2)) (execA E C (fg 88) B 156 E0 N ZN6 s) := Zy (by rfl) (by rfl) s
theorem Zbf : XQ 88 156 ZpB ZHN ZWM := Z1 (by rfl) _
def ZpT := kR ZnT
def Zry := kL ZpT
def ZVc := kL Zry
def Z4j := kO ZVc
def ZOk := opN Z4j 0
def ZEh := opN Z4j 1
def ZRy := opN Z4j 2
def ZTu := opN Z4j 3
theorem Zhi : XG 88 156 ZVc Z4j [64] := Z7 (by rfl) (by rfl) _
theorem Zbe : Z4j.toList = [ZOk, ZEh, ZRy, ZTu] := nf
theorem Zbt : stepA E C B 156 Z4j ZOk (φ, H) = stp (some 64) φ H (just (Zb E.T 25 (fget φ 1) 1)) := nf
theorem Zbx : stepA E C B 156 Z4j ZEh (φ, H) = stp (some 65) φ H (just (aLoad E.T 23 (fget φ 64))) := nf
theorem ZbG : stepA E C B 156 Z4j ZRy (φ, H) = stp (some 66) φ H (Zf E.T (B + 66) .len #[23] [(fget φ 65)]) := nf
theorem ZbB : stepA E C B 156 Z4j ZTu (φ, H) = some (fput φ 67 (.int .i64 0), H) := nf
def ZU5 := kR Zry
def ZWp := kB ZU5
def Z2u := kB ZWp
def ZMu := kL Z2u
def Zq3 := kO ZMu
def ZS4 := opN Zq3 0
theorem Zd4 : XG 88 156 ZMu Zq3 [] := Z7 (by rfl) (by rfl) _
theorem Z5N : Zq3.toList = [ZS4] := nf
theorem Z8C : stepA E C B 156 Zq3 ZS4 (φ, H) = stp (some 68) φ H (just (aBin E.T .lss 3 (fget φ 67) (fget φ 66))) := nf
def Zqk := kR Z2u
def ZnY := kL Zqk
def Z0fl := kT ZnY
theorem Zd9 : execA E C (fg 88) B 156 E0 N Z0fl s = some (.normal, s) := ZQ (by rfl) s
def Z0iN := kE ZnY
theorem Zed : execA E C (fg 88) B 156 E0 N Z0iN s = some (.exit 4, s) := Z0i (by rfl) s
theorem Zd1 : XC 88 156 ZnY 68 Z0fl Z0iN := ZF (by rfl) _
def Zo0 := kR Zqk
def ZEQ := kL Zo0
def Zoh := kB ZEQ
def ZJU := kL Zoh
def Z24 := kO ZJU
def ZM5 := opN Z24 0
def ZNL := opN Z24 1
def ZNm := opN Z24 2
def ZSF := opN Z24 3
def ZIx := opN Z24 4
def ZKH := opN Z24 5
theorem Znx : XG 88 156 ZJU Z24 [68, 69, 70, 71] := Z7 (by rfl) (by rfl) _
theorem ZeY : Z24.toList = [ZM5, ZNL, ZNm, ZSF, ZIx, ZKH] := nf
theorem ZfZ : stepA E C B 156 Z24 ZM5 (φ, H) = some (fput φ 69 (fget φ 67), H) := nf
theorem Zg7 : stepA E C B 156 Z24 ZNL (φ, H) = stp (some 70) φ H (just (Z6 E.T 23 (fget φ 65) (fget φ 67))) := nf
theorem Zfq : stepA E C B 156 Z24 ZNm (φ, H) = stp (some 71) φ H (just (aLoad E.T 64 (fget φ 70))) := nf
theorem Zfz : stepA E C B 156 Z24 ZSF (φ, H) = stp (some 10) φ H (opBox (B + 10) (zeroCells E.T 64)) := nf
theorem ZeX : stepA E C B 156 Z24 ZIx (φ, H) = some (fput φ 9 (fget φ 69), H) := nf
theorem ZeM : stepA E C B 156 Z24 ZKH (φ, H) = stp none φ H (opStore E.T 64 (fget φ 10) (fget φ 71)) := nf
def ZrO := kR Zoh
def ZSW := kL ZrO
def ZqB := kB ZSW
def ZQx := kL ZqB
def Z0c := kO ZQx
def ZU9 := opN Z0c 0
def ZVd := opN Z0c 1
def ZNo := opN Z0c 2
def ZOK := opN Z0c 3
def ZP1 := opN Z0c 4
def ZF0 := opN Z0c 5
def Z2Q := opN Z0c 6
def ZKn := opN Z0c 7
def ZQG := opN Z0c 8
def ZPU := opN Z0c 9
def ZxU := opN Z0c 10
def Zy3 := opN Z0c 11
def ZA8 := opN Z0c 12
def ZzE := opN Z0c 13
def Zxo := opN Z0c 14
def ZAg := opN Z0c 15
theorem Zsj : XG 88 156 ZQx Z0c [73, 74, 75, 76, 77, 78, 79, 80, 81, 82, 83, 84, 85, 86, 87] := Z7 (by rfl) (by rfl) _
theorem ZeO : Z0c.toList = [ZU9, ZVd, ZNo, ZOK, ZP1, ZF0, Z2Q, ZKn, ZQG, ZPU, ZxU, Zy3, ZA8, ZzE, Zxo, ZAg] := nf
theorem Zgj : stepA E C B 156 Z0c ZU9 (φ, H) = stp (some 73) φ H (just (Z6 E.T 64 (fget φ 10) (.int .i64 0))) := nf
theorem ZeE : stepA E C B 156 Z0c ZVd (φ, H) = stp (some 74) φ H (just (aLoad E.T 3 (fget φ 73))) := nf
theorem Zg0 : stepA E C B 156 Z0c ZNo (φ, H) = stp (some 75) φ H (just (Z6 E.T 64 (fget φ 10) (.int .i64 1))) := nf
theorem Zgy : stepA E C B 156 Z0c ZOK (φ, H) = stp (some 76) φ H (just (aLoad E.T 3 (fget φ 75))) := nf
theorem Zgl : stepA E C B 156 Z0c ZP1 (φ, H) = stp (some 77) φ H (Zf E.T (B + 77) .min #[3, 3] [(fget φ 74), (fget φ 76)]) := nf
theorem Zfo : stepA E C B 156 Z0c ZF0 (φ, H) = stp (some 78) φ H (just (aBin E.T .lss 3 (fget φ 77) (.int .i64 0))) := nf
theorem Zf1 : stepA E C B 156 Z0c Z2Q (φ, H) = some (fput φ 79 (fget φ 78), H) := nf
theorem Zgf : stepA E C B 156 Z0c ZKn (φ, H) = gd φ 79 false (fun φ => some (fput φ 80 (.tup []), H)) (fun φ => stp (some 80) φ H (just (Z6 E.T 64 (fget φ 10) (.int .i64 0)))) := s_gd (j := 6) (oj := Z2Q) rfl rfl rfl (fun _ => rfl) (fun _ => rfl)
theorem ZfI : stepA E C B 156 Z0c ZQG (φ, H) = gd φ 79 false (fun φ => some (fput φ 81 (.tup []), H)) (fun φ => stp (some 81) φ H (just (aLoad E.T 3 (fget φ 80)))) := s_gd (j := 6) (oj := Z2Q) rfl rfl rfl (fun _ => rfl) (fun _ => rfl)
theorem Zfy : stepA E C B 156 Z0c ZPU (φ, H) = gd φ 79 false (fun φ => some (fput φ 82 (.tup []), H)) (fun φ => stp (some 82) φ H (just (Z6 E.T 64 (fget φ 10) (.int .i64 1)))) := s_gd (j := 6) (oj := Z2Q) rfl rfl rfl (fun _ => rfl) (fun _ => rfl)
theorem Zca : stepA E C B 156 Z0c ZxU (φ, H) = gd φ 79 false (fun φ => some (fput φ 83 (.tup []), H)) (fun φ => stp (some 83) φ H (just (aLoad E.T 3 (fget φ 82)))) := s_gd (j := 6) (oj := Z2Q) rfl rfl rfl (fun _ => rfl) (fun _ => rfl)
theorem Zcu : stepA E C B 156 Z0c Zy3 (φ, H) = gd φ 79 false (fun φ => some (fput φ 84 (.tup []), H)) (fun φ => stp (some 84) φ H (Zf E.T (B + 84) .max #[3, 3] [(fget φ 81), (fget φ 83)])) := s_gd (j := 6) (oj := Z2Q) rfl rfl rfl (fun _ => rfl) (fun _ => rfl)
theorem Zcc : stepA E C B 156 Z0c ZA8 (φ, H) = gd φ 79 false (fun φ => some (fput φ 85 (.tup []), H)) (fun φ => some (fput φ 85 (fget φ 4), H)) := s_gd (j := 6) (oj := Z2Q) rfl rfl rfl (fun _ => rfl) (fun _ => rfl)
theorem Zc1 : stepA E C B 156 Z0c ZzE (φ, H) = gd φ 79 false (fun φ => some (fput φ 86 (.tup []), H)) (fun φ => stp (some 86) φ H (just (aBin E.T .geq 3 (fget φ 84) (fget φ 85)))) := s_gd (j := 6) (oj := Z2Q) rfl rfl rfl (fun _ => rfl) (fun _ => rfl)
theorem ZcD : stepA E C B 156 Z0c Zxo (φ, H) = stp (some 87) φ H (opPick (fget φ 79) (.bool true) (fget φ 86)) := nf
theorem Zck : stepA E C B 156 Z0c ZAg (φ, H) = some (fput φ 72 (fget φ 87), H) := nf
def Zsz := kR ZqB
def Znf := kT Zsz
def ZG7 := kL Znf
def Za4 := kO ZG7
def ZLQ := opN Za4 0
def ZPR := opN Za4 1
def ZFg := opN Za4 2
theorem ZoO : XG 88 156 ZG7 Za4 [1, 4, 5, 9, 10, 65, 66, 67, 72, 88] := Z7 (by rfl) (by rfl) _
theorem Zf0 : Za4.toList = [ZLQ, ZPR, ZFg] := nf
theorem Zfc : stepA E C B 156 Za4 ZLQ (φ, H) = stp (some 88) φ H (justO (aBuild E.T 109 (evO E φ) [])) := nf
theorem Zfa : stepA E C B 156 Za4 ZPR (φ, H) = stp none φ H (opStore E.T 109 (fget φ 2) (fget φ 88)) := nf
theorem ZfV : stepA E C B 156 Za4 ZFg (φ, H) = some (fput φ 3 (.int .i64 2), H) := nf
def Z0gG := kR Znf
theorem Zpz : execA E C (fg 88) B 156 E0 N Z0gG s = some (.ret, s) := Z00 (by rfl) s
theorem Zop : XQ 88 156 Znf ZG7 Z0gG := Z1 (by rfl) _
def ZqL := kE Zsz
def ZSY := kL ZqL
def Z0S := kO ZSY
def ZCg := opN Z0S 0
def ZQX := opN Z0S 1
def ZJD := opN Z0S 2
def ZLK := opN Z0S 3
def ZCK := opN Z0S 4
def ZRG := opN Z0S 5
def ZMY := opN Z0S 6
theorem ZoF : XD 88 156 ZSY Z0S [9, 72, 90, 91, 92, 93, 94, 95] := Z0L (by rfl) (by rfl) _
theorem Zg2 : Z0S.toList = [ZCg, ZQX, ZJD, ZLK, ZCK, ZRG, ZMY] := nf
theorem Z0l8 : statOk Z0S = true := by kernel_rfl
theorem Zc6 : drawA E C B 156 Z0S s = if neat 156 s = true then drX Z0S (runT E C B 156 Z0S Z0S.toList 0 s) else none := Z0w Z0l8 s
theorem Zxx (l : List (Nat × Tr)) : dynOk Z0S l = (!writing l || Zu [[], [0], [], [0, 1, 2], [], [0, 1, 2, 3, 4], [0, 1, 2, 3, 4, 5]] (Zr l)) := Z0g (by kernel_rfl) l
theorem Zfb : stepT E C B 156 Z0S ZCg (φ, H) = stpT (some 90) φ H (just (Zb E.T 25 (fget φ 1) 1)) := Z8 rfl (Zg rfl rfl)
theorem Zgn : stepT E C B 156 Z0S ZQX (φ, H) = stpT (some 91) φ H (just (aLoad E.T 23 (fget φ 90))) := Z8 rfl (Zg rfl rfl)
theorem Zgk : stepT E C B 156 Z0S ZJD (φ, H) = some ((fput φ 92 (fget φ 9), H), ⟨false, [], []⟩) := Z8 rfl (Zt rfl rfl)
theorem Zfj : stepT E C B 156 Z0S ZLK (φ, H) = stpT (some 93) φ H (just (aSlice E.T 23 (fget φ 91) none (some (fget φ 92)) none)) := Z8 rfl (Zg rfl rfl)
theorem ZeL : stepT E C B 156 Z0S ZCK (φ, H) = stpT (some 94) φ H (just (aLoad E.T 64 (fget φ 10))) := Z8 rfl (Zg rfl rfl)
theorem ZfP : stepT E C B 156 Z0S ZRG (φ, H) = stpT (some 95) φ H (aCall C (fun j => B + j * 156 + 95) true 79 [(fget φ 93), (fget φ 94)]) := Z8 rfl (Zg rfl rfl)
theorem ZVt : stepT E C B 156 Z0S ZMY (φ, H) = some ((fput φ 89 (fget φ 95), H), ⟨false, [], []⟩) := Z8 rfl (Zt rfl rfl)
def ZnB := kR ZqL
def Zou := kT ZnB
def ZPY := kL Zou
def Z9N := kO ZPY
def ZId := opN Z9N 0
def ZKI := opN Z9N 1
def ZFL := opN Z9N 2
theorem Z0fq : XG 88 156 ZPY Z9N [1, 4, 5, 10, 65, 66, 67, 89, 96] := Z7 (by rfl) (by rfl) _
theorem ZPd : Z9N.toList = [ZId, ZKI, ZFL] := nf
theorem ZMq : stepA E C B 156 Z9N ZId (φ, H) = stp (some 96) φ H (justO (aBuild E.T 109 (evO E φ) [])) := nf
theorem ZVv : stepA E C B 156 Z9N ZKI (φ, H) = stp none φ H (opStore E.T 109 (fget φ 2) (fget φ 96)) := nf
theorem ZWP : stepA E C B 156 Z9N ZFL (φ, H) = some (fput φ 3 (.int .i64 6), H) := nf
def Z0km := kR Zou
theorem Z0f9 : execA E C (fg 88) B 156 E0 N Z0km s = some (.ret, s) := Z00 (by rfl) s
theorem Z0jY : XQ 88 156 Zou ZPY Z0km := Z1 (by rfl) _
def Z0kL := kE ZnB
theorem Z0iL : execA E C (fg 88) B 156 E0 N Z0kL s = some (.normal, s) := ZQ (by rfl) s
theorem Z0fS : XC 88 156 ZnB 89 Zou Z0kL := ZF (by rfl) _
theorem ZrB : XQ 88 156 ZqL ZSY ZnB := Z1 (by rfl) _
theorem Zr8 : XC 88 156 Zsz 72 Znf ZqL := ZF (by rfl) _
theorem ZoX : XQ 88 156 ZqB ZQx Zsz := Z1 (by rfl) _
theorem Zod : execA E C (fg 88) B 156 E0 N ZSW s = blockX 6 (fun s => (forget s.1 [89], s.2)) (execA E C (fg 88) B 156 E0 N ZqB s) := Zy (by rfl) (by rfl) s
def ZJg := kR ZrO
def Z0j := kO ZJg
def ZRU := opN Z0j 0
def ZWJ := opN Z0j 1
def ZX4 := opN Z0j 2
def ZXa := opN Z0j 3
def ZRn := opN Z0j 4
def ZXl := opN Z0j 5
def ZTI := opN Z0j 6
def ZEa := opN Z0j 7
def ZEE := opN Z0j 8
def ZRQ := opN Z0j 9
def ZyI := opN Z0j 10
def ZAe := opN Z0j 11
theorem Z0CQ : XD 88 156 ZJg Z0j [10, 97, 98, 99, 100, 101, 102, 103, 104, 105, 106, 107] := Z0L (by rfl) (by rfl) _
theorem Z0or : Z0j.toList = [ZRU, ZWJ, ZX4, ZXa, ZRn, ZXl, ZTI, ZEa, ZEE, ZRQ, ZyI, ZAe] := nf
theorem Z0kv : statOk Z0j = true := by kernel_rfl
theorem Z0gI : drawA E C B 156 Z0j s = if neat 156 s = true then drX Z0j (runT E C B 156 Z0j Z0j.toList 0 s) else none := Z0w Z0kv s
theorem Z0f4 (l : List (Nat × Tr)) : dynOk Z0j l = (!writing l || Zu [[], [0], [], [2], [0, 1, 2, 3], [0, 1, 2, 3, 4], [], [6], [6, 7], [0, 1, 2, 3, 4, 5, 6, 7, 8], [0, 1, 2, 3, 4, 5, 6, 7, 8, 9], [0, 1, 2, 3, 4, 5, 6, 7, 8, 9, 10]] (Zr l)) := Z0g (by kernel_rfl) l
theorem Z0lr : stepT E C B 156 Z0j ZRU (φ, H) = stpT (some 97) φ H (just (Zb E.T 109 (fget φ 5) 1)) := Z8 rfl (Zg rfl rfl)
theorem Z0pJ : stepT E C B 156 Z0j ZWJ (φ, H) = stpT (some 98) φ H (just (aLoad E.T 107 (fget φ 97))) := Z8 rfl (Zg rfl rfl)
theorem Z0nh : stepT E C B 156 Z0j ZX4 (φ, H) = stpT (some 99) φ H (just (Z6 E.T 64 (fget φ 10) (.int .i64 0))) := Z8 rfl (Zg rfl rfl)
theorem Z0rf : stepT E C B 156 Z0j ZXa (φ, H) = stpT (some 100) φ H (just (aLoad E.T 3 (fget φ 99))) := Z8 rfl (Zg rfl rfl)
theorem Z0pn : stepT E C B 156 Z0j ZRn (φ, H) = stpT (some 101) φ H (just (Z6 E.T 107 (fget φ 98) (fget φ 100))) := Z8 rfl (Zg rfl rfl)
theorem Z0mf : stepT E C B 156 Z0j ZXl (φ, H) = stpT (some 102) φ H (just (aLoad E.T 121 (fget φ 101))) := Z8 rfl (Zg rfl rfl)
theorem Z0pB : stepT E C B 156 Z0j ZTI (φ, H) = stpT (some 103) φ H (just (Z6 E.T 64 (fget φ 10) (.int .i64 1))) := Z8 rfl (Zg rfl rfl)
theorem Z0o0 : stepT E C B 156 Z0j ZEa (φ, H) = stpT (some 104) φ H (just (aLoad E.T 3 (fget φ 103))) := Z8 rfl (Zg rfl rfl)
theorem Z0nl : stepT E C B 156 Z0j ZEE (φ, H) = stpT (some 105) φ H (just (aBin E.T .shl 121 (.int .u64 1) (fget φ 104))) := Z8 rfl (Zg rfl rfl)
theorem Z0n1 : stepT E C B 156 Z0j ZRQ (φ, H) = stpT (some 106) φ H (just (aBin E.T .or 121 (fget φ 102) (fget φ 105))) := Z8 rfl (Zg rfl rfl)
theorem Z0kb : stepT E C B 156 Z0j ZyI (φ, H) = stpT (some 107) φ H (just (Z6 E.T 107 (fget φ 98) (fget φ 100))) := Z8 rfl (Zg rfl rfl)
theorem Z0iY : stepT E C B 156 Z0j ZAe (φ, H) = stpT none φ H (opStore E.T 121 (fget φ 107) (fget φ 106)) := Z8 rfl (Zg rfl rfl)
theorem ZpF : XQ 88 156 ZrO ZSW ZJg := Z1 (by rfl) _
theorem Znm : XQ 88 156 Zoh ZJU ZrO := Z1 (by rfl) _
theorem ZrN : execA E C (fg 88) B 156 E0 N ZEQ s = blockX 5 (fun s => (forget s.1 [], s.2)) (execA E C (fg 88) B 156 E0 N Zoh s) := Zy (by rfl) (by rfl) s
def ZSS := kR Zo0
def Zeu := kO ZSS
def ZHF := opN Zeu 0
def ZO7 := opN Zeu 1
theorem Z0Eq : XG 88 156 ZSS Zeu [108] := Z7 (by rfl) (by rfl) _
theorem Z0lm : Zeu.toList = [ZHF, ZO7] := nf
theorem Z0lJ : stepA E C B 156 Zeu ZHF (φ, H) = stp (some 108) φ H (just (aBin E.T .add 3 (fget φ 67) (.int .i64 1))) := nf
theorem Z0p5 : stepA E C B 156 Zeu ZO7 (φ, H) = some (fput φ 67 (fget φ 108), H) := nf
theorem ZpA : XQ 88 156 Zo0 ZEQ ZSS := Z1 (by rfl) _
theorem ZdH : XQ 88 156 Zqk ZnY Zo0 := Z1 (by rfl) _
theorem ZcP : XQ 88 156 Z2u ZMu Zqk := Z1 (by rfl) _
theorem ZhE : execA E C (fg 88) B 156 E0 N ZWp s = iterA (execA E C (fg 88) B 156 E0 N Z2u) (headA E0) N s := Z0h (by rfl) s
theorem Zhe : execA E C (fg 88) B 156 E0 N ZU5 s = blockX 4 (fun s => (forget s.1 [1, 65, 66, 67, 68], s.2)) (execA E C (fg 88) B 156 E0 N ZWp s) := Zy (by rfl) (by rfl) s
theorem ZgC : XQ 88 156 Zry ZVc ZU5 := Z1 (by rfl) _
def ZqX := kR ZpT
def Zo5 := kL ZqX
def ZUr := kL Zo5
def Zdg := kO ZUr
def ZWU := opN Zdg 0
def ZI3 := opN Zdg 1
theorem ZnF : XG 88 156 ZUr Zdg [] := Z7 (by rfl) (by rfl) _
theorem ZeS : Zdg.toList = [ZWU, ZI3] := nf
theorem Zgh : stepA E C B 156 Zdg ZWU (φ, H) = some (fput φ 109 (fget φ 4), H) := nf
theorem ZfW : stepA E C B 156 Zdg ZI3 (φ, H) = some (fput φ 110 (.int .i64 0), H) := nf
def ZJv := kR Zo5
def ZTH := kB ZJv
def Zew := kB ZTH
def ZPl := kL Zew
def ZoW := kO ZPl
def ZUH := opN ZoW 0
theorem Z0fD : XG 88 156 ZPl ZoW [] := Z7 (by rfl) (by rfl) _
theorem ZUN : ZoW.toList = [ZUH] := nf
theorem ZPo : stepA E C B 156 ZoW ZUH (φ, H) = stp (some 111) φ H (just (aBin E.T .lss 3 (fget φ 110) (fget φ 109))) := nf
def ZqF := kR Zew
def ZrT := kL ZqF
def Z0hP := kT ZrT
theorem Z0hn : execA E C (fg 88) B 156 E0 N Z0hP s = some (.normal, s) := ZQ (by rfl) s
def Z0hw := kE ZrT
theorem Z0gm : execA E C (fg 88) B 156 E0 N Z0hw s = some (.exit 7, s) := Z0i (by rfl) s
theorem Z0hQ : XC 88 156 ZrT 111 Z0hP Z0hw := ZF (by rfl) _
def Zp6 := kR ZqF
def ZVJ := kL Zp6
def Zj6 := kB ZVJ
def Zts := kL Zj6
def Ze5 := kO Zts
def ZWV := opN Ze5 0
def ZUD := opN Ze5 1
theorem Z0uW : XG 88 156 Zts Ze5 [111, 112] := Z7 (by rfl) (by rfl) _
theorem Z0r9 : Ze5.toList = [ZWV, ZUD] := nf
theorem Z0lw : stepA E C B 156 Ze5 ZWV (φ, H) = some (fput φ 112 (fget φ 110), H) := nf
theorem Z0pI : stepA E C B 156 Ze5 ZUD (φ, H) = some (fput φ 11 (fget φ 112), H) := nf
def Zls := kR Zj6
def ZwF := kL Zls
def Zdy := kO ZwF
def ZIr := opN Zdy 0
def ZJh := opN Zdy 1
theorem Z0z8 : XG 88 156 ZwF Zdy [] := Z7 (by rfl) (by rfl) _
theorem Z0ob : Zdy.toList = [ZIr, ZJh] := nf
theorem Z0qy : stepA E C B 156 Zdy ZIr (φ, H) = some (fput φ 113 (fget φ 4), H) := nf
theorem Z0pO : stepA E C B 156 Zdy ZJh (φ, H) = some (fput φ 114 (.int .i64 0), H) := nf
def ZtD := kR Zls
def ZtU := kB ZtD
def Zaw := kB ZtU
def ZvL := kL Zaw
def ZmR := kO ZvL
def ZNf := opN ZmR 0
theorem ZsJ : XG 88 156 ZvL ZmR [] := Z7 (by rfl) (by rfl) _
theorem ZmM : ZmR.toList = [ZNf] := nf
theorem Zmh : stepA E C B 156 ZmR ZNf (φ, H) = stp (some 115) φ H (just (aBin E.T .lss 3 (fget φ 114) (fget φ 113))) := nf
def ZiC := kR Zaw
def Zlc := kL ZiC
def Z01y := kT Zlc
theorem ZvF : execA E C (fg 88) B 156 E0 N Z01y s = some (.normal, s) := ZQ (by rfl) s
def Z05C := kE Zlc
theorem ZtI : execA E C (fg 88) B 156 E0 N Z05C s = some (.exit 9, s) := Z0i (by rfl) s
theorem ZwP : XC 88 156 Zlc 115 Z01y Z05C := ZF (by rfl) _
def Zil := kR ZiC
def Zw8 := kL Zil
def Zku := kB Zw8
def ZuP := kL Zku
def Ze2 := kO ZuP
def ZUj := opN Ze2 0
def ZMS := opN Ze2 1
theorem Z0cv : XG 88 156 ZuP Ze2 [115, 116] := Z7 (by rfl) (by rfl) _
theorem ZVp : Ze2.toList = [ZUj, ZMS] := nf
theorem ZTt : stepA E C B 156 Ze2 ZUj (φ, H) = some (fput φ 116 (fget φ 114), H) := nf
theorem ZGp : stepA E C B 156 Ze2 ZMS (φ, H) = some (fput φ 12 (fget φ 116), H) := nf
def Zln := kR Zku
def Zwe := kL Zln
def Z19 := kO Zwe
def ZKb := opN Z19 0
def ZQE := opN Z19 1
def ZF9 := opN Z19 2
def ZND := opN Z19 3
def ZT8 := opN Z19 4
def ZX3 := opN Z19 5
def ZCJ := opN Z19 6
def ZUu := opN Z19 7
def ZUh := opN Z19 8
theorem Z02a : XG 88 156 Zwe Z19 [117, 118, 119, 120, 121, 122, 123, 124] := Z7 (by rfl) (by rfl) _
theorem ZJX : Z19.toList = [ZKb, ZQE, ZF9, ZND, ZT8, ZX3, ZCJ, ZUu, ZUh] := nf
theorem ZEz : stepA E C B 156 Z19 ZKb (φ, H) = stp (some 117) φ H (just (Zb E.T 109 (fget φ 5) 1)) := nf
theorem ZIg : stepA E C B 156 Z19 ZQE (φ, H) = stp (some 118) φ H (just (aLoad E.T 107 (fget φ 117))) := nf
theorem ZKl : stepA E C B 156 Z19 ZF9 (φ, H) = some (fput φ 119 (fget φ 12), H) := nf
theorem ZDq : stepA E C B 156 Z19 ZND (φ, H) = stp (some 120) φ H (just (Z6 E.T 107 (fget φ 118) (fget φ 119))) := nf
theorem ZW2 : stepA E C B 156 Z19 ZT8 (φ, H) = stp (some 121) φ H (just (aLoad E.T 121 (fget φ 120))) := nf
theorem ZMI : stepA E C B 156 Z19 ZX3 (φ, H) = some (fput φ 122 (fget φ 11), H) := nf
theorem ZKc : stepA E C B 156 Z19 ZCJ (φ, H) = stp (some 123) φ H (just (aBin E.T .shr 121 (fget φ 121) (fget φ 122))) := nf
theorem ZPD : stepA E C B 156 Z19 ZUu (φ, H) = stp (some 124) φ H (just (aBin E.T .and 121 (fget φ 123) (.int .u64 1))) := nf
theorem ZJr : stepA E C B 156 Z19 ZUh (φ, H) = stp (some 125) φ H (just (aBin E.T .eql 121 (fget φ 124) (.int .u64 1))) := nf
def Zlq := kR Zln
def Zvn := kT Zlq
def Z0d := kO Zvn
def ZDR := opN Z0d 0
def ZPe := opN Z0d 1
def ZUv := opN Z0d 2
def ZGG := opN Z0d 3
def ZCB := opN Z0d 4
def ZTG := opN Z0d 5
def ZJk := opN Z0d 6
def ZRr := opN Z0d 7
def ZGN := opN Z0d 8
def ZGu := opN Z0d 9
def ZAl := opN Z0d 10
def Zxs := opN Z0d 11
def Zxu := opN Z0d 12
theorem Z05f : XD 88 156 Zvn Z0d [12, 125, 126, 127, 128, 129, 130, 131, 132, 133, 134, 135, 136, 137] := Z0L (by rfl) (by rfl) _
theorem ZMs : Z0d.toList = [ZDR, ZPe, ZUv, ZGG, ZCB, ZTG, ZJk, ZRr, ZGN, ZGu, ZAl, Zxs, Zxu] := nf
theorem Z0gD : statOk Z0d = true := by kernel_rfl
theorem ZyX : drawA E C B 156 Z0d s = if neat 156 s = true then drX Z0d (runT E C B 156 Z0d Z0d.toList 0 s) else none := Z0w Z0gD s
theorem Z0fA (l : List (Nat × Tr)) : dynOk Z0d l = (!writing l || Zu [[], [0], [], [0, 1, 2], [0, 1, 2, 3], [], [5], [], [5, 6, 7], [5, 6, 7, 8], [0, 1, 2, 3, 4, 5, 6, 7, 8, 9], [0, 1, 2, 3, 4, 5, 6, 7, 8, 9, 10], [0, 1, 2, 3, 4, 5, 6, 7, 8, 9, 10, 11]] (Zr l)) := Z0g (by kernel_rfl) l
theorem ZDZ : stepT E C B 156 Z0d ZDR (φ, H) = stpT (some 126) φ H (just (Zb E.T 109 (fget φ 5) 1)) := Z8 rfl (Zg rfl rfl)
theorem ZUm : stepT E C B 156 Z0d ZPe (φ, H) = stpT (some 127) φ H (just (aLoad E.T 107 (fget φ 126))) := Z8 rfl (Zg rfl rfl)
theorem ZTl : stepT E C B 156 Z0d ZUv (φ, H) = some ((fput φ 128 (fget φ 12), H), ⟨false, [], []⟩) := Z8 rfl (Zt rfl rfl)
theorem ZFP : stepT E C B 156 Z0d ZGG (φ, H) = stpT (some 129) φ H (just (Z6 E.T 107 (fget φ 127) (fget φ 128))) := Z8 rfl (Zg rfl rfl)
theorem ZJF : stepT E C B 156 Z0d ZCB (φ, H) = stpT (some 130) φ H (just (aLoad E.T 121 (fget φ 129))) := Z8 rfl (Zg rfl rfl)
theorem ZMA : stepT E C B 156 Z0d ZTG (φ, H) = stpT (some 131) φ H (just (Zb E.T 109 (fget φ 5) 1)) := Z8 rfl (Zg rfl rfl)
theorem ZFk : stepT E C B 156 Z0d ZJk (φ, H) = stpT (some 132) φ H (just (aLoad E.T 107 (fget φ 131))) := Z8 rfl (Zg rfl rfl)
theorem ZQk : stepT E C B 156 Z0d ZRr (φ, H) = some ((fput φ 133 (fget φ 11), H), ⟨false, [], []⟩) := Z8 rfl (Zt rfl rfl)
theorem ZOR : stepT E C B 156 Z0d ZGN (φ, H) = stpT (some 134) φ H (just (Z6 E.T 107 (fget φ 132) (fget φ 133))) := Z8 rfl (Zg rfl rfl)
theorem ZCV : stepT E C B 156 Z0d ZGu (φ, H) = stpT (some 135) φ H (just (aLoad E.T 121 (fget φ 134))) := Z8 rfl (Zg rfl rfl)
theorem ZyY : stepT E C B 156 Z0d ZAl (φ, H) = stpT (some 136) φ H (just (aBin E.T .or 121 (fget φ 130) (fget φ 135))) := Z8 rfl (Zg rfl rfl)
theorem ZxX : stepT E C B 156 Z0d Zxs (φ, H) = stpT (some 137) φ H (just (Z6 E.T 107 (fget φ 127) (fget φ 128))) := Z8 rfl (Zg rfl rfl)
theorem Zxr : stepT E C B 156 Z0d Zxu (φ, H) = stpT none φ H (opStore E.T 121 (fget φ 137) (fget φ 136)) := Z8 rfl (Zg rfl rfl)
def Z06R := kE Zlq
theorem Z011 : execA E C (fg 88) B 156 E0 N Z06R s = some (.normal, s) := ZQ (by rfl) s
theorem ZZA : XC 88 156 Zlq 125 Zvn Z06R := ZF (by rfl) _
theorem Z07Z : XQ 88 156 Zln Zwe Zlq := Z1 (by rfl) _
theorem Z067 : XQ 88 156 Zku ZuP Zln := Z1 (by rfl) _
theorem ZYV : execA E C (fg 88) B 156 E0 N Zw8 s = blockX 10 (fun s => (forget s.1 [12, 125], s.2)) (execA E C (fg 88) B 156 E0 N Zku s) := Zy (by rfl) (by rfl) s
def ZtK := kR Zil
def ZdU := kO ZtK
def ZMW := opN ZdU 0
def ZRc := opN ZdU 1
theorem Z005 : XG 88 156 ZtK ZdU [138] := Z7 (by rfl) (by rfl) _
theorem ZL8 : ZdU.toList = [ZMW, ZRc] := nf
theorem ZU1 : stepA E C B 156 ZdU ZMW (φ, H) = stp (some 138) φ H (just (aBin E.T .add 3 (fget φ 114) (.int .i64 1))) := nf
theorem ZUB : stepA E C B 156 ZdU ZRc (φ, H) = some (fput φ 114 (fget φ 138), H) := nf
theorem Z0c1 : XQ 88 156 Zil Zw8 ZtK := Z1 (by rfl) _
theorem Zw6 : XQ 88 156 ZiC Zlc Zil := Z1 (by rfl) _
theorem ZsF : XQ 88 156 Zaw ZvL ZiC := Z1 (by rfl) _
theorem Z0xU : execA E C (fg 88) B 156 E0 N ZtU s = iterA (execA E C (fg 88) B 156 E0 N Zaw) (headA E0) N s := Z0h (by rfl) s
theorem Z0wS : execA E C (fg 88) B 156 E0 N ZtD s = blockX 9 (fun s => (forget s.1 [11, 113, 114, 115], s.2)) (execA E C (fg 88) B 156 E0 N ZtU s) := Zy (by rfl) (by rfl) s
theorem Z0sf : XQ 88 156 Zls ZwF ZtD := Z1 (by rfl) _
theorem Z0AD : XQ 88 156 Zj6 Zts Zls := Z1 (by rfl) _
theorem Z0Ca : execA E C (fg 88) B 156 E0 N ZVJ s = blockX 8 (fun s => (forget s.1 [], s.2)) (execA E C (fg 88) B 156 E0 N Zj6 s) := Zy (by rfl) (by rfl) s
def ZuU := kR Zp6
def Zey := kO ZuU
def ZWF := opN Zey 0
def ZKx := opN Zey 1
theorem Z0wR : XG 88 156 ZuU Zey [139] := Z7 (by rfl) (by rfl) _
theorem Z0nq : Zey.toList = [ZWF, ZKx] := nf
theorem Z0qK : stepA E C B 156 Zey ZWF (φ, H) = stp (some 139) φ H (just (aBin E.T .add 3 (fget φ 110) (.int .i64 1))) := nf
theorem Z0pX : stepA E C B 156 Zey ZKx (φ, H) = some (fput φ 110 (fget φ 139), H) := nf
theorem Z0EE : XQ 88 156 Zp6 ZVJ ZuU := Z1 (by rfl) _
theorem Z0k6 : XQ 88 156 ZqF ZrT Zp6 := Z1 (by rfl) _
theorem Z0gc : XQ 88 156 Zew ZPl ZqF := Z1 (by rfl) _
theorem Zor : execA E C (fg 88) B 156 E0 N ZTH s = iterA (execA E C (fg 88) B 156 E0 N Zew) (headA E0) N s := Z0h (by rfl) s
theorem ZnI : execA E C (fg 88) B 156 E0 N ZJv s = blockX 7 (fun s => (forget s.1 [4, 109, 110, 111], s.2)) (execA E C (fg 88) B 156 E0 N ZTH s) := Zy (by rfl) (by rfl) s
theorem Znw : XQ 88 156 Zo5 ZUr ZJv := Z1 (by rfl) _
def ZiN := kR ZqX
def Ziv := kL ZiN
def ZuO := kL Ziv
def Z4l := kO ZuO
def ZG5 := opN Z4l 0
def ZEY := opN Z4l 1
def ZJB := opN Z4l 2
def ZOI := opN Z4l 3
theorem ZiU : XG 88 156 ZuO Z4l [140] := Z7 (by rfl) (by rfl) _
theorem ZeU : Z4l.toList = [ZG5, ZEY, ZJB, ZOI] := nf
theorem Zgc : stepA E C B 156 Z4l ZG5 (φ, H) = stp (some 140) φ H (just (Zb E.T 109 (fget φ 5) 1)) := nf
theorem Zgd : stepA E C B 156 Z4l ZEY (φ, H) = stp (some 141) φ H (just (aLoad E.T 107 (fget φ 140))) := nf
theorem Zfv : stepA E C B 156 Z4l ZJB (φ, H) = stp (some 142) φ H (Zf E.T (B + 142) .len #[107] [(fget φ 141)]) := nf
theorem Zfs : stepA E C B 156 Z4l ZOI (φ, H) = some (fput φ 143 (.int .i64 0), H) := nf
def Ztd := kR Ziv
def Zun := kB Ztd
def Z2w := kB Zun
def Ztw := kL Z2w
def Zsx := kO Ztw
def ZWt := opN Zsx 0
theorem ZvG : XG 88 156 Ztw Zsx [] := Z7 (by rfl) (by rfl) _
theorem ZmG : Zsx.toList = [ZWt] := nf
theorem ZmI : stepA E C B 156 Zsx ZWt (φ, H) = stp (some 144) φ H (just (aBin E.T .lss 3 (fget φ 143) (fget φ 142))) := nf
def Zli := kR Z2w
def Zkw := kL Zli
def ZXX := kT Zkw
theorem ZvP : execA E C (fg 88) B 156 E0 N ZXX s = some (.normal, s) := ZQ (by rfl) s
def Z0c5 := kE Zkw
theorem ZvX : execA E C (fg 88) B 156 E0 N Z0c5 s = some (.exit 11, s) := Z0i (by rfl) s
theorem ZtZ : XC 88 156 Zkw 144 ZXX Z0c5 := ZF (by rfl) _
def Ziu := kR Zli
def ZvY := kL Ziu
def Zjg := kB ZvY
def Zw1 := kL Zjg
def Z37 := kO Zw1
def ZVQ := opN Z37 0
def ZLz := opN Z37 1
def ZNH := opN Z37 2
def ZMG := opN Z37 3
def ZSH := opN Z37 4
theorem Z0a9 : XG 88 156 Zw1 Z37 [144, 145, 146, 147] := Z7 (by rfl) (by rfl) _
theorem ZQz : Z37.toList = [ZVQ, ZLz, ZNH, ZMG, ZSH] := nf
theorem ZIz : stepA E C B 156 Z37 ZVQ (φ, H) = some (fput φ 145 (fget φ 143), H) := nf
theorem ZCs : stepA E C B 156 Z37 ZLz (φ, H) = stp (some 146) φ H (just (Z6 E.T 107 (fget φ 141) (fget φ 143))) := nf
theorem ZFc : stepA E C B 156 Z37 ZNH (φ, H) = stp (some 147) φ H (just (aLoad E.T 121 (fget φ 146))) := nf
theorem ZJ1 : stepA E C B 156 Z37 ZMG (φ, H) = some (fput φ 13 (fget φ 145), H) := nf
theorem ZMm : stepA E C B 156 Z37 ZSH (φ, H) = some (fput φ 14 (fget φ 147), H) := nf
def ZkG := kR Zjg
def ZtX := kL ZkG
def Z33 := kO ZtX
def ZGj := opN Z33 0
def ZST := opN Z33 1
def ZGQ := opN Z33 2
def ZNO := opN Z33 3
def ZUy := opN Z33 4
theorem Z00K : XG 88 156 ZtX Z33 [13, 14, 148, 149, 150, 151] := Z7 (by rfl) (by rfl) _
theorem ZDx : Z33.toList = [ZGj, ZST, ZGQ, ZNO, ZUy] := nf
theorem ZMH : stepA E C B 156 Z33 ZGj (φ, H) = some (fput φ 148 (fget φ 14), H) := nf
theorem ZXi : stepA E C B 156 Z33 ZST (φ, H) = some (fput φ 149 (fget φ 13), H) := nf
theorem ZJ5 : stepA E C B 156 Z33 ZGQ (φ, H) = stp (some 150) φ H (just (aBin E.T .shr 121 (fget φ 148) (fget φ 149))) := nf
theorem ZOf : stepA E C B 156 Z33 ZNO (φ, H) = stp (some 151) φ H (just (aBin E.T .and 121 (fget φ 150) (.int .u64 1))) := nf
theorem ZX0 : stepA E C B 156 Z33 ZUy (φ, H) = stp (some 152) φ H (just (aBin E.T .eql 121 (fget φ 151) (.int .u64 1))) := nf
def Zjc := kR ZkG
def Ziy := kT Zjc
def Zut := kL Ziy
def Z9B := kO Zut
def ZEw := opN Z9B 0
def ZUM := opN Z9B 1
def ZUz := opN Z9B 2
theorem Z0c3 : XG 88 156 Zut Z9B [5, 141, 142, 143, 152, 153] := Z7 (by rfl) (by rfl) _
theorem ZTO : Z9B.toList = [ZEw, ZUM, ZUz] := nf
theorem ZLm : stepA E C B 156 Z9B ZEw (φ, H) = stp (some 153) φ H (justO (aBuild E.T 109 (evO E φ) [])) := nf
theorem ZR8 : stepA E C B 156 Z9B ZUM (φ, H) = stp none φ H (opStore E.T 109 (fget φ 2) (fget φ 153)) := nf
theorem ZHq : stepA E C B 156 Z9B ZUz (φ, H) = some (fput φ 3 (.int .i64 13), H) := nf
def ZZG := kR Ziy
theorem Z01z : execA E C (fg 88) B 156 E0 N ZZG s = some (.ret, s) := Z00 (by rfl) s
theorem Z095 : XQ 88 156 Ziy Zut ZZG := Z1 (by rfl) _
def Z08Z := kE Zjc
theorem Z0ad : execA E C (fg 88) B 156 E0 N Z08Z s = some (.normal, s) := ZQ (by rfl) s
theorem Z09S : XC 88 156 Zjc 152 Ziy Z08Z := ZF (by rfl) _
theorem Z093 : XQ 88 156 ZkG ZtX Zjc := Z1 (by rfl) _
theorem Z05g : XQ 88 156 Zjg Zw1 ZkG := Z1 (by rfl) _
theorem ZYl : execA E C (fg 88) B 156 E0 N ZvY s = blockX 12 (fun s => (forget s.1 [152], s.2)) (execA E C (fg 88) B 156 E0 N Zjg s) := Zy (by rfl) (by rfl) s
def ZtO := kR Ziu
def Zef := kO ZtO
def ZD5 := opN Zef 0
def ZKp := opN Zef 1
theorem Z0A7 : XG 88 156 ZtO Zef [154] := Z7 (by rfl) (by rfl) _
theorem Z0oI : Zef.toList = [ZD5, ZKp] := nf
theorem Z0qZ : stepA E C B 156 Zef ZD5 (φ, H) = stp (some 154) φ H (just (aBin E.T .add 3 (fget φ 143) (.int .i64 1))) := nf
theorem Z0p9 : stepA E C B 156 Zef ZKp (φ, H) = some (fput φ 143 (fget φ 154), H) := nf
theorem Z03x : XQ 88 156 Ziu ZvY ZtO := Z1 (by rfl) _
theorem ZwB : XQ 88 156 Zli Zkw Ziu := Z1 (by rfl) _
theorem ZtM : XQ 88 156 Z2w Ztw Zli := Z1 (by rfl) _
theorem Zk0 : execA E C (fg 88) B 156 E0 N Zun s = iterA (execA E C (fg 88) B 156 E0 N Z2w) (headA E0) N s := Z0h (by rfl) s
theorem ZiX : execA E C (fg 88) B 156 E0 N Ztd s = blockX 11 (fun s => (forget s.1 [141, 142, 143, 144], s.2)) (execA E C (fg 88) B 156 E0 N Zun s) := Zy (by rfl) (by rfl) s
theorem Zit : XQ 88 156 Ziv ZuO Ztd := Z1 (by rfl) _
def ZjI := kR ZiN
def Zur := kL ZjI
def Z9s := kO Zur
def ZCz := opN Z9s 0
def ZV3 := opN Z9s 1
def ZT4 := opN Z9s 2
theorem Z05T : XG 88 156 Zur Z9s [5, 155] := Z7 (by rfl) (by rfl) _
theorem ZVM : Z9s.toList = [ZCz, ZV3, ZT4] := nf
theorem ZLX : stepA E C B 156 Z9s ZCz (φ, H) = stp (some 155) φ H (just (aLoad E.T 109 (fget φ 5))) := nf
theorem ZQ9 : stepA E C B 156 Z9s ZV3 (φ, H) = stp none φ H (opStore E.T 109 (fget φ 2) (fget φ 155)) := nf
theorem ZGi : stepA E C B 156 Z9s ZT4 (φ, H) = some (fput φ 3 (.int .i64 0), H) := nf
def Z03X := kR ZjI
theorem ZYZ : execA E C (fg 88) B 156 E0 N Z03X s = some (.ret, s) := Z00 (by rfl) s
theorem Z09f : XQ 88 156 ZjI Zur Z03X := Z1 (by rfl) _
theorem ZkA : XQ 88 156 ZiN Ziv ZjI := Z1 (by rfl) _
theorem ZnC : XQ 88 156 ZqX Zo5 ZiN := Z1 (by rfl) _
theorem ZgW : XQ 88 156 ZpT Zry ZqX := Z1 (by rfl) _
theorem ZbR : XQ 88 156 ZnT ZpB ZpT := Z1 (by rfl) _
theorem Zbp : XQ 88 156 Zsh ZN2 ZnT := Z1 (by rfl) _
theorem Z5e : XQ 88 156 ZBh Z0ea Zsh := Z1 (by rfl) _
theorem Z5l : XQ 88 156 ZC6 Z0cQ ZBh := Z1 (by rfl) _
theorem Z5y : XQ 88 156 ZnS Z0d7 ZC6 := Z1 (by rfl) _
theorem Z0Hq : fInfo E 88 = some ⟨156, #[.cell 2 109, .tmp 3], ZnS⟩ := nf
theorem b_88 (args : List AV) : bodyA E C fg N 88 args H B = bodyX E [.cell 2 109, .tmp 3] (execA E C (fg 88) B 156 H N ZnS (Zm args 0 [], H)) := ZV Z0Hq args H
def Zog := kBody Proofs.Tryd.f68
def Z0eU := kL Zog
def Zkx := kO Z0eU
def Z0aL := opN Zkx 0
def Z059 := opN Zkx 1
theorem Z0ro : XG 68 11 Z0eU Zkx [0, 2] := Z7 (by rfl) (by rfl) _
theorem Z07H : Zkx.toList = [Z0aL, Z059] := nf
theorem ZYa : stepA E C B 11 Zkx Z0aL (φ, H) = stp (some 1) φ H (opBox (B + 1) (acells (fget φ 0))) := nf
theorem Z07z : stepA E C B 11 Zkx Z059 (φ, H) = some (fput φ 2 (.int .i64 0), H) := nf
def ZBN := kR Zog
def Z0dM := kL ZBN
def Z1P := kO Z0dM
def Z05m := opN Z1P 0
def Z03H := opN Z1P 1
def ZYo := opN Z1P 2
def Z04a := opN Z1P 3
def Z072 := opN Z1P 4
def Z0aV := opN Z1P 5
def Z0aH := opN Z1P 6
def ZZ4 := opN Z1P 7
theorem Z0rJ : XG 68 11 Z0dM Z1P [1, 3, 5, 6, 7, 8, 9] := Z7 (by rfl) (by rfl) _
theorem Z04z : Z1P.toList = [Z05m, Z03H, ZYo, Z04a, Z072, Z0aV, Z0aH, ZZ4] := nf
theorem Z05i : stepA E C B 11 Z1P Z05m (φ, H) = stp (some 6) φ H (just (aLoad E.T 25 (fget φ 1))) := nf
theorem Z089 : stepA E C B 11 Z1P Z03H (φ, H) = stp (some 7) φ H (aCall C (fun j => B + j * 11 + 7) true 88 [(fget φ 6)]) := nf
theorem Z02u : stepA E C B 11 Z1P ZYo (φ, H) = some (fput φ 5 (fget φ 7), H) := nf
theorem Z02M : stepA E C B 11 Z1P Z04a (φ, H) = stp (some 8) φ H (Zx (fget φ 5) 0) := nf
theorem Z0bf : stepA E C B 11 Z1P Z072 (φ, H) = stp (some 9) φ H (Zx (fget φ 5) 1) := nf
theorem Z09w : stepA E C B 11 Z1P Z0aV (φ, H) = stp (some 3) φ H (opBox (B + 3) (zeroCells E.T 109)) := nf
theorem Z0bp : stepA E C B 11 Z1P Z0aH (φ, H) = stp none φ H (opStore E.T 109 (fget φ 3) (fget φ 8)) := nf
theorem ZZ2 : stepA E C B 11 Z1P ZZ4 (φ, H) = some (fput φ 4 (fget φ 9), H) := nf
def ZBl := kR ZBN
def Z0d4 := kL ZBl
def Zjf := kO Z0d4
def Z07G := opN Zjf 0
def Z05V := opN Zjf 1
theorem Z0rH : XG 68 11 Z0d4 Zjf [4, 10] := Z7 (by rfl) (by rfl) _
theorem ZYg : Zjf.toList = [Z07G, Z05V] := nf
theorem ZZi : stepA E C B 11 Zjf Z07G (φ, H) = some (fput φ 10 (fget φ 4), H) := nf
theorem ZYP : stepA E C B 11 Zjf Z05V (φ, H) = some (fput φ 2 (fget φ 10), H) := nf
def Z0rB := kR ZBl
theorem Z0rt : execA E C (fg 68) B 11 E0 N Z0rB s = some (.ret, s) := Z00 (by rfl) s
theorem Z0rE : XQ 68 11 ZBl Z0d4 Z0rB := Z1 (by rfl) _
theorem Z0rn : XQ 68 11 ZBN Z0dM ZBl := Z1 (by rfl) _
theorem Z0s0 : XQ 68 11 Zog Z0eU ZBN := Z1 (by rfl) _
theorem Z0FG : fInfo E 68 = some ⟨11, #[.tmp 2], Zog⟩ := nf
theorem b_68 (args : List AV) : bodyA E C fg N 68 args H B = bodyX E [.tmp 2] (execA E C (fg 68) B 11 H N Zog (Zm args 0 [], H)) := ZV Z0FG args H
def Zn6 := kBody Proofs.Tryd.f95
def Z0cK := kL Zn6
def Ziq := kO Z0cK
def Z00f := opN Ziq 0
def Z04w := opN Ziq 1
theorem Z0FS : XG 95 8 Z0cK Ziq [0, 2] := Z7 (by rfl) (by rfl) _
theorem Z0tT : Ziq.toList = [Z00f, Z04w] := nf
theorem Z0uA : stepA E C B 8 Ziq Z00f (φ, H) = stp (some 1) φ H (opBox (B + 1) (acells (fget φ 0))) := nf
theorem Z0vn : stepA E C B 8 Ziq Z04w (φ, H) = some (fput φ 2 (.int .u64 0), H) := nf
def ZBt := kR Zn6
def Z0cP := kL ZBt
def Z3i := kO Z0cP
def Z0ct := opN Z3i 0
def Z04k := opN Z3i 1
def Z03u := opN Z3i 2
def Z01k := opN Z3i 3
def ZYr := opN Z3i 4
def ZYC := opN Z3i 5
theorem Z0HO : XG 95 8 Z0cP Z3i [1, 3, 4, 5, 6, 7] := Z7 (by rfl) (by rfl) _
theorem Z0yG : Z3i.toList = [Z0ct, Z04k, Z03u, Z01k, ZYr, ZYC] := nf
theorem Z0va : stepA E C B 8 Z3i Z0ct (φ, H) = stp (some 3) φ H (just (Zb E.T 109 (fget φ 1) 0)) := nf
theorem Z0we : stepA E C B 8 Z3i Z04k (φ, H) = stp (some 4) φ H (just (aLoad E.T 106 (fget φ 3))) := nf
theorem Z0xh : stepA E C B 8 Z3i Z03u (φ, H) = stp (some 5) φ H (Zf E.T (B + 5) .len #[106] [(fget φ 4)]) := nf
theorem Z0yE : stepA E C B 8 Z3i Z01k (φ, H) = stp (some 6) φ H (just (aBin E.T .shl 121 (.int .u64 1) (fget φ 5))) := nf
theorem Z0vI : stepA E C B 8 Z3i ZYr (φ, H) = stp (some 7) φ H (just (aBin E.T .sub 121 (fget φ 6) (.int .u64 1))) := nf
theorem Z0tB : stepA E C B 8 Z3i ZYC (φ, H) = some (fput φ 2 (fget φ 7), H) := nf
def Z0rI := kR ZBt
theorem Z0Ge : execA E C (fg 95) B 8 E0 N Z0rI s = some (.ret, s) := Z00 (by rfl) s
theorem Z0He : XQ 95 8 ZBt Z0cP Z0rI := Z1 (by rfl) _
theorem Z0FI : XQ 95 8 Zn6 Z0cK ZBt := Z1 (by rfl) _
theorem Z0Fa : fInfo E 95 = some ⟨8, #[.tmp 2], Zn6⟩ := nf
theorem b_95 (args : List AV) : bodyA E C fg N 95 args H B = bodyX E [.tmp 2] (execA E C (fg 95) B 8 H N Zn6 (Zm args 0 [], H)) := ZV Z0Fa args H
def ZhW := kBody Proofs.Tryd.f128
def ZWc := kL ZhW
def Z9z := kO ZWc
def ZFO := opN Z9z 0
def ZNw := opN Z9z 1
def ZDj := opN Z9z 2
theorem Z0DB : XG 128 9 ZWc Z9z [0, 1, 4] := Z7 (by rfl) (by rfl) _
theorem Z0q1 : Z9z.toList = [ZFO, ZNw, ZDj] := nf
theorem Z0qT : stepA E C B 9 Z9z ZFO (φ, H) = stp (some 2) φ H (opBox (B + 2) (acells (fget φ 0))) := nf
theorem Z0mZ : stepA E C B 9 Z9z ZNw (φ, H) = stp (some 3) φ H (opBox (B + 3) (acells (fget φ 1))) := nf
theorem Z0ox : stepA E C B 9 Z9z ZDj (φ, H) = some (fput φ 4 (.nilsl), H) := nf
def ZoC := kR ZhW
def ZVP := kL ZoC
def Z2X := kO ZVP
def ZIy := opN Z2X 0
def ZDt := opN Z2X 1
def ZVi := opN Z2X 2
def ZHM := opN Z2X 3
def ZDl := opN Z2X 4
theorem Z0DY : XG 128 9 ZVP Z2X [2, 3, 5, 6, 7, 8] := Z7 (by rfl) (by rfl) _
theorem Z0lu : Z2X.toList = [ZIy, ZDt, ZVi, ZHM, ZDl] := nf
theorem Z0pq : stepA E C B 9 Z2X ZIy (φ, H) = stp (some 5) φ H (just (aLoad E.T 121 (fget φ 3))) := nf
theorem Z0lj : stepA E C B 9 Z2X ZDt (φ, H) = stp (some 6) φ H (aCall C (fun j => B + j * 9 + 6) true 97 [(fget φ 5)]) := nf
theorem Z0pR : stepA E C B 9 Z2X ZVi (φ, H) = stp (some 7) φ H (.pure (.clo 141 [(fget φ 2), (fget φ 3)], [])) := nf
theorem Z0om : stepA E C B 9 Z2X ZHM (φ, H) = mutX (some 8) φ (C 140 [(fget φ 6), (fget φ 7)] H (B + 9 * 8)) := nf
theorem Z0nV : stepA E C B 9 Z2X ZDl (φ, H) = some (fput φ 4 (fget φ 8), H) := nf
def Z0hl := kR ZoC
theorem Z0F2 : execA E C (fg 128) B 9 E0 N Z0hl s = some (.ret, s) := Z00 (by rfl) s
theorem Z0CJ : XQ 128 9 ZoC ZVP Z0hl := Z1 (by rfl) _
theorem Z0Dp : XQ 128 9 ZhW ZWc ZoC := Z1 (by rfl) _
theorem Z0Di : fInfo E 128 = some ⟨9, #[.tmp 4], ZhW⟩ := nf
theorem Z0GI (args : List AV) : bodyA E C fg N 128 args H B = bodyX E [.tmp 4] (execA E C (fg 128) B 9 H N ZhW (Zm args 0 [], H)) := ZV Z0Di args H
def Zhb := kBody Proofs.Tryd.f141
def ZLh := kL Zhb
def Zr1 := kO ZLh
def ZUU := opN Zr1 0
theorem Z0EB : XG 141 13 ZLh Zr1 [4] := Z7 (by rfl) (by rfl) _
theorem Z0ma : Zr1.toList = [ZUU] := nf
theorem Z0mE : stepA E C B 13 Zr1 ZUU (φ, H) = some (fput φ 4 (.bool false), H) := nf
def ZmT := kR Zhb
def ZMf := kL ZmT
def Z0F := kO ZMf
def ZGW := opN Z0F 0
def ZOL := opN Z0F 1
def ZQN := opN Z0F 2
def ZS3 := opN Z0F 3
def ZS9 := opN Z0F 4
def ZU2 := opN Z0F 5
def ZMx := opN Z0F 6
def ZOz := opN Z0F 7
def ZGZ := opN Z0F 8
theorem Z0CA : XD 141 13 ZMf Z0F [0, 1, 2, 5, 6, 7, 8, 9, 10, 11, 12] := Z0L (by rfl) (by rfl) _
theorem Z0mI : Z0F.toList = [ZGW, ZOL, ZQN, ZS3, ZS9, ZU2, ZMx, ZOz, ZGZ] := nf
theorem Z0iD : statOk Z0F = true := by kernel_rfl
theorem Z0kS : drawA E C B 13 Z0F s = if neat 13 s = true then drX Z0F (runT E C B 13 Z0F Z0F.toList 0 s) else none := Z0w Z0iD s
theorem Z0kR (l : List (Nat × Tr)) : dynOk Z0F l = (!writing l || Zu [[], [0], [], [0, 1, 2], [0, 1, 2, 3], [], [0, 1, 2, 3, 4, 5], [0, 1, 2, 3, 4, 5, 6], [0, 1, 2, 3, 4, 5, 6, 7]] (Zr l)) := Z0g (by kernel_rfl) l
theorem Z0oB : stepT E C B 13 Z0F ZGW (φ, H) = stpT (some 5) φ H (just (Zb E.T 109 (fget φ 1) 1)) := Z8 rfl (Zg rfl rfl)
theorem Z0mv : stepT E C B 13 Z0F ZOL (φ, H) = stpT (some 6) φ H (just (aLoad E.T 107 (fget φ 5))) := Z8 rfl (Zg rfl rfl)
theorem Z0oZ : stepT E C B 13 Z0F ZQN (φ, H) = some ((fput φ 7 (fget φ 0), H), ⟨false, [], []⟩) := Z8 rfl (Zt rfl rfl)
theorem Z0nf : stepT E C B 13 Z0F ZS3 (φ, H) = stpT (some 8) φ H (just (Z6 E.T 107 (fget φ 6) (fget φ 7))) := Z8 rfl (Zg rfl rfl)
theorem Z0np : stepT E C B 13 Z0F ZS9 (φ, H) = stpT (some 9) φ H (just (aLoad E.T 121 (fget φ 8))) := Z8 rfl (Zg rfl rfl)
theorem Z0qB : stepT E C B 13 Z0F ZU2 (φ, H) = stpT (some 10) φ H (just (aLoad E.T 121 (fget φ 2))) := Z8 rfl (Zg rfl rfl)
theorem Z0og : stepT E C B 13 Z0F ZMx (φ, H) = stpT (some 11) φ H (just (aBin E.T .and 121 (fget φ 9) (fget φ 10))) := Z8 rfl (Zg rfl rfl)
theorem Z0pH : stepT E C B 13 Z0F ZOz (φ, H) = stpT (some 12) φ H (just (aBin E.T .neq 121 (fget φ 11) (.int .u64 0))) := Z8 rfl (Zg rfl rfl)
theorem Z0ni : stepT E C B 13 Z0F ZGZ (φ, H) = some ((fput φ 4 (fget φ 12), H), ⟨false, [], []⟩) := Z8 rfl (Zt rfl rfl)
def Z0jn := kR ZmT
theorem Z0Bx : execA E C (fg 141) B 13 E0 N Z0jn s = some (.ret, s) := Z00 (by rfl) s
theorem Z0CE : XQ 141 13 ZmT ZMf Z0jn := Z1 (by rfl) _
theorem Z0Bl : XQ 141 13 Zhb ZLh ZmT := Z1 (by rfl) _
theorem Zn2 : fInfo E 141 = some ⟨13, #[.tmp 4], Zhb⟩ := nf
theorem Z0FV (args : List AV) : bodyA E C fg N 141 args H B = bodyX E [.tmp 4] (execA E C (fg 141) B 13 H N Zhb (Zm args 0 [], H)) := ZV Zn2 args H
def Zh6 := kBody Proofs.Tryd.f100
def ZR1 := kL Zh6
def ZdM := kO ZR1
def ZFr := opN ZdM 0
def ZOF := opN ZdM 1
theorem Z0gt : XG 100 25 ZR1 ZdM [0, 4] := Z7 (by rfl) (by rfl) _
theorem ZRH : ZdM.toList = [ZFr, ZOF] := nf
theorem ZTw : stepA E C B 25 ZdM ZFr (φ, H) = stp (some 2) φ H (opBox (B + 2) (acells (fget φ 0))) := nf
theorem ZD2 : stepA E C B 25 ZdM ZOF (φ, H) = some (fput φ 4 (.int .i64 0), H) := nf
def ZpE := kR Zh6
def ZUW := kL ZpE
def ZnR := kO ZUW
def ZKM := opN ZnR 0
theorem Z0iz : XG 100 25 ZUW ZnR [] := Z7 (by rfl) (by rfl) _
theorem ZJf : ZnR.toList = [ZKM] := nf
theorem ZDH : stepA E C B 25 ZnR ZKM (φ, H) = some (fput φ 5 (.int .i64 0), H) := nf
def ZrE := kR ZpE
def Zrk := kL ZrE
def ZF4 := kL Zrk
def Z4f := kO ZF4
def ZVD := opN Z4f 0
def ZFV := opN Z4f 1
def ZNj := opN Z4f 2
def ZFR := opN Z4f 3
theorem Z0jq : XG 100 25 ZF4 Z4f [1, 8] := Z7 (by rfl) (by rfl) _
theorem ZTY : Z4f.toList = [ZVD, ZFV, ZNj, ZFR] := nf
theorem ZF5 : stepA E C B 25 Z4f ZVD (φ, H) = some (fput φ 8 (fget φ 1), H) := nf
theorem ZCi : stepA E C B 25 Z4f ZFV (φ, H) = stp (some 9) φ H (aCall C (fun j => B + j * 25 + 9) true 97 [(fget φ 8)]) := nf
theorem ZEK : stepA E C B 25 Z4f ZNj (φ, H) = stp (some 10) φ H (Zf E.T (B + 10) .len #[36] [(fget φ 9)]) := nf
theorem ZIS : stepA E C B 25 Z4f ZFR (φ, H) = some (fput φ 11 (.int .i64 0), H) := nf
def ZVZ := kR Zrk
def ZFB := kB ZVZ
def Zb7 := kB ZFB
def ZsY := kL Zb7
def ZrJ := kO ZsY
def ZGm := opN ZrJ 0
theorem ZwE : XG 100 25 ZsY ZrJ [] := Z7 (by rfl) (by rfl) _
theorem ZlX : ZrJ.toList = [ZGm] := nf
theorem ZlP : stepA E C B 25 ZrJ ZGm (φ, H) = stp (some 12) φ H (just (aBin E.T .lss 3 (fget φ 11) (fget φ 10))) := nf
def ZjN := kR Zb7
def Zk4 := kL ZjN
def Z0c8 := kT Zk4
theorem ZuM : execA E C (fg 100) B 25 E0 N Z0c8 s = some (.normal, s) := ZQ (by rfl) s
def Z02C := kE Zk4
theorem Zwb : execA E C (fg 100) B 25 E0 N Z02C s = some (.exit 0, s) := Z0i (by rfl) s
theorem Zta : XC 100 25 Zk4 12 Z0c8 Z02C := ZF (by rfl) _
def ZjD := kR ZjN
def Zth := kL ZjD
def ZkK := kB Zth
def Zwx := kL ZkK
def Zai := kO Zwx
def ZSr := opN Zai 0
def ZCw := opN Zai 1
def ZDw := opN Zai 2
theorem Z0ym : XG 100 25 Zwx Zai [12, 13, 14] := Z7 (by rfl) (by rfl) _
theorem Z0qz : Zai.toList = [ZSr, ZCw, ZDw] := nf
theorem Z0oW : stepA E C B 25 Zai ZSr (φ, H) = stp (some 13) φ H (just (Z6 E.T 36 (fget φ 9) (fget φ 11))) := nf
theorem Z0qd : stepA E C B 25 Zai ZCw (φ, H) = stp (some 14) φ H (just (aLoad E.T 3 (fget φ 13))) := nf
theorem Z0p3 : stepA E C B 25 Zai ZDw (φ, H) = some (fput φ 7 (fget φ 14), H) := nf
def ZuV := kR ZkK
def Z1b := kO ZuV
def ZEq := opN Z1b 0
def ZSe := opN Z1b 1
def ZL5 := opN Z1b 2
def ZUL := opN Z1b 3
def ZRa := opN Z1b 4
def ZCh := opN Z1b 5
def ZMJ := opN Z1b 6
def ZK8 := opN Z1b 7
def ZFy := opN Z1b 8
theorem Z0vC : XG 100 25 ZuV Z1b [7, 15, 16, 17, 18, 19, 20, 21, 22] := Z7 (by rfl) (by rfl) _
theorem Z0qQ : Z1b.toList = [ZEq, ZSe, ZL5, ZUL, ZRa, ZCh, ZMJ, ZK8, ZFy] := nf
theorem Z0pb : stepA E C B 25 Z1b ZEq (φ, H) = some (fput φ 15 (fget φ 5), H) := nf
theorem Z0nS : stepA E C B 25 Z1b ZSe (φ, H) = stp (some 16) φ H (just (Zb E.T 109 (fget φ 2) 0)) := nf
theorem Z0n6 : stepA E C B 25 Z1b ZL5 (φ, H) = stp (some 17) φ H (just (aLoad E.T 106 (fget φ 16))) := nf
theorem Z0nR : stepA E C B 25 Z1b ZUL (φ, H) = some (fput φ 18 (fget φ 7), H) := nf
theorem Z0lU : stepA E C B 25 Z1b ZRa (φ, H) = stp (some 19) φ H (just (Z6 E.T 106 (fget φ 17) (fget φ 18))) := nf
theorem Z0pa : stepA E C B 25 Z1b ZCh (φ, H) = stp (some 20) φ H (just (Z6 E.T 126 (fget φ 19) (.int .i64 1))) := nf
theorem Z0ra : stepA E C B 25 Z1b ZMJ (φ, H) = stp (some 21) φ H (just (aLoad E.T 3 (fget φ 20))) := nf
theorem Z0le : stepA E C B 25 Z1b ZK8 (φ, H) = stp (some 22) φ H (just (aBin E.T .add 3 (fget φ 15) (fget φ 21))) := nf
theorem Z0o3 : stepA E C B 25 Z1b ZFy (φ, H) = some (fput φ 5 (fget φ 22), H) := nf
theorem Z0xv : XQ 100 25 ZkK Zwx ZuV := Z1 (by rfl) _
theorem Z0xX : execA E C (fg 100) B 25 E0 N Zth s = blockX 1 (fun s => (forget s.1 [], s.2)) (execA E C (fg 100) B 25 E0 N ZkK s) := Zy (by rfl) (by rfl) s
def Ztk := kR ZjD
def Zd8 := kO Ztk
def ZQS := opN Zd8 0
def ZDM := opN Zd8 1
theorem Z0uL : XG 100 25 Ztk Zd8 [23] := Z7 (by rfl) (by rfl) _
theorem Z0n2 : Zd8.toList = [ZQS, ZDM] := nf
theorem Z0qw : stepA E C B 25 Zd8 ZQS (φ, H) = stp (some 23) φ H (just (aBin E.T .add 3 (fget φ 11) (.int .i64 1))) := nf
theorem Z0oH : stepA E C B 25 Zd8 ZDM (φ, H) = some (fput φ 11 (fget φ 23), H) := nf
theorem Z0uI : XQ 100 25 ZjD Zth Ztk := Z1 (by rfl) _
theorem ZvT : XQ 100 25 ZjN Zk4 ZjD := Z1 (by rfl) _
theorem ZQ6 : XQ 100 25 Zb7 ZsY ZjN := Z1 (by rfl) _
theorem Z0he : execA E C (fg 100) B 25 E0 N ZFB s = iterA (execA E C (fg 100) B 25 E0 N Zb7) (headA E0) N s := Z0h (by rfl) s
theorem Z0hc : execA E C (fg 100) B 25 E0 N ZVZ s = blockX 0 (fun s => (forget s.1 [2, 9, 10, 11, 12], s.2)) (execA E C (fg 100) B 25 E0 N ZFB s) := Zy (by rfl) (by rfl) s
theorem Z0k8 : XQ 100 25 Zrk ZF4 ZVZ := Z1 (by rfl) _
def Zk9 := kR ZrE
def Zto := kL Zk9
def Zep := kO Zto
def ZLo := opN Zep 0
def ZOl := opN Zep 1
theorem Z09U : XG 100 25 Zto Zep [5, 24] := Z7 (by rfl) (by rfl) _
theorem ZF1 : Zep.toList = [ZLo, ZOl] := nf
theorem ZU0 : stepA E C B 25 Zep ZLo (φ, H) = some (fput φ 24 (fget φ 5), H) := nf
theorem ZPW : stepA E C B 25 Zep ZOl (φ, H) = some (fput φ 4 (fget φ 24), H) := nf
def Z08Y := kR Zk9
theorem Z08p : execA E C (fg 100) B 25 E0 N Z08Y s = some (.ret, s) := Z00 (by rfl) s
theorem Z03T : XQ 100 25 Zk9 Zto Z08Y := Z1 (by rfl) _
theorem Z0jH : XQ 100 25 ZrE Zrk Zk9 := Z1 (by rfl) _
theorem Z0j0 : XQ 100 25 ZpE ZUW ZrE := Z1 (by rfl) _
theorem Z0iZ : XQ 100 25 Zh6 ZR1 ZpE := Z1 (by rfl) _
theorem Z0F5 : fInfo E 100 = some ⟨25, #[.tmp 4], Zh6⟩ := nf
theorem Z0ry (args : List AV) : bodyA E C fg N 100 args H B = bodyX E [.tmp 4] (execA E C (fg 100) B 25 H N Zh6 (Zm args 0 [], H)) := ZV Z0F5 args H
def Zh7 := kBody Proofs.Tryd.f105
def ZI7 := kL Zh7
def ZcO := kO ZI7
def ZP8 := opN ZcO 0
def ZEB := opN ZcO 1
theorem Zrr : XG 105 62 ZI7 ZcO [0, 4] := Z7 (by rfl) (by rfl) _
theorem Zfr : ZcO.toList = [ZP8, ZEB] := nf
theorem ZfN : stepA E C B 62 ZcO ZP8 (φ, H) = stp (some 2) φ H (opBox (B + 2) (acells (fget φ 0))) := nf
theorem Zfn : stepA E C B 62 ZcO ZEB (φ, H) = some (fput φ 4 (.int .i64 0), H) := nf
def Zrx := kR Zh7
def Zqo := kL Zrx
def ZE7 := kL Zqo
def Z26 := kO ZE7
def ZKk := opN Z26 0
def ZOa := opN Z26 1
def ZIi := opN Z26 2
def ZPO := opN Z26 3
def ZTg := opN Z26 4
def ZNp := opN Z26 5
theorem ZrG : XG 105 62 ZE7 Z26 [10, 11, 12, 13, 14] := Z7 (by rfl) (by rfl) _
theorem ZfX : Z26.toList = [ZKk, ZOa, ZIi, ZPO, ZTg, ZNp] := nf
theorem Zgo : stepA E C B 62 Z26 ZKk (φ, H) = some (fput φ 10 (fget φ 1), H) := nf
theorem Zf6 : stepA E C B 62 Z26 ZOa (φ, H) = stp (some 11) φ H (Zf E.T (B + 11) .len #[36] [(fget φ 10)]) := nf
theorem Zgx : stepA E C B 62 Z26 ZIi (φ, H) = stp (some 12) φ H (just (Zb E.T 109 (fget φ 2) 0)) := nf
theorem ZfM : stepA E C B 62 Z26 ZPO (φ, H) = stp (some 13) φ H (just (aLoad E.T 106 (fget φ 12))) := nf
theorem ZeP : stepA E C B 62 Z26 ZTg (φ, H) = stp (some 14) φ H (Zf E.T (B + 14) .len #[106] [(fget φ 13)]) := nf
theorem Zgs : stepA E C B 62 Z26 ZNp (φ, H) = stp (some 15) φ H (just (aBin E.T .neq 3 (fget φ 11) (fget φ 14))) := nf
def ZrF := kR Zqo
def Zqy := kT ZrF
def ZPq := kL Zqy
def Zos := kO ZPq
def ZJ9 := opN Zos 0
theorem Zp7 : XG 105 62 ZPq Zos [1, 2, 15] := Z7 (by rfl) (by rfl) _
theorem Zgb : Zos.toList = [ZJ9] := nf
theorem ZfT : stepA E C B 62 Zos ZJ9 (φ, H) = some (fput φ 4 (.int .i64 5), H) := nf
def Z0kf := kR Zqy
theorem Zpv : execA E C (fg 105) B 62 E0 N Z0kf s = some (.ret, s) := Z00 (by rfl) s
theorem Zrz : XQ 105 62 Zqy ZPq Z0kf := Z1 (by rfl) _
def Z0l9 := kE ZrF
theorem ZpV : execA E C (fg 105) B 62 E0 N Z0l9 s = some (.normal, s) := ZQ (by rfl) s
theorem ZpO : XC 105 62 ZrF 15 Zqy Z0l9 := ZF (by rfl) _
theorem ZoZ : XQ 105 62 Zqo ZE7 ZrF := Z1 (by rfl) _
def Zl1 := kR Zrx
def Zwh := kL Zl1
def Z9O := kO Zwh
def ZK0 := opN Z9O 0
def ZFM := opN Z9O 1
def ZP0 := opN Z9O 2
theorem Z0aG : XG 105 62 Zwh Z9O [15, 16, 17] := Z7 (by rfl) (by rfl) _
theorem ZIs : Z9O.toList = [ZK0, ZFM, ZP0] := nf
theorem ZRq : stepA E C B 62 Z9O ZK0 (φ, H) = stp (some 16) φ H (just (aLoad E.T 109 (fget φ 2))) := nf
theorem ZW6 : stepA E C B 62 Z9O ZFM (φ, H) = stp (some 17) φ H (aCall C (fun j => B + j * 62 + 17) true 95 [(fget φ 16)]) := nf
theorem ZSR : stepA E C B 62 Z9O ZP0 (φ, H) = some (fput φ 5 (fget φ 17), H) := nf
def Zkl := kR Zl1
def Zjs := kL Zkl
def Zvv := kL Zjs
def Z9x := kO Zvv
def ZOv := opN Z9x 0
def ZFu := opN Z9x 1
def ZLT := opN Z9x 2
theorem Z05N : XG 105 62 Zvv Z9x [1] := Z7 (by rfl) (by rfl) _
theorem ZSo : Z9x.toList = [ZOv, ZFu, ZLT] := nf
theorem ZLd : stepA E C B 62 Z9x ZOv (φ, H) = some (fput φ 18 (fget φ 1), H) := nf
theorem ZHQ : stepA E C B 62 Z9x ZFu (φ, H) = stp (some 19) φ H (Zf E.T (B + 19) .len #[36] [(fget φ 18)]) := nf
theorem ZGd : stepA E C B 62 Z9x ZLT (φ, H) = some (fput φ 20 (.int .i64 0), H) := nf
def ZuF := kR Zjs
def ZvC := kB ZuF
def Z3Z := kB ZvC
def Zup := kL Z3Z
def ZpH := kO Zup
def ZNJ := opN ZpH 0
theorem Z6D : XG 105 62 Zup ZpH [] := Z7 (by rfl) (by rfl) _
theorem Z4K : ZpH.toList = [ZNJ] := nf
theorem Z4L : stepA E C B 62 ZpH ZNJ (φ, H) = stp (some 21) φ H (just (aBin E.T .lss 3 (fget φ 20) (fget φ 19))) := nf
def ZjR := kR Z3Z
def ZiJ := kL ZjR
def Z04R := kT ZiJ
theorem Z8i : execA E C (fg 105) B 62 E0 N Z04R s = some (.normal, s) := ZQ (by rfl) s
def ZYN := kE ZiJ
theorem Z7p : execA E C (fg 105) B 62 E0 N ZYN s = some (.exit 0, s) := Z0i (by rfl) s
theorem Z7E : XC 105 62 ZiJ 21 Z04R ZYN := ZF (by rfl) _
def ZiW := kR ZjR
def Zvj := kL ZiW
def ZiO := kB Zvj
def Ztt := kL ZiO
def Za2 := kO Ztt
def ZKm := opN Za2 0
def ZQ3 := opN Za2 1
def ZXy := opN Za2 2
theorem ZaT : XG 105 62 Ztt Za2 [21, 22, 23] := Z7 (by rfl) (by rfl) _
theorem Z8k : Za2.toList = [ZKm, ZQ3, ZXy] := nf
theorem Z88 : stepA E C B 62 Za2 ZKm (φ, H) = stp (some 22) φ H (just (Z6 E.T 36 (fget φ 18) (fget φ 20))) := nf
theorem Z7G : stepA E C B 62 Za2 ZQ3 (φ, H) = stp (some 23) φ H (just (aLoad E.T 3 (fget φ 22))) := nf
theorem Z87 : stepA E C B 62 Za2 ZXy (φ, H) = some (fput φ 7 (fget φ 23), H) := nf
def ZkW := kR ZiO
def ZuT := kL ZkW
def Zl8 := kB ZuT
def Zt9 := kL Zl8
def Z0T := kO Zt9
def ZKX := opN Z0T 0
def ZHv := opN Z0T 1
def Z4M := opN Z0T 2
def ZJb := opN Z0T 3
def ZTU := opN Z0T 4
def ZPS := opN Z0T 5
def ZQy := opN Z0T 6
def ZSc := opN Z0T 7
def ZLl := opN Z0T 8
def ZDp := opN Z0T 9
theorem ZaL : XG 105 62 Zt9 Z0T [25, 26, 27, 28, 29, 30, 31, 32, 33] := Z7 (by rfl) (by rfl) _
theorem Z6X : Z0T.toList = [ZKX, ZHv, Z4M, ZJb, ZTU, ZPS, ZQy, ZSc, ZLl, ZDp] := nf
theorem Z8B : stepA E C B 62 Z0T ZKX (φ, H) = some (fput φ 25 (fget φ 7), H) := nf
theorem Z6E : stepA E C B 62 Z0T ZHv (φ, H) = stp (some 26) φ H (just (aBin E.T .lss 3 (fget φ 25) (.int .i64 0))) := nf
theorem Z8W : stepA E C B 62 Z0T Z4M (φ, H) = some (fput φ 27 (fget φ 26), H) := nf
theorem Z7P : stepA E C B 62 Z0T ZJb (φ, H) = gd φ 27 false (fun φ => some (fput φ 28 (.tup []), H)) (fun φ => some (fput φ 28 (fget φ 7), H)) := s_gd (j := 2) (oj := Z4M) rfl rfl rfl (fun _ => rfl) (fun _ => rfl)
theorem Z6F : stepA E C B 62 Z0T ZTU (φ, H) = gd φ 27 false (fun φ => some (fput φ 29 (.tup []), H)) (fun φ => stp (some 29) φ H (just (Zb E.T 109 (fget φ 2) 0))) := s_gd (j := 2) (oj := Z4M) rfl rfl rfl (fun _ => rfl) (fun _ => rfl)
theorem Z5I : stepA E C B 62 Z0T ZPS (φ, H) = gd φ 27 false (fun φ => some (fput φ 30 (.tup []), H)) (fun φ => stp (some 30) φ H (just (aLoad E.T 106 (fget φ 29)))) := s_gd (j := 2) (oj := Z4M) rfl rfl rfl (fun _ => rfl) (fun _ => rfl)
theorem Z6q : stepA E C B 62 Z0T ZQy (φ, H) = gd φ 27 false (fun φ => some (fput φ 31 (.tup []), H)) (fun φ => stp (some 31) φ H (Zf E.T (B + 31) .len #[106] [(fget φ 30)])) := s_gd (j := 2) (oj := Z4M) rfl rfl rfl (fun _ => rfl) (fun _ => rfl)
theorem Z79 : stepA E C B 62 Z0T ZSc (φ, H) = gd φ 27 false (fun φ => some (fput φ 32 (.tup []), H)) (fun φ => stp (some 32) φ H (just (aBin E.T .geq 3 (fget φ 28) (fget φ 31)))) := s_gd (j := 2) (oj := Z4M) rfl rfl rfl (fun _ => rfl) (fun _ => rfl)
theorem Z8m : stepA E C B 62 Z0T ZLl (φ, H) = stp (some 33) φ H (opPick (fget φ 27) (.bool true) (fget φ 32)) := nf
theorem Z6p : stepA E C B 62 Z0T ZDp (φ, H) = some (fput φ 24 (fget φ 33), H) := nf
def ZjX := kR Zl8
def Zjo := kT ZjX
def Zvk := kL Zjo
def Zrn := kO Zvk
def ZQs := opN Zrn 0
theorem Zb3 : XG 105 62 Zvk Zrn [2, 5, 7, 18, 19, 20, 24] := Z7 (by rfl) (by rfl) _
theorem Z8h : Zrn.toList = [ZQs] := nf
theorem Z7M : stepA E C B 62 Zrn ZQs (φ, H) = some (fput φ 4 (.int .i64 2), H) := nf
def Z04M := kR Zjo
theorem Zat : execA E C (fg 105) B 62 E0 N Z04M s = some (.ret, s) := Z00 (by rfl) s
theorem ZaO : XQ 105 62 Zjo Zvk Z04M := Z1 (by rfl) _
def Zly := kE ZjX
def ZuR := kL Zly
def Z29 := kO ZuR
def ZDh := opN Z29 0
def ZRF := opN Z29 1
def ZP4 := opN Z29 2
def ZUV := opN Z29 3
def ZML := opN Z29 4
def ZG9 := opN Z29 5
theorem Zax : XG 105 62 ZuR Z29 [24, 35, 36, 37, 38, 39] := Z7 (by rfl) (by rfl) _
theorem Z6Y : Z29.toList = [ZDh, ZRF, ZP4, ZUV, ZML, ZG9] := nf
theorem Z8V : stepA E C B 62 Z29 ZDh (φ, H) = some (fput φ 35 (fget φ 5), H) := nf
theorem Z5G : stepA E C B 62 Z29 ZRF (φ, H) = some (fput φ 36 (fget φ 7), H) := nf
theorem Z7K : stepA E C B 62 Z29 ZP4 (φ, H) = stp (some 37) φ H (just (aBin E.T .shr 121 (fget φ 35) (fget φ 36))) := nf
theorem Zf4 : stepA E C B 62 Z29 ZUV (φ, H) = stp (some 38) φ H (just (aBin E.T .and 121 (fget φ 37) (.int .u64 1))) := nf
theorem Zfe : stepA E C B 62 Z29 ZML (φ, H) = stp (some 39) φ H (just (aBin E.T .eql 121 (fget φ 38) (.int .u64 0))) := nf
theorem ZeB : stepA E C B 62 Z29 ZG9 (φ, H) = some (fput φ 34 (fget φ 39), H) := nf
def Zld := kR Zly
def ZiB := kT Zld
def Zwj := kL ZiB
def Zj2 := kO Zwj
def Zy9 := opN Zj2 0
theorem Zjb : XG 105 62 Zwj Zj2 [2, 5, 7, 18, 19, 20, 34] := Z7 (by rfl) (by rfl) _
theorem Zci : Zj2.toList = [Zy9] := nf
theorem Zcr : stepA E C B 62 Zj2 Zy9 (φ, H) = some (fput φ 4 (.int .i64 6), H) := nf
def Z0aS := kR ZiB
theorem Zja : execA E C (fg 105) B 62 E0 N Z0aS s = some (.ret, s) := Z00 (by rfl) s
theorem ZkC : XQ 105 62 ZiB Zwj Z0aS := Z1 (by rfl) _
def Z09s := kE Zld
theorem Zik : execA E C (fg 105) B 62 E0 N Z09s s = some (.normal, s) := ZQ (by rfl) s
theorem Zko : XC 105 62 Zld 34 ZiB Z09s := ZF (by rfl) _
theorem ZaM : XQ 105 62 Zly ZuR Zld := Z1 (by rfl) _
theorem ZaQ : XC 105 62 ZjX 24 Zjo Zly := ZF (by rfl) _
theorem ZaC : XQ 105 62 Zl8 Zt9 ZjX := Z1 (by rfl) _
theorem Zb5 : execA E C (fg 105) B 62 E0 N ZuT s = blockX 2 (fun s => (forget s.1 [34], s.2)) (execA E C (fg 105) B 62 E0 N Zl8 s) := Zy (by rfl) (by rfl) s
def ZkZ := kR ZkW
def ZsR := kL ZkZ
def Z1S := kO ZsR
def ZwZ := opN Z1S 0
def Zyv := opN Z1S 1
def ZzY := opN Z1S 2
def Zzg := opN Z1S 3
def ZyZ := opN Z1S 4
theorem Zt6 : XG 105 62 ZsR Z1S [40, 41, 42, 43] := Z7 (by rfl) (by rfl) _
theorem Zh2 : Z1S.toList = [ZwZ, Zyv, ZzY, Zzg, ZyZ] := nf
theorem Zh0 : stepA E C B 62 Z1S ZwZ (φ, H) = some (fput φ 40 (fget φ 5), H) := nf
theorem ZhQ : stepA E C B 62 Z1S Zyv (φ, H) = some (fput φ 41 (fget φ 7), H) := nf
theorem ZgD : stepA E C B 62 Z1S ZzY (φ, H) = stp (some 42) φ H (just (aBin E.T .shl 121 (.int .u64 1) (fget φ 41))) := nf
theorem ZgJ : stepA E C B 62 Z1S Zzg (φ, H) = stp (some 43) φ H (just (aBin E.T .andNot 121 (fget φ 40) (fget φ 42))) := nf
theorem ZhL : stepA E C B 62 Z1S ZyZ (φ, H) = some (fput φ 5 (fget φ 43), H) := nf
def Zie := kR ZkZ
def ZvO := kL Zie
def Z3f := kO ZvO
def Zx5 := opN Z3f 0
def ZwQ := opN Z3f 1
def ZxY := opN Z3f 2
def Zyh := opN Z3f 3
theorem ZwN : XG 105 62 ZvO Z3f [44] := Z7 (by rfl) (by rfl) _
theorem Zho : Z3f.toList = [Zx5, ZwQ, ZxY, Zyh] := nf
theorem ZgK : stepA E C B 62 Z3f Zx5 (φ, H) = some (fput φ 44 (fget φ 5), H) := nf
theorem ZgV : stepA E C B 62 Z3f ZwQ (φ, H) = stp (some 45) φ H (aCall C (fun j => B + j * 62 + 45) true 97 [(fget φ 44)]) := nf
theorem ZhK : stepA E C B 62 Z3f ZxY (φ, H) = stp (some 46) φ H (Zf E.T (B + 46) .len #[36] [(fget φ 45)]) := nf
theorem ZhT : stepA E C B 62 Z3f Zyh (φ, H) = some (fput φ 47 (.int .i64 0), H) := nf
def Zuu := kR Zie
def Zt3 := kB Zuu
def Z49 := kB Zt3
def Zws := kL Z49
def ZkL := kO Zws
def Zy6 := opN ZkL 0
theorem ZkP : XG 105 62 Zws ZkL [] := Z7 (by rfl) (by rfl) _
theorem Zce : ZkL.toList = [Zy6] := nf
theorem Zcz : stepA E C B 62 ZkL Zy6 (φ, H) = stp (some 48) φ H (just (aBin E.T .lss 3 (fget φ 47) (fget φ 46))) := nf
def ZiM := kR Z49
def ZjF := kL ZiM
def Z01f := kT ZjF
theorem ZjP : execA E C (fg 105) B 62 E0 N Z01f s = some (.normal, s) := ZQ (by rfl) s
def Z0aw := kE ZjF
theorem Zkk : execA E C (fg 105) B 62 E0 N Z0aw s = some (.exit 3, s) := Z0i (by rfl) s
theorem Zjq : XC 105 62 ZjF 48 Z01f Z0aw := ZF (by rfl) _
def ZjO := kR ZiM
def Zuk := kL ZjO
def Zjv := kB Zuk
def Ztl := kL Zjv
def Z4X := kO Ztl
def Zx3 := opN Z4X 0
def Zx2 := opN Z4X 1
def ZwY := opN Z4X 2
theorem Z078 : XG 105 62 Ztl Z4X [48, 49, 50] := Z7 (by rfl) (by rfl) _
theorem Zx6 : Z4X.toList = [Zx3, Zx2, ZwY] := nf
theorem Zzn : stepA E C B 62 Z4X Zx3 (φ, H) = stp (some 49) φ H (just (Z6 E.T 36 (fget φ 45) (fget φ 47))) := nf
theorem ZyH : stepA E C B 62 Z4X Zx2 (φ, H) = stp (some 50) φ H (just (aLoad E.T 3 (fget φ 49))) := nf
theorem Zzl : stepA E C B 62 Z4X ZwY (φ, H) = some (fput φ 9 (fget φ 50), H) := nf
def Zlj := kR Zjv
def Zuz := kL Zlj
def Z0M := kO Zuz
def Zy7 := opN Z0M 0
def ZxK := opN Z0M 1
def ZzI := opN Z0M 2
def ZzH := opN Z0M 3
def ZxT := opN Z0M 4
def Zys := opN Z0M 5
def ZyO := opN Z0M 6
def ZwX := opN Z0M 7
def Zyi := opN Z0M 8
theorem ZZ7 : XG 105 62 Zuz Z0M [9, 51, 52, 53, 54, 55, 56, 57, 58] := Z7 (by rfl) (by rfl) _
theorem ZAa : Z0M.toList = [Zy7, ZxK, ZzI, ZzH, ZxT, Zys, ZyO, ZwX, Zyi] := nf
theorem Zxm : stepA E C B 62 Z0M Zy7 (φ, H) = stp (some 51) φ H (just (Zb E.T 109 (fget φ 2) 1)) := nf
theorem Zyt : stepA E C B 62 Z0M ZxK (φ, H) = stp (some 52) φ H (just (aLoad E.T 107 (fget φ 51))) := nf
theorem Zx1 : stepA E C B 62 Z0M ZzI (φ, H) = some (fput φ 53 (fget φ 9), H) := nf
theorem Zyo : stepA E C B 62 Z0M ZzH (φ, H) = stp (some 54) φ H (just (Z6 E.T 107 (fget φ 52) (fget φ 53))) := nf
theorem Zx9 : stepA E C B 62 Z0M ZxT (φ, H) = stp (some 55) φ H (just (aLoad E.T 121 (fget φ 54))) := nf
theorem Zxg : stepA E C B 62 Z0M Zys (φ, H) = some (fput φ 56 (fget φ 7), H) := nf
theorem ZA1 : stepA E C B 62 Z0M ZyO (φ, H) = stp (some 57) φ H (just (aBin E.T .shr 121 (fget φ 55) (fget φ 56))) := nf
theorem Zz1 : stepA E C B 62 Z0M ZwX (φ, H) = stp (some 58) φ H (just (aBin E.T .and 121 (fget φ 57) (.int .u64 1))) := nf
theorem Zzb : stepA E C B 62 Z0M Zyi (φ, H) = stp (some 59) φ H (just (aBin E.T .eql 121 (fget φ 58) (.int .u64 1))) := nf
def ZjL := kR Zlj
def Zjr := kT ZjL
def Zvs := kL Zjr
def ZiP := kO Zvs
def Zyq := opN ZiP 0
theorem Z040 : XG 105 62 Zvs ZiP [2, 5, 7, 18, 19, 20, 45, 46, 47, 59] := Z7 (by rfl) (by rfl) _
theorem Zy0 : ZiP.toList = [Zyq] := nf
theorem ZzZ : stepA E C B 62 ZiP Zyq (φ, H) = some (fput φ 4 (.int .i64 21), H) := nf
def Z06U := kR Zjr
theorem Z007 : execA E C (fg 105) B 62 E0 N Z06U s = some (.ret, s) := Z00 (by rfl) s
theorem Z06e : XQ 105 62 Zjr Zvs Z06U := Z1 (by rfl) _
def Z02w := kE ZjL
theorem Z0c2 : execA E C (fg 105) B 62 E0 N Z02w s = some (.normal, s) := ZQ (by rfl) s
theorem Z0bm : XC 105 62 ZjL 59 Zjr Z02w := ZF (by rfl) _
theorem ZZg : XQ 105 62 Zlj Zuz ZjL := Z1 (by rfl) _
theorem Z0aj : XQ 105 62 Zjv Ztl Zlj := Z1 (by rfl) _
theorem Z04Z : execA E C (fg 105) B 62 E0 N Zuk s = blockX 4 (fun s => (forget s.1 [59], s.2)) (execA E C (fg 105) B 62 E0 N Zjv s) := Zy (by rfl) (by rfl) s
def ZsQ := kR ZjO
def Zb4 := kO ZsQ
def ZyB := opN Zb4 0
def Zx7 := opN Zb4 1
theorem Z0vs : XG 105 62 ZsQ Zb4 [60] := Z7 (by rfl) (by rfl) _
theorem Z0gR : Zb4.toList = [ZyB, Zx7] := nf
theorem Z0hA : stepA E C B 62 Zb4 ZyB (φ, H) = stp (some 60) φ H (just (aBin E.T .add 3 (fget φ 47) (.int .i64 1))) := nf
theorem Z0jc : stepA E C B 62 Zb4 Zx7 (φ, H) = some (fput φ 47 (fget φ 60), H) := nf
theorem ZY5 : XQ 105 62 ZjO Zuk ZsQ := Z1 (by rfl) _
theorem Zjz : XQ 105 62 ZiM ZjF ZjO := Z1 (by rfl) _
theorem Zks : XQ 105 62 Z49 Zws ZiM := Z1 (by rfl) _
theorem ZtS : execA E C (fg 105) B 62 E0 N Zt3 s = iterA (execA E C (fg 105) B 62 E0 N Z49) (headA E0) N s := Z0h (by rfl) s
theorem Zu8 : execA E C (fg 105) B 62 E0 N Zuu s = blockX 3 (fun s => (forget s.1 [7, 45, 46, 47, 48], s.2)) (execA E C (fg 105) B 62 E0 N Zt3 s) := Zy (by rfl) (by rfl) s
theorem ZtH : XQ 105 62 Zie ZvO Zuu := Z1 (by rfl) _
theorem ZuK : XQ 105 62 ZkZ ZsR Zie := Z1 (by rfl) _
theorem ZaW : XQ 105 62 ZkW ZuT ZkZ := Z1 (by rfl) _
theorem Zas : XQ 105 62 ZiO Ztt ZkW := Z1 (by rfl) _
theorem ZaZ : execA E C (fg 105) B 62 E0 N Zvj s = blockX 1 (fun s => (forget s.1 [], s.2)) (execA E C (fg 105) B 62 E0 N ZiO s) := Zy (by rfl) (by rfl) s
def Zua := kR ZiW
def ZaE := kO Zua
def Zxc := opN ZaE 0
def Zze := opN ZaE 1
theorem Z01s : XG 105 62 Zua ZaE [61] := Z7 (by rfl) (by rfl) _
theorem ZxV : ZaE.toList = [Zxc, Zze] := nf
theorem ZxM : stepA E C B 62 ZaE Zxc (φ, H) = stp (some 61) φ H (just (aBin E.T .add 3 (fget φ 20) (.int .i64 1))) := nf
theorem ZzF : stepA E C B 62 ZaE Zze (φ, H) = some (fput φ 20 (fget φ 61), H) := nf
theorem Zaz : XQ 105 62 ZiW Zvj Zua := Z1 (by rfl) _
theorem Z5T : XQ 105 62 ZjR ZiJ ZiW := Z1 (by rfl) _
theorem Z8w : XQ 105 62 Z3Z Zup ZjR := Z1 (by rfl) _
theorem ZXO : execA E C (fg 105) B 62 E0 N ZvC s = iterA (execA E C (fg 105) B 62 E0 N Z3Z) (headA E0) N s := Z0h (by rfl) s
theorem Z06K : execA E C (fg 105) B 62 E0 N ZuF s = blockX 0 (fun s => (forget s.1 [2, 5, 18, 19, 20, 21], s.2)) (execA E C (fg 105) B 62 E0 N ZvC s) := Zy (by rfl) (by rfl) s
theorem Z04H : XQ 105 62 Zjs Zvv ZuF := Z1 (by rfl) _
def Zjl := kR Zkl
def Zwo := kL Zjl
def ZjM := kO Zwo
def ZzL := opN ZjM 0
theorem Z0yW : XG 105 62 Zwo ZjM [] := Z7 (by rfl) (by rfl) _
theorem Z0if : ZjM.toList = [ZzL] := nf
theorem Z0kx : stepA E C B 62 ZjM ZzL (φ, H) = some (fput φ 4 (.int .i64 0), H) := nf
def Z04Y := kR Zjl
theorem Z0yI : execA E C (fg 105) B 62 E0 N Z04Y s = some (.ret, s) := Z00 (by rfl) s
theorem Z0sk : XQ 105 62 Zjl Zwo Z04Y := Z1 (by rfl) _
theorem Z03c : XQ 105 62 Zkl Zjs Zjl := Z1 (by rfl) _
theorem Z02y : XQ 105 62 Zl1 Zwh Zkl := Z1 (by rfl) _
theorem Zo4 : XQ 105 62 Zrx Zqo Zl1 := Z1 (by rfl) _
theorem Zoa : XQ 105 62 Zh7 ZI7 Zrx := Z1 (by rfl) _
theorem Z0BR : fInfo E 105 = some ⟨62, #[.tmp 4], Zh7⟩ := nf
theorem ZBE (args : List AV) : bodyA E C fg N 105 args H B = bodyX E [.tmp 4] (execA E C (fg 105) B 62 H N Zh7 (Zm args 0 [], H)) := ZV Z0BR args H
def Zh8 := kBody Proofs.Tryd.f140
def ZSh := kL Zh8
def Zo1 := kO ZSh
def ZFm := opN Zo1 0
theorem Z0fF : XG 140 42 ZSh Zo1 [4] := Z7 (by rfl) (by rfl) _
theorem ZGk : Zo1.toList = [ZFm] := nf
theorem ZQu : stepA E C B 42 Zo1 ZFm (φ, H) = some (fput φ 4 (.nilsl), H) := nf
def ZoL := kR Zh8
def ZRE := kL ZoL
def Z4d := kO ZRE
def ZLZ := opN Z4d 0
def ZOG := opN Z4d 1
def ZL2 := opN Z4d 2
def ZOe := opN Z4d 3
theorem Z0fO : XG 140 42 ZRE Z4d [8, 9, 10] := Z7 (by rfl) (by rfl) _
theorem ZNg : Z4d.toList = [ZLZ, ZOG, ZL2, ZOe] := nf
theorem ZXs : stepA E C B 42 Z4d ZLZ (φ, H) = some (fput φ 8 (fget φ 0), H) := nf
theorem ZG0 : stepA E C B 42 Z4d ZOG (φ, H) = some (fput φ 9 (fget φ 1), H) := nf
theorem ZE4 : stepA E C B 42 Z4d ZL2 (φ, H) = stp (some 10) φ H (aCall C (fun j => B + j * 42 + 10) true 54 [(fget φ 8), (fget φ 9)]) := nf
theorem ZUY : stepA E C B 42 Z4d ZOe (φ, H) = some (fput φ 5 (fget φ 10), H) := nf
def ZoA := kR ZoL
def Zqu := kL ZoA
def ZOJ := kL Zqu
def ZcK := kO ZOJ
def ZCE := opN ZcK 0
def ZFS := opN ZcK 1
theorem Z0kk : XG 140 42 ZOJ ZcK [11] := Z7 (by rfl) (by rfl) _
theorem ZMC : ZcK.toList = [ZCE, ZFS] := nf
theorem ZRe : stepA E C B 42 ZcK ZCE (φ, H) = some (fput φ 11 (fget φ 5), H) := nf
theorem ZXb : stepA E C B 42 ZcK ZFS (φ, H) = stp (some 12) φ H (just (aBin E.T .eql 3 (fget φ 11) (.int .i64 (-1)))) := nf
def ZqV := kR Zqu
def ZnD := kT ZqV
def ZIw := kL ZnD
def Ze1 := kO ZIw
def ZHD := opN Ze1 0
def ZTP := opN Ze1 1
theorem Z0jO : XG 140 42 ZIw Ze1 [0, 1, 5, 12, 13] := Z7 (by rfl) (by rfl) _
theorem ZPg : Ze1.toList = [ZHD, ZTP] := nf
theorem ZLs : stepA E C B 42 Ze1 ZHD (φ, H) = some (fput φ 13 (fget φ 0), H) := nf
theorem ZV1 : stepA E C B 42 Ze1 ZTP (φ, H) = some (fput φ 4 (fget φ 13), H) := nf
def Z06z := kR ZnD
theorem Z01T : execA E C (fg 140) B 42 E0 N Z06z s = some (.ret, s) := Z00 (by rfl) s
theorem Z0kh : XQ 140 42 ZnD ZIw Z06z := Z1 (by rfl) _
def Z05z := kE ZqV
theorem Z00t : execA E C (fg 140) B 42 E0 N Z05z s = some (.normal, s) := ZQ (by rfl) s
theorem Z0k2 : XC 140 42 ZqV 12 ZnD Z05z := ZF (by rfl) _
theorem Z0hW : XQ 140 42 Zqu ZOJ ZqV := Z1 (by rfl) _
def Zj7 := kR ZoA
def ZkN := kL Zj7
def ZuB := kL ZkN
def Z9T := kO ZuB
def ZTd := opN Z9T 0
def ZIU := opN Z9T 1
def ZEp := opN Z9T 2
theorem Z0t2 : XG 140 42 ZuB Z9T [12, 14, 15] := Z7 (by rfl) (by rfl) _
theorem Z0n4 : Z9T.toList = [ZTd, ZIU, ZEp] := nf
theorem Z0mC : stepA E C B 42 Z9T ZTd (φ, H) = some (fput φ 14 (fget φ 5), H) := nf
theorem Z0nB : stepA E C B 42 Z9T ZIU (φ, H) = stp (some 15) φ H (just (aBin E.T .add 3 (fget φ 14) (.int .i64 1))) := nf
theorem Z0m4 : stepA E C B 42 Z9T ZEp (φ, H) = some (fput φ 6 (fget φ 15), H) := nf
def Ztx := kR ZkN
def Ztn := kB Ztx
def ZaH := kB Ztn
def ZkM := kL ZaH
def ZwA := kL ZkM
def Z4k := kO ZwA
def ZKw := opN Z4k 0
def ZHu := opN Z4k 1
def ZTb := opN Z4k 2
def ZP2 := opN Z4k 3
theorem Zt4 : XG 140 42 ZwA Z4k [16, 17, 18] := Z7 (by rfl) (by rfl) _
theorem Zm0 : Z4k.toList = [ZKw, ZHu, ZTb, ZP2] := nf
theorem Zm7 : stepA E C B 42 Z4k ZKw (φ, H) = some (fput φ 16 (fget φ 6), H) := nf
theorem ZlT : stepA E C B 42 Z4k ZHu (φ, H) = some (fput φ 17 (fget φ 0), H) := nf
theorem ZlU : stepA E C B 42 Z4k ZTb (φ, H) = stp (some 18) φ H (Zf E.T (B + 18) .len #[36] [(fget φ 17)]) := nf
theorem Zmp : stepA E C B 42 Z4k ZP2 (φ, H) = stp (some 19) φ H (just (aBin E.T .lss 3 (fget φ 16) (fget φ 18))) := nf
def Zk7 := kR ZkM
def Z001 := kT Zk7
theorem ZuJ : execA E C (fg 140) B 42 E0 N Z001 s = some (.normal, s) := ZQ (by rfl) s
def Z09y := kE Zk7
theorem Zu6 : execA E C (fg 140) B 42 E0 N Z09y s = some (.exit 0, s) := Z0i (by rfl) s
theorem Zwp : XC 140 42 Zk7 19 Z001 Z09y := ZF (by rfl) _
theorem Zux : XQ 140 42 ZkM ZwA Zk7 := Z1 (by rfl) _
def ZjT := kR ZaH
def Zvl := kL ZjT
def Zlw := kB Zvl
def Zv0 := kL Zlw
def Z2W := kO Zv0
def ZNb := opN Z2W 0
def ZVK := opN Z2W 1
def ZWN := opN Z2W 2
def ZMM := opN Z2W 3
def ZFF := opN Z2W 4
theorem Z02q : XG 140 42 Zv0 Z2W [19, 22, 23, 24, 25] := Z7 (by rfl) (by rfl) _
theorem ZUO : Z2W.toList = [ZNb, ZVK, ZWN, ZMM, ZFF] := nf
theorem ZJN : stepA E C B 42 Z2W ZNb (φ, H) = some (fput φ 22 (fget φ 0), H) := nf
theorem ZI1 : stepA E C B 42 Z2W ZVK (φ, H) = some (fput φ 23 (fget φ 6), H) := nf
theorem ZTZ : stepA E C B 42 Z2W ZWN (φ, H) = stp (some 24) φ H (just (Z6 E.T 36 (fget φ 22) (fget φ 23))) := nf
theorem ZN0 : stepA E C B 42 Z2W ZMM (φ, H) = stp (some 25) φ H (just (aLoad E.T 3 (fget φ 24))) := nf
theorem ZH5 : stepA E C B 42 Z2W ZFF (φ, H) = some (fput φ 7 (fget φ 25), H) := nf
def ZjH := kR Zlw
def ZwL := kL ZjH
def Z4o := kO ZwL
def ZLD := opN Z4o 0
def ZGH := opN Z4o 1
def ZQw := opN Z4o 2
def ZIJ := opN Z4o 3
theorem Z045 : XG 140 42 ZwL Z4o [26, 27, 28] := Z7 (by rfl) (by rfl) _
theorem ZHz : Z4o.toList = [ZLD, ZGH, ZQw, ZIJ] := nf
theorem ZTR : stepA E C B 42 Z4o ZLD (φ, H) = some (fput φ 26 (fget φ 1), H) := nf
theorem ZCN : stepA E C B 42 Z4o ZGH (φ, H) = some (fput φ 27 (fget φ 7), H) := nf
theorem ZVw : stepA E C B 42 Z4o ZQw (φ, H) = callV E C (B + 42 * 8) (some 28) (fun j => B + j * 42 + 28) φ H (fget φ 26) [(fget φ 27)] true := nf
theorem ZET : stepA E C B 42 Z4o ZIJ (φ, H) = stp (some 29) φ H (justO (aUn .not (fget φ 28))) := nf
def Zis := kR ZjH
def ZjJ := kT Zis
def Ztm := kL ZjJ
def Z30 := kO Ztm
def ZFZ := opN Z30 0
def ZH0 := opN Z30 1
def ZKU := opN Z30 2
def ZDO := opN Z30 3
def ZMg := opN Z30 4
theorem Z023 : XG 140 42 Ztm Z30 [7, 29, 30, 31, 32, 33] := Z7 (by rfl) (by rfl) _
theorem ZLv : Z30.toList = [ZFZ, ZH0, ZKU, ZDO, ZMg] := nf
theorem ZJA : stepA E C B 42 Z30 ZFZ (φ, H) = some (fput φ 30 (fget φ 0), H) := nf
theorem ZVq : stepA E C B 42 Z30 ZH0 (φ, H) = some (fput φ 31 (fget φ 5), H) := nf
theorem ZCv : stepA E C B 42 Z30 ZKU (φ, H) = some (fput φ 32 (fget φ 7), H) := nf
theorem ZPI : stepA E C B 42 Z30 ZDO (φ, H) = stp (some 33) φ H (just (Z6 E.T 36 (fget φ 30) (fget φ 31))) := nf
theorem ZTc : stepA E C B 42 Z30 ZMg (φ, H) = stp none φ H (opStore E.T 3 (fget φ 33) (fget φ 32)) := nf
def ZvS := kR ZjJ
def Z4V := kO ZvS
def Zzy := opN Z4V 0
def ZyT := opN Z4V 1
def Zxz := opN Z4V 2
theorem ZY1 : XG 140 42 ZvS Z4V [34, 35] := Z7 (by rfl) (by rfl) _
theorem ZxJ : Z4V.toList = [Zzy, ZyT, Zxz] := nf
theorem ZxB : stepA E C B 42 Z4V Zzy (φ, H) = some (fput φ 34 (fget φ 5), H) := nf
theorem ZAi : stepA E C B 42 Z4V ZyT (φ, H) = stp (some 35) φ H (just (aBin E.T .add 3 (fget φ 34) (.int .i64 1))) := nf
theorem Zyk : stepA E C B 42 Z4V Zxz (φ, H) = some (fput φ 5 (fget φ 35), H) := nf
theorem Z03t : XQ 140 42 ZjJ Ztm ZvS := Z1 (by rfl) _
def Z0cD := kE Zis
theorem ZZy : execA E C (fg 140) B 42 E0 N Z0cD s = some (.normal, s) := ZQ (by rfl) s
theorem Z06y : XC 140 42 Zis 29 ZjJ Z0cD := ZF (by rfl) _
theorem Z0af : XQ 140 42 ZjH ZwL Zis := Z1 (by rfl) _
theorem Z01e : XQ 140 42 Zlw Zv0 ZjH := Z1 (by rfl) _
theorem Z0a6 : execA E C (fg 140) B 42 E0 N Zvl s = blockX 1 (fun s => (forget s.1 [7, 29], s.2)) (execA E C (fg 140) B 42 E0 N Zlw s) := Zy (by rfl) (by rfl) s
def ZtR := kR ZjT
def Zaf := kO ZtR
def ZN1 := opN Zaf 0
def ZGX := opN Zaf 1
def ZI5 := opN Zaf 2
theorem Z024 : XG 140 42 ZtR Zaf [20, 21] := Z7 (by rfl) (by rfl) _
theorem ZFC : Zaf.toList = [ZN1, ZGX, ZI5] := nf
theorem ZH2 : stepA E C B 42 Zaf ZN1 (φ, H) = some (fput φ 20 (fget φ 6), H) := nf
theorem ZFo : stepA E C B 42 Zaf ZGX (φ, H) = stp (some 21) φ H (just (aBin E.T .add 3 (fget φ 20) (.int .i64 1))) := nf
theorem ZXo : stepA E C B 42 Zaf ZI5 (φ, H) = some (fput φ 6 (fget φ 21), H) := nf
theorem Z00D : XQ 140 42 ZjT Zvl ZtR := Z1 (by rfl) _
theorem ZuY : XQ 140 42 ZaH ZkM ZjT := Z1 (by rfl) _
theorem Z0yp : execA E C (fg 140) B 42 E0 N Ztn s = iterA (execA E C (fg 140) B 42 E0 N ZaH) (headA E0) N s := Z0h (by rfl) s
theorem Z0z9 : execA E C (fg 140) B 42 E0 N Ztx s = blockX 0 (fun s => (forget s.1 [1, 6, 19], s.2)) (execA E C (fg 140) B 42 E0 N Ztn s) := Zy (by rfl) (by rfl) s
theorem Z0ud : XQ 140 42 ZkN ZuB Ztx := Z1 (by rfl) _
def Zj1 := kR Zj7
def ZvK := kL Zj1
def Z3c := kO ZvK
def Zyl := opN Z3c 0
def ZxD := opN Z3c 1
def Zyg := opN Z3c 2
def Zyc := opN Z3c 3
theorem Z0ul : XG 140 42 ZvK Z3c [36, 37, 38] := Z7 (by rfl) (by rfl) _
theorem Z0jR : Z3c.toList = [Zyl, ZxD, Zyg, Zyc] := nf
theorem Z0jk : stepA E C B 42 Z3c Zyl (φ, H) = some (fput φ 36 (fget φ 0), H) := nf
theorem Z0im : stepA E C B 42 Z3c ZxD (φ, H) = some (fput φ 37 (fget φ 5), H) := nf
theorem Z0fP : stepA E C B 42 Z3c Zyg (φ, H) = stp (some 38) φ H (just (aSlice E.T 36 (fget φ 36) (some (fget φ 37)) none none)) := nf
theorem Z0iX : stepA E C B 42 Z3c Zyc (φ, H) = stp none φ H (Zf E.T (B + 0) .clear #[36] [(fget φ 38)]) := nf
def Zlx := kR Zj1
def ZvU := kL Zlx
def Z3e := kO ZvU
def Zz8 := opN Z3e 0
def Zza := opN Z3e 1
def ZyQ := opN Z3e 2
def ZzC := opN Z3e 3
theorem Z0y5 : XG 140 42 ZvU Z3e [0, 5, 39, 40, 41] := Z7 (by rfl) (by rfl) _
theorem Z0gw : Z3e.toList = [Zz8, Zza, ZyQ, ZzC] := nf
theorem Z0gT : stepA E C B 42 Z3e Zz8 (φ, H) = some (fput φ 39 (fget φ 0), H) := nf
theorem Z0fB : stepA E C B 42 Z3e Zza (φ, H) = some (fput φ 40 (fget φ 5), H) := nf
theorem Z0fv : stepA E C B 42 Z3e ZyQ (φ, H) = stp (some 41) φ H (just (aSlice E.T 36 (fget φ 39) none (some (fget φ 40)) none)) := nf
theorem Z0hz : stepA E C B 42 Z3e ZzC (φ, H) = some (fput φ 4 (fget φ 41), H) := nf
def Z00x := kR Zlx
theorem Z0zL : execA E C (fg 140) B 42 E0 N Z00x s = some (.ret, s) := Z00 (by rfl) s
theorem Z0zp : XQ 140 42 Zlx ZvU Z00x := Z1 (by rfl) _
theorem Z0AM : XQ 140 42 Zj1 ZvK Zlx := Z1 (by rfl) _
theorem Z0uT : XQ 140 42 Zj7 ZkN Zj1 := Z1 (by rfl) _
theorem Z0hp : XQ 140 42 ZoA Zqu Zj7 := Z1 (by rfl) _
theorem Z0ik : XQ 140 42 ZoL ZRE ZoA := Z1 (by rfl) _
theorem Z0fr : XQ 140 42 Zh8 ZSh ZoL := Z1 (by rfl) _
theorem Z0CK : fInfo E 140 = some ⟨42, #[.tmp 4], Zh8⟩ := nf
theorem Z0rC (args : List AV) : bodyA E C fg N 140 args H B = bodyX E [.tmp 4] (execA E C (fg 140) B 42 H N Zh8 (Zm args 0 [], H)) := ZV Z0CK args H
def ZpN := kBody Proofs.Tryd.f54
def Z0ej := kL ZpN
def ZAU := kO Z0ej
def ZZ8 := opN ZAU 0
theorem Z0cZ : XG 54 19 Z0ej ZAU [4] := Z7 (by rfl) (by rfl) _
theorem Zvp : ZAU.toList = [ZZ8] := nf
theorem Zu1 : stepA E C B 19 ZAU ZZ8 (φ, H) = some (fput φ 4 (.int .i64 0), H) := nf
def ZBJ := kR ZpN
def ZB9 := kL ZBJ
def Z0ds := kL ZB9
def ZcC := kO Z0ds
def Z03v := opN ZcC 0
def Z06v := opN ZcC 1
def Z07F := opN ZcC 2
theorem Z0ev : XG 54 19 Z0ds ZcC [6] := Z7 (by rfl) (by rfl) _
theorem Zuc : ZcC.toList = [Z03v, Z06v, Z07F] := nf
theorem Zw4 : stepA E C B 19 ZcC Z03v (φ, H) = some (fput φ 6 (fget φ 0), H) := nf
theorem ZsL : stepA E C B 19 ZcC Z06v (φ, H) = stp (some 7) φ H (Zf E.T (B + 7) .len #[36] [(fget φ 6)]) := nf
theorem Zt1 : stepA E C B 19 ZcC Z07F (φ, H) = some (fput φ 8 (.int .i64 0), H) := nf
def Z0cF := kR ZB9
def Z0ei := kB Z0cF
def Zkz := kB Z0ei
def Z0dj := kL Zkz
def ZAN := kO Z0dj
def Z09p := opN ZAN 0
theorem ZAT : XG 54 19 Z0dj ZAN [] := Z7 (by rfl) (by rfl) _
theorem Zj3 : ZAN.toList = [Z09p] := nf
theorem Zjk : stepA E C B 19 ZAN Z09p (φ, H) = stp (some 9) φ H (just (aBin E.T .lss 3 (fget φ 8) (fget φ 7))) := nf
def ZBs := kR Zkz
def Zqa := kL ZBs
def Z0fx := kT Zqa
theorem ZqR : execA E C (fg 54) B 19 E0 N Z0fx s = some (.normal, s) := ZQ (by rfl) s
def Z0hm := kE Zqa
theorem ZrY : execA E C (fg 54) B 19 E0 N Z0hm s = some (.exit 0, s) := Z0i (by rfl) s
theorem Znn : XC 54 19 Zqa 9 Z0fx Z0hm := ZF (by rfl) _
def Zo6 := kR ZBs
def ZRJ := kL Zo6
def ZoI := kB ZRJ
def ZKv := kL ZoI
def Zl0 := kO ZKv
def ZYu := opN Zl0 0
def ZYt := opN Zl0 1
theorem Z0gA : XG 54 19 ZKv Zl0 [9, 10] := Z7 (by rfl) (by rfl) _
theorem Z07r : Zl0.toList = [ZYu, ZYt] := nf
theorem Z0az : stepA E C B 19 Zl0 ZYu (φ, H) = some (fput φ 10 (fget φ 8), H) := nf
theorem Z04i : stepA E C B 19 Zl0 ZYt (φ, H) = some (fput φ 5 (fget φ 10), H) := nf
def Zsr := kR ZoI
def ZJe := kL Zsr
def Z3j := kO ZJe
def Z07D := opN Z3j 0
def Z0bq := opN Z3j 1
def Z04r := opN Z3j 2
def Z01U := opN Z3j 3
def Z03p := opN Z3j 4
def Z08t := opN Z3j 5
theorem Z0jZ : XG 54 19 ZJe Z3j [11, 12, 13, 14, 15] := Z7 (by rfl) (by rfl) _
theorem ZZE : Z3j.toList = [Z07D, Z0bq, Z04r, Z01U, Z03p, Z08t] := nf
theorem Z0cp : stepA E C B 19 Z3j Z07D (φ, H) = some (fput φ 11 (fget φ 1), H) := nf
theorem Z02t : stepA E C B 19 Z3j Z0bq (φ, H) = some (fput φ 12 (fget φ 0), H) := nf
theorem Z018 : stepA E C B 19 Z3j Z04r (φ, H) = some (fput φ 13 (fget φ 5), H) := nf
theorem ZYp : stepA E C B 19 Z3j Z01U (φ, H) = stp (some 14) φ H (just (Z6 E.T 36 (fget φ 12) (fget φ 13))) := nf
theorem ZYT : stepA E C B 19 Z3j Z03p (φ, H) = stp (some 15) φ H (just (aLoad E.T 3 (fget φ 14))) := nf
theorem ZZ9 : stepA E C B 19 Z3j Z08t (φ, H) = callV E C (B + 19 * 8) (some 16) (fun j => B + j * 19 + 16) φ H (fget φ 11) [(fget φ 15)] true := nf
def Zqd := kR Zsr
def ZnG := kT Zqd
def ZHo := kL ZnG
def Zll := kO ZHo
def Z009 := opN Zll 0
def Z08f := opN Zll 1
theorem Z0hH : XG 54 19 ZHo Zll [0, 1, 5, 7, 8, 16, 17] := Z7 (by rfl) (by rfl) _
theorem Z06t : Zll.toList = [Z009, Z08f] := nf
theorem Z069 : stepA E C B 19 Zll Z009 (φ, H) = some (fput φ 17 (fget φ 5), H) := nf
theorem Z08V : stepA E C B 19 Zll Z08f (φ, H) = some (fput φ 4 (fget φ 17), H) := nf
def Z0i6 := kR ZnG
theorem Z0fK : execA E C (fg 54) B 19 E0 N Z0i6 s = some (.ret, s) := Z00 (by rfl) s
theorem Z0gZ : XQ 54 19 ZnG ZHo Z0i6 := Z1 (by rfl) _
def Z0kC := kE Zqd
theorem Z0jS : execA E C (fg 54) B 19 E0 N Z0kC s = some (.normal, s) := ZQ (by rfl) s
theorem Z0kE : XC 54 19 Zqd 16 ZnG Z0kC := ZF (by rfl) _
theorem Z0gW : XQ 54 19 Zsr ZJe Zqd := Z1 (by rfl) _
theorem Z0iK : XQ 54 19 ZoI ZKv Zsr := Z1 (by rfl) _
theorem Z0jA : execA E C (fg 54) B 19 E0 N ZRJ s = blockX 1 (fun s => (forget s.1 [5, 16], s.2)) (execA E C (fg 54) B 19 E0 N ZoI s) := Zy (by rfl) (by rfl) s
def ZKr := kR Zo6
def ZkO := kO ZKr
def Z06p := opN ZkO 0
def Z02X := opN ZkO 1
theorem Z0Dd : XG 54 19 ZKr ZkO [18] := Z7 (by rfl) (by rfl) _
theorem Z0y9 : ZkO.toList = [Z06p, Z02X] := nf
theorem Z0z1 : stepA E C B 19 ZkO Z06p (φ, H) = stp (some 18) φ H (just (aBin E.T .add 3 (fget φ 8) (.int .i64 1))) := nf
theorem Z0vt : stepA E C B 19 ZkO Z02X (φ, H) = some (fput φ 8 (fget φ 18), H) := nf
theorem Z0fG : XQ 54 19 Zo6 ZRJ ZKr := Z1 (by rfl) _
theorem ZBr : XQ 54 19 ZBs Zqa Zo6 := Z1 (by rfl) _
theorem ZBA : XQ 54 19 Zkz Z0dj ZBs := Z1 (by rfl) _
theorem Z0dD : execA E C (fg 54) B 19 E0 N Z0ei s = iterA (execA E C (fg 54) B 19 E0 N Zkz) (headA E0) N s := Z0h (by rfl) s
theorem Z0dR : execA E C (fg 54) B 19 E0 N Z0cF s = blockX 0 (fun s => (forget s.1 [0, 1, 7, 8, 9], s.2)) (execA E C (fg 54) B 19 E0 N Z0ei s) := Zy (by rfl) (by rfl) s
theorem Z0dp : XQ 54 19 ZB9 Z0ds Z0cF := Z1 (by rfl) _
def ZrS := kR ZBJ
def ZNv := kL ZrS
def ZBk := kO ZNv
def ZY4 := opN ZBk 0
theorem Z0hx : XG 54 19 ZNv ZBk [] := Z7 (by rfl) (by rfl) _
theorem Z02g : ZBk.toList = [ZY4] := nf
theorem Z0by : stepA E C B 19 ZBk ZY4 (φ, H) = some (fput φ 4 (.int .i64 (-1)), H) := nf
def Z0fQ := kR ZrS
theorem Z0hF : execA E C (fg 54) B 19 E0 N Z0fQ s = some (.ret, s) := Z00 (by rfl) s
theorem Z0la : XQ 54 19 ZrS ZNv Z0fQ := Z1 (by rfl) _
theorem Z0e7 : XQ 54 19 ZBJ ZB9 ZrS := Z1 (by rfl) _
theorem Z0dg : XQ 54 19 ZpN Z0ej ZBJ := Z1 (by rfl) _
theorem Z0Ga : fInfo E 54 = some ⟨19, #[.tmp 4], ZpN⟩ := nf
theorem b_54 (args : List AV) : bodyA E C fg N 54 args H B = bodyX E [.tmp 4] (execA E C (fg 54) B 19 H N ZpN (Zm args 0 [], H)) := ZV Z0Ga args H
def ZrR := kBody Proofs.Tryd.f56
def Z0dq := kL ZrR
def ZAX := kO Z0dq
def Z02E := opN ZAX 0
theorem Z0Hd : XG 56 9 Z0dq ZAX [4] := Z7 (by rfl) (by rfl) _
theorem Z0u8 : ZAX.toList = [Z02E] := nf
theorem Z0tv : stepA E C B 9 ZAX Z02E (φ, H) = some (fput φ 4 (.bool false), H) := nf
def ZBb := kR ZrR
def Z0dn := kL ZBb
def Z4A := kO Z0dn
def Z07o := opN Z4A 0
def Z046 := opN Z4A 1
def Z08d := opN Z4A 2
def Z07R := opN Z4A 3
def Z04o := opN Z4A 4
theorem Z0GH : XG 56 9 Z0dn Z4A [0, 1, 5, 6, 7, 8] := Z7 (by rfl) (by rfl) _
theorem Z0u1 : Z4A.toList = [Z07o, Z046, Z08d, Z07R, Z04o] := nf
theorem Z0vu : stepA E C B 9 Z4A Z07o (φ, H) = some (fput φ 5 (fget φ 0), H) := nf
theorem Z0A2 : stepA E C B 9 Z4A Z046 (φ, H) = some (fput φ 6 (fget φ 1), H) := nf
theorem Z0sJ : stepA E C B 9 Z4A Z08d (φ, H) = stp (some 7) φ H (aCall C (fun j => B + j * 9 + 7) true 54 [(fget φ 5), (fget φ 6)]) := nf
theorem Z0vV : stepA E C B 9 Z4A Z07R (φ, H) = stp (some 8) φ H (just (aBin E.T .geq 3 (fget φ 7) (.int .i64 0))) := nf
theorem Z0AI : stepA E C B 9 Z4A Z04o (φ, H) = some (fput φ 4 (fget φ 8), H) := nf
def Z0rG := kR ZBb
theorem Z0Fh : execA E C (fg 56) B 9 E0 N Z0rG s = some (.ret, s) := Z00 (by rfl) s
theorem Z0Ha : XQ 56 9 ZBb Z0dn Z0rG := Z1 (by rfl) _
theorem Z0HJ : XQ 56 9 ZrR Z0dq ZBb := Z1 (by rfl) _
theorem Z0Fn : fInfo E 56 = some ⟨9, #[.tmp 4], ZrR⟩ := nf
theorem b_56 (args : List AV) : bodyA E C fg N 56 args H B = bodyX E [.tmp 4] (execA E C (fg 56) B 9 H N ZrR (Zm args 0 [], H)) := ZV Z0Fn args H
def ZrC := kBody Proofs.Tryd.f79
def Z0dL := kL ZrC
def Zlh := kO Z0dL
def Z05o := opN Zlh 0
def Z00N := opN Zlh 1
theorem Z0Fq : XG 79 9 Z0dL Zlh [1, 4] := Z7 (by rfl) (by rfl) _
theorem Z0yH : Zlh.toList = [Z05o, Z00N] := nf
theorem Z0vN : stepA E C B 9 Zlh Z05o (φ, H) = stp (some 3) φ H (opBox (B + 3) (acells (fget φ 1))) := nf
theorem Z0B3 : stepA E C B 9 Zlh Z00N (φ, H) = some (fput φ 4 (.bool false), H) := nf
def ZC2 := kR ZrC
def Z0ee := kL ZC2
def Z4w := kO Z0ee
def Z08y := opN Z4w 0
def Z03z := opN Z4w 1
def Z05c := opN Z4w 2
def Z06I := opN Z4w 3
def Z05l := opN Z4w 4
theorem Z0Hp : XG 79 9 Z0ee Z4w [0, 3, 5, 6, 7, 8] := Z7 (by rfl) (by rfl) _
theorem Z0vv : Z4w.toList = [Z08y, Z03z, Z05c, Z06I, Z05l] := nf
theorem Z0yl : stepA E C B 9 Z4w Z08y (φ, H) = some (fput φ 5 (fget φ 0), H) := nf
theorem Z0zV : stepA E C B 9 Z4w Z03z (φ, H) = stp (some 6) φ H (just (aLoad E.T 64 (fget φ 3))) := nf
theorem Z0yq : stepA E C B 9 Z4w Z05c (φ, H) = stp (some 7) φ H (aCall C (fun j => B + j * 9 + 7) true 123 [(fget φ 5), (fget φ 6)]) := nf
theorem Z0xN : stepA E C B 9 Z4w Z06I (φ, H) = stp (some 8) φ H (just (aBin E.T .geq 3 (fget φ 7) (.int .i64 0))) := nf
theorem Z0yu : stepA E C B 9 Z4w Z05l (φ, H) = some (fput φ 4 (fget φ 8), H) := nf
def Z0rP := kR ZC2
theorem Z0HZ : execA E C (fg 79) B 9 E0 N Z0rP s = some (.ret, s) := Z00 (by rfl) s
theorem Z0HD : XQ 79 9 ZC2 Z0ee Z0rP := Z1 (by rfl) _
theorem Z0G7 : XQ 79 9 ZrC Z0dL ZC2 := Z1 (by rfl) _
theorem Z0Hy : fInfo E 79 = some ⟨9, #[.tmp 4], ZrC⟩ := nf
theorem b_79 (args : List AV) : bodyA E C fg N 79 args H B = bodyX E [.tmp 4] (execA E C (fg 79) B 9 H N ZrC (Zm args 0 [], H)) := ZV Z0Hy args H
def Zh3 := kBody Proofs.Tryd.f123
def ZJE := kL Zh3
def Zdj := kO ZJE
def ZKD := opN Zdj 0
def ZT7 := opN Zdj 1
theorem Z0l6 : XG 123 19 ZJE Zdj [1, 4] := Z7 (by rfl) (by rfl) _
theorem ZOb : Zdj.toList = [ZKD, ZT7] := nf
theorem ZMi : stepA E C B 19 Zdj ZKD (φ, H) = stp (some 3) φ H (opBox (B + 3) (acells (fget φ 1))) := nf
theorem ZWn : stepA E C B 19 Zdj ZT7 (φ, H) = some (fput φ 4 (.int .i64 0), H) := nf
def Zso := kR Zh3
def Zpf := kL Zso
def ZTT := kL Zpf
def Z9Q := kO ZTT
def ZWm := opN Z9Q 0
def ZRA := opN Z9Q 1
def ZKa := opN Z9Q 2
theorem Z0j4 : XG 123 19 ZTT Z9Q [6] := Z7 (by rfl) (by rfl) _
theorem ZSq : Z9Q.toList = [ZWm, ZRA, ZKa] := nf
theorem ZTm : stepA E C B 19 Z9Q ZWm (φ, H) = some (fput φ 6 (fget φ 0), H) := nf
theorem ZNX : stepA E C B 19 Z9Q ZRA (φ, H) = stp (some 7) φ H (Zf E.T (B + 7) .len #[23] [(fget φ 6)]) := nf
theorem ZGs : stepA E C B 19 Z9Q ZKa (φ, H) = some (fput φ 8 (.int .i64 0), H) := nf
def ZGn := kR Zpf
def ZHf := kB ZGn
def Zby := kB ZHf
def ZTK := kL Zby
def Zqv := kO ZTK
def ZLC := opN Zqv 0
theorem ZE9 : XG 123 19 ZTK Zqv [] := Z7 (by rfl) (by rfl) _
theorem Zmy : Zqv.toList = [ZLC] := nf
theorem ZlO : stepA E C B 19 Zqv ZLC (φ, H) = stp (some 9) φ H (just (aBin E.T .lss 3 (fget φ 8) (fget φ 7))) := nf
def Zs5 := kR Zby
def ZiZ := kL Zs5
def ZY8 := kT ZiZ
theorem ZvJ : execA E C (fg 123) B 19 E0 N ZY8 s = some (.normal, s) := ZQ (by rfl) s
def Z05n := kE ZiZ
theorem Zwz : execA E C (fg 123) B 19 E0 N Z05n s = some (.exit 0, s) := Z0i (by rfl) s
theorem Zwt : XC 123 19 ZiZ 9 ZY8 Z05n := ZF (by rfl) _
def ZjB := kR Zs5
def ZuI := kL ZjB
def Zlg := kB ZuI
def Zvu := kL Zlg
def Zeb := kO Zvu
def ZUI := opN Zeb 0
def ZR4 := opN Zeb 1
theorem Z00M : XG 123 19 Zvu Zeb [9, 10] := Z7 (by rfl) (by rfl) _
theorem ZKW : Zeb.toList = [ZUI, ZR4] := nf
theorem ZG6 : stepA E C B 19 Zeb ZUI (φ, H) = some (fput φ 10 (fget φ 8), H) := nf
theorem ZGC : stepA E C B 19 Zeb ZR4 (φ, H) = some (fput φ 5 (fget φ 10), H) := nf
def Zjw := kR Zlg
def Zvh := kL Zjw
def Z16 := kO Zvh
def ZSN := opN Z16 0
def ZFA := opN Z16 1
def ZQf := opN Z16 2
def ZDD := opN Z16 3
def ZLL := opN Z16 4
def ZEL := opN Z16 5
theorem Z0co : XD 123 19 Zvh Z16 [11, 12, 13, 14, 15] := Z0L (by rfl) (by rfl) _
theorem ZCF : Z16.toList = [ZSN, ZFA, ZQf, ZDD, ZLL, ZEL] := nf
theorem Z0gV : statOk Z16 = true := by kernel_rfl
theorem Zzh : drawA E C B 19 Z16 s = if neat 19 s = true then drX Z16 (runT E C B 19 Z16 Z16.toList 0 s) else none := Z0w Z0gV s
theorem ZxR (l : List (Nat × Tr)) : dynOk Z16 l = (!writing l || Zu [[], [], [], [1, 2], [1, 2, 3], [0, 1, 2, 3, 4]] (Zr l)) := Z0g (by kernel_rfl) l
theorem ZKZ : stepT E C B 19 Z16 ZSN (φ, H) = stpT (some 11) φ H (just (aLoad E.T 64 (fget φ 3))) := Z8 rfl (Zg rfl rfl)
theorem ZOZ : stepT E C B 19 Z16 ZFA (φ, H) = some ((fput φ 12 (fget φ 0), H), ⟨false, [], []⟩) := Z8 rfl (Zt rfl rfl)
theorem ZGl : stepT E C B 19 Z16 ZQf (φ, H) = some ((fput φ 13 (fget φ 5), H), ⟨false, [], []⟩) := Z8 rfl (Zt rfl rfl)
theorem ZO1 : stepT E C B 19 Z16 ZDD (φ, H) = stpT (some 14) φ H (just (Z6 E.T 23 (fget φ 12) (fget φ 13))) := Z8 rfl (Zg rfl rfl)
theorem ZFq : stepT E C B 19 Z16 ZLL (φ, H) = stpT (some 15) φ H (just (aLoad E.T 64 (fget φ 14))) := Z8 rfl (Zg rfl rfl)
theorem ZE0 : stepT E C B 19 Z16 ZEL (φ, H) = stpT (some 16) φ H (just (aBin E.T .eql 64 (fget φ 11) (fget φ 15))) := Z8 rfl (Zg rfl rfl)
def Zih := kR Zjw
def Zjx := kT Zih
def Zvc := kL Zjx
def ZdA := kO Zvc
def ZDE := opN ZdA 0
def ZWg := opN ZdA 1
theorem ZYD : XG 123 19 Zvc ZdA [0, 3, 5, 7, 8, 16, 17] := Z7 (by rfl) (by rfl) _
theorem ZMV : ZdA.toList = [ZDE, ZWg] := nf
theorem ZR3 : stepA E C B 19 ZdA ZDE (φ, H) = some (fput φ 17 (fget φ 5), H) := nf
theorem ZJ2 : stepA E C B 19 ZdA ZWg (φ, H) = some (fput φ 4 (fget φ 17), H) := nf
def ZYv := kR Zjx
theorem Z02z : execA E C (fg 123) B 19 E0 N ZYv s = some (.ret, s) := Z00 (by rfl) s
theorem Z05L : XQ 123 19 Zjx Zvc ZYv := Z1 (by rfl) _
def Z066 := kE Zih
theorem ZZC : execA E C (fg 123) B 19 E0 N Z066 s = some (.normal, s) := ZQ (by rfl) s
theorem Z0aP : XC 123 19 Zih 16 Zjx Z066 := ZF (by rfl) _
theorem ZZY : XQ 123 19 Zjw Zvh Zih := Z1 (by rfl) _
theorem Z0aO : XQ 123 19 Zlg Zvu Zjw := Z1 (by rfl) _
theorem Z0cE : execA E C (fg 123) B 19 E0 N ZuI s = blockX 1 (fun s => (forget s.1 [5, 16], s.2)) (execA E C (fg 123) B 19 E0 N Zlg s) := Zy (by rfl) (by rfl) s
def Zw7 := kR ZjB
def ZdY := kO Zw7
def ZHS := opN ZdY 0
def ZPJ := opN ZdY 1
theorem Z0w6 : XG 123 19 Zw7 ZdY [18] := Z7 (by rfl) (by rfl) _
theorem Z0qi : ZdY.toList = [ZHS, ZPJ] := nf
theorem Z0m8 : stepA E C B 19 ZdY ZHS (φ, H) = stp (some 18) φ H (just (aBin E.T .add 3 (fget φ 8) (.int .i64 1))) := nf
theorem Z0ln : stepA E C B 19 ZdY ZPJ (φ, H) = some (fput φ 8 (fget φ 18), H) := nf
theorem Z031 : XQ 123 19 ZjB ZuI Zw7 := Z1 (by rfl) _
theorem ZFw : XQ 123 19 Zs5 ZiZ ZjB := Z1 (by rfl) _
theorem ZUX : XQ 123 19 Zby ZTK Zs5 := Z1 (by rfl) _
theorem Z0fU : execA E C (fg 123) B 19 E0 N ZHf s = iterA (execA E C (fg 123) B 19 E0 N Zby) (headA E0) N s := Z0h (by rfl) s
theorem Z0jb : execA E C (fg 123) B 19 E0 N ZGn s = blockX 0 (fun s => (forget s.1 [0, 3, 7, 8, 9], s.2)) (execA E C (fg 123) B 19 E0 N ZHf s) := Zy (by rfl) (by rfl) s
theorem Z0i7 : XQ 123 19 Zpf ZTT ZGn := Z1 (by rfl) _
def Zk5 := kR Zso
def Zv2 := kL Zk5
def ZoR := kO Zv2
def ZVg := opN ZoR 0
theorem Z0A9 : XG 123 19 Zv2 ZoR [] := Z7 (by rfl) (by rfl) _
theorem Z0nm : ZoR.toList = [ZVg] := nf
theorem Z0rg : stepA E C B 19 ZoR ZVg (φ, H) = some (fput φ 4 (.int .i64 (-1)), H) := nf
def Z08J := kR Zk5
theorem Z0wx : execA E C (fg 123) B 19 E0 N Z08J s = some (.ret, s) := Z00 (by rfl) s
theorem Z0wD : XQ 123 19 Zk5 Zv2 Z08J := Z1 (by rfl) _
theorem Z0hX : XQ 123 19 Zso Zpf Zk5 := Z1 (by rfl) _
theorem Z0kJ : XQ 123 19 Zh3 ZJE Zso := Z1 (by rfl) _
theorem Z0Ev : fInfo E 123 = some ⟨19, #[.tmp 4], Zh3⟩ := nf
theorem Z0s5 (args : List AV) : bodyA E C fg N 123 args H B = bodyX E [.tmp 4] (execA E C (fg 123) B 19 H N Zh3 (Zm args 0 [], H)) := ZV Z0Ev args H
def Zhw := kBody Proofs.Tryd.f130
def ZRO := kL Zhw
def Zo3 := kO ZRO
def ZL3 := opN Zo3 0
theorem Z0DU : XG 130 33 ZRO Zo3 [4] := Z7 (by rfl) (by rfl) _
theorem Z0m1 : Zo3.toList = [ZL3] := nf
theorem Z0p1 : stepA E C B 33 Zo3 ZL3 (φ, H) = some (fput φ 4 (.int .i64 0), H) := nf
def Zol := kR Zhw
def Zo9 := kL Zol
def ZWB := kL Zo9
def Z9u := kO ZWB
def ZNU := opN Z9u 0
def ZPc := opN Z9u 1
def ZJM := opN Z9u 2
theorem Z0D4 : XG 130 33 ZWB Z9u [7, 8] := Z7 (by rfl) (by rfl) _
theorem Z0oV : Z9u.toList = [ZNU, ZPc, ZJM] := nf
theorem Z0nr : stepA E C B 33 Z9u ZNU (φ, H) = some (fput φ 7 (fget φ 0), H) := nf
theorem Z0ol : stepA E C B 33 Z9u ZPc (φ, H) = stp (some 8) φ H (Zf E.T (B + 8) .len #[36] [(fget φ 7)]) := nf
theorem Z0qu : stepA E C B 33 Z9u ZJM (φ, H) = stp (some 9) φ H (just (aBin E.T .lss 3 (fget φ 8) (.int .i64 1))) := nf
def ZoM := kR Zo9
def Z0CU := kT ZoM
def Z0ff := kE ZoM
theorem Z0DM : execA E C (fg 130) B 33 E0 N Z0ff s = some (.normal, s) := ZQ (by rfl) s
theorem Z0EI : XC 130 33 ZoM 9 Z0CU Z0ff := ZF (by rfl) _
theorem Z0Ek : XQ 130 33 Zo9 ZWB ZoM := Z1 (by rfl) _
def Zr9 := kR Zol
def ZHy := kL Zr9
def Z4s := kO ZHy
def ZPm := opN Z4s 0
def ZMk := opN Z4s 1
def ZSs := opN Z4s 2
def ZTf := opN Z4s 3
theorem Z0D3 : XG 130 33 ZHy Z4s [9, 11, 12, 13] := Z7 (by rfl) (by rfl) _
theorem Z0mR : Z4s.toList = [ZPm, ZMk, ZSs, ZTf] := nf
theorem Z0nd : stepA E C B 33 Z4s ZPm (φ, H) = some (fput φ 11 (fget φ 0), H) := nf
theorem Z0pw : stepA E C B 33 Z4s ZMk (φ, H) = stp (some 12) φ H (just (Z6 E.T 36 (fget φ 11) (.int .i64 0))) := nf
theorem Z0pd : stepA E C B 33 Z4s ZSs (φ, H) = stp (some 13) φ H (just (aLoad E.T 3 (fget φ 12))) := nf
theorem Z0pW : stepA E C B 33 Z4s ZTf (φ, H) = some (fput φ 5 (fget φ 13), H) := nf
def ZiQ := kR Zr9
def ZjC := kL ZiQ
def ZsS := kL ZjC
def Zqt := kO ZsS
def ZF8 := opN Zqt 0
theorem Z0Aw : XG 130 33 ZsS Zqt [] := Z7 (by rfl) (by rfl) _
theorem Z0ps : Zqt.toList = [ZF8] := nf
theorem Z0ns : stepA E C B 33 Zqt ZF8 (φ, H) = some (fput φ 6 (.int .i64 1), H) := nf
def Ztf := kR ZjC
def Zuw := kB Ztf
def Zdr := kB Zuw
def ZjK := kL Zdr
def Zu5 := kL ZjK
def Z4e := kO Zu5
def ZQh := opN Z4e 0
def ZOC := opN Z4e 1
def ZK9 := opN Z4e 2
def ZCT := opN Z4e 3
theorem Zvz : XG 130 33 Zu5 Z4e [14, 15, 16] := Z7 (by rfl) (by rfl) _
theorem Zmr : Z4e.toList = [ZQh, ZOC, ZK9, ZCT] := nf
theorem Zm3 : stepA E C B 33 Z4e ZQh (φ, H) = some (fput φ 14 (fget φ 6), H) := nf
theorem Zmt : stepA E C B 33 Z4e ZOC (φ, H) = some (fput φ 15 (fget φ 0), H) := nf
theorem Zmk : stepA E C B 33 Z4e ZK9 (φ, H) = stp (some 16) φ H (Zf E.T (B + 16) .len #[36] [(fget φ 15)]) := nf
theorem Zm1 : stepA E C B 33 Z4e ZCT (φ, H) = stp (some 17) φ H (just (aBin E.T .lss 3 (fget φ 14) (fget φ 16))) := nf
def Zjy := kR ZjK
def Z00a := kT Zjy
theorem ZwK : execA E C (fg 130) B 33 E0 N Z00a s = some (.normal, s) := ZQ (by rfl) s
def Z08M := kE Zjy
theorem Zvy : execA E C (fg 130) B 33 E0 N Z08M s = some (.exit 0, s) := Z0i (by rfl) s
theorem ZuX : XC 130 33 Zjy 17 Z00a Z08M := ZF (by rfl) _
theorem Zud : XQ 130 33 ZjK Zu5 Zjy := Z1 (by rfl) _
def ZiH := kR Zdr
def Zt8 := kL ZiH
def ZkT := kB Zt8
def ZuE := kL ZkT
def Z1n := kO ZuE
def ZWb := opN Z1n 0
def ZNZ := opN Z1n 1
def ZDv := opN Z1n 2
def ZI4 := opN Z1n 3
def ZCy := opN Z1n 4
def ZMv := opN Z1n 5
def ZN9 := opN Z1n 6
def ZWw := opN Z1n 7
theorem Z021 : XG 130 33 ZuE Z1n [17, 20, 21, 22, 23, 24, 25, 26] := Z7 (by rfl) (by rfl) _
theorem ZT2 : Z1n.toList = [ZWb, ZNZ, ZDv, ZI4, ZCy, ZMv, ZN9, ZWw] := nf
theorem ZSX : stepA E C B 33 Z1n ZWb (φ, H) = some (fput φ 20 (fget φ 1), H) := nf
theorem ZJo : stepA E C B 33 Z1n ZNZ (φ, H) = some (fput φ 21 (fget φ 0), H) := nf
theorem ZSO : stepA E C B 33 Z1n ZDv (φ, H) = some (fput φ 22 (fget φ 6), H) := nf
theorem ZM8 : stepA E C B 33 Z1n ZI4 (φ, H) = stp (some 23) φ H (just (Z6 E.T 36 (fget φ 21) (fget φ 22))) := nf
theorem ZEM : stepA E C B 33 Z1n ZCy (φ, H) = stp (some 24) φ H (just (aLoad E.T 3 (fget φ 23))) := nf
theorem ZIV : stepA E C B 33 Z1n ZMv (φ, H) = some (fput φ 25 (fget φ 5), H) := nf
theorem ZCj : stepA E C B 33 Z1n ZN9 (φ, H) = callV E C (B + 33 * 8) (some 26) (fun j => B + j * 33 + 26) φ H (fget φ 20) [(fget φ 24), (fget φ 25)] true := nf
theorem ZUq : stepA E C B 33 Z1n ZWw (φ, H) = stp (some 27) φ H (just (aBin E.T .lss 3 (fget φ 26) (.int .i64 0))) := nf
def Zkp := kR ZkT
def Zu7 := kT Zkp
def Z35 := kO Zu7
def ZWa := opN Z35 0
def ZG3 := opN Z35 1
def ZNC := opN Z35 2
def ZKe := opN Z35 3
def ZIW := opN Z35 4
theorem Z04D : XG 130 33 Zu7 Z35 [27, 28, 29, 30, 31] := Z7 (by rfl) (by rfl) _
theorem ZMQ : Z35.toList = [ZWa, ZG3, ZNC, ZKe, ZIW] := nf
theorem ZFE : stepA E C B 33 Z35 ZWa (φ, H) = some (fput φ 28 (fget φ 0), H) := nf
theorem ZNI : stepA E C B 33 Z35 ZG3 (φ, H) = some (fput φ 29 (fget φ 6), H) := nf
theorem ZNu : stepA E C B 33 Z35 ZNC (φ, H) = stp (some 30) φ H (just (Z6 E.T 36 (fget φ 28) (fget φ 29))) := nf
theorem ZQ8 : stepA E C B 33 Z35 ZKe (φ, H) = stp (some 31) φ H (just (aLoad E.T 3 (fget φ 30))) := nf
theorem ZGR : stepA E C B 33 Z35 ZIW (φ, H) = some (fput φ 5 (fget φ 31), H) := nf
def ZZt := kE Zkp
theorem ZYh : execA E C (fg 130) B 33 E0 N ZZt s = some (.normal, s) := ZQ (by rfl) s
theorem ZZX : XC 130 33 Zkp 27 Zu7 ZZt := ZF (by rfl) _
theorem Z0aA : XQ 130 33 ZkT ZuE Zkp := Z1 (by rfl) _
theorem Z01R : execA E C (fg 130) B 33 E0 N Zt8 s = blockX 1 (fun s => (forget s.1 [27], s.2)) (execA E C (fg 130) B 33 E0 N ZkT s) := Zy (by rfl) (by rfl) s
def ZvZ := kR ZiH
def Zab := kO ZvZ
def ZEm := opN Zab 0
def ZQc := opN Zab 1
def ZIq := opN Zab 2
theorem ZXR : XG 130 33 ZvZ Zab [18, 19] := Z7 (by rfl) (by rfl) _
theorem ZGE : Zab.toList = [ZEm, ZQc, ZIq] := nf
theorem ZXj : stepA E C B 33 Zab ZEm (φ, H) = some (fput φ 18 (fget φ 6), H) := nf
theorem ZOt : stepA E C B 33 Zab ZQc (φ, H) = stp (some 19) φ H (just (aBin E.T .add 3 (fget φ 18) (.int .i64 1))) := nf
theorem ZDk : stepA E C B 33 Zab ZIq (φ, H) = some (fput φ 6 (fget φ 19), H) := nf
theorem Z00z : XQ 130 33 ZiH Zt8 ZvZ := Z1 (by rfl) _
theorem ZwI : XQ 130 33 Zdr ZjK ZiH := Z1 (by rfl) _
theorem Z0y0 : execA E C (fg 130) B 33 E0 N Zuw s = iterA (execA E C (fg 130) B 33 E0 N Zdr) (headA E0) N s := Z0h (by rfl) s
theorem Z0B6 : execA E C (fg 130) B 33 E0 N Ztf s = blockX 0 (fun s => (forget s.1 [0, 1, 6, 17], s.2)) (execA E C (fg 130) B 33 E0 N Zuw s) := Zy (by rfl) (by rfl) s
theorem Z0vw : XQ 130 33 ZjC ZsS Ztf := Z1 (by rfl) _
def Zk2 := kR ZiQ
def Ztc := kL Zk2
def ZdQ := kO Ztc
def ZLx := opN ZdQ 0
def ZI2 := opN ZdQ 1
theorem Z0xs : XG 130 33 Ztc ZdQ [5, 32] := Z7 (by rfl) (by rfl) _
theorem Z0lf : ZdQ.toList = [ZLx, ZI2] := nf
theorem Z0mY : stepA E C B 33 ZdQ ZLx (φ, H) = some (fput φ 32 (fget φ 5), H) := nf
theorem Z0mK : stepA E C B 33 ZdQ ZI2 (φ, H) = some (fput φ 4 (fget φ 32), H) := nf
def Z015 := kR Zk2
theorem Z0AJ : execA E C (fg 130) B 33 E0 N Z015 s = some (.ret, s) := Z00 (by rfl) s
theorem Z0wK : XQ 130 33 Zk2 Ztc Z015 := Z1 (by rfl) _
theorem Z0yD : XQ 130 33 ZiQ ZjC Zk2 := Z1 (by rfl) _
theorem Z0Cm : XQ 130 33 Zr9 ZHy ZiQ := Z1 (by rfl) _
theorem Z0CM : XQ 130 33 Zol Zo9 Zr9 := Z1 (by rfl) _
theorem Z0D8 : XQ 130 33 Zhw ZRO Zol := Z1 (by rfl) _
theorem Z0CS : fInfo E 130 = some ⟨33, #[.tmp 4], Zhw⟩ := nf
theorem Z0H2 (args : List AV) : bodyA E C fg N 130 args H B = bodyX E [.tmp 4] (execA E C (fg 130) B 33 H N Zhw (Zm args 0 [], H)) := ZV Z0CS args H
def ZgG := kBody Proofs.Tryd.f129
def ZK5 := kL ZgG
def Z2V := kO ZK5
def ZUo := opN Z2V 0
def ZJm := opN Z2V 1
def ZKz := opN Z2V 2
def ZXt := opN Z2V 3
def ZHn := opN Z2V 4
theorem Z0Ed : XG 129 28 ZK5 Z2V [4, 5, 6] := Z7 (by rfl) (by rfl) _
theorem Z0qJ : Z2V.toList = [ZUo, ZJm, ZKz, ZXt, ZHn] := nf
theorem Z0lK : stepA E C B 28 Z2V ZUo (φ, H) = some (fput φ 4 (fget φ 0), H) := nf
theorem Z0pe : stepA E C B 28 Z2V ZJm (φ, H) = stp (some 5) φ H (Zf E.T (B + 5) .len #[36] [(fget φ 4)]) := nf
theorem Z0m3 : stepA E C B 28 Z2V ZKz (φ, H) = stp (some 6) φ H (just (aBin E.T .sub 3 (fget φ 5) (.int .i64 1))) := nf
theorem Z0pD : stepA E C B 28 Z2V ZXt (φ, H) = some (fput φ 2 (.int .i64 0), H) := nf
theorem Z0md : stepA E C B 28 Z2V ZHn (φ, H) = some (fput φ 3 (fget φ 6), H) := nf
def ZOp := kR ZgG
def ZMU := kB ZOp
def Zes := kB ZMU
def ZrA := kL Zes
def ZV6 := kL ZrA
def Zad := kO ZV6
def ZKo := opN Zad 0
def ZD8 := opN Zad 1
def ZCL := opN Zad 2
theorem Z0hq : XG 129 28 ZV6 Zad [7, 8] := Z7 (by rfl) (by rfl) _
theorem ZVN : Zad.toList = [ZKo, ZD8, ZCL] := nf
theorem ZK3 : stepA E C B 28 Zad ZKo (φ, H) = some (fput φ 7 (fget φ 2), H) := nf
theorem ZJG : stepA E C B 28 Zad ZD8 (φ, H) = some (fput φ 8 (fget φ 3), H) := nf
theorem ZEx : stepA E C B 28 Zad ZCL (φ, H) = stp (some 9) φ H (just (aBin E.T .lss 3 (fget φ 7) (fget φ 8))) := nf
def Zsu := kR ZrA
def Z0hN := kT Zsu
theorem Z0kM : execA E C (fg 129) B 28 E0 N Z0hN s = some (.normal, s) := ZQ (by rfl) s
def Z0kq := kE Zsu
theorem Z0h8 : execA E C (fg 129) B 28 E0 N Z0kq s = some (.exit 0, s) := Z0i (by rfl) s
theorem Z0k1 : XC 129 28 Zsu 9 Z0hN Z0kq := ZF (by rfl) _
theorem Z0iS : XQ 129 28 ZrA ZV6 Zsu := Z1 (by rfl) _
def ZiK := kR Zes
def ZuH := kL ZiK
def Zuy := kB ZuH
def Z08 := kO Zuy
def ZRP := opN Z08 0
def ZLN := opN Z08 1
def ZKR := opN Z08 2
def ZVW := opN Z08 3
def ZGP := opN Z08 4
def ZI6 := opN Z08 5
def ZVO := opN Z08 6
def ZH1 := opN Z08 7
def ZFa := opN Z08 8
def ZN8 := opN Z08 9
def ZA0 := opN Z08 10
def Zxa := opN Z08 11
def ZAf := opN Z08 12
def Zxb := opN Z08 13
def ZAn := opN Z08 14
def Zyx := opN Z08 15
theorem Z0An : XD 129 28 Zuy Z08 [9, 14, 15, 16, 17, 18, 19, 20, 21, 22, 23, 24, 25, 26, 27] := Z0L (by rfl) (by rfl) _
theorem Z0q3 : Z08.toList = [ZRP, ZLN, ZKR, ZVW, ZGP, ZI6, ZVO, ZH1, ZFa, ZN8, ZA0, Zxa, ZAf, Zxb, ZAn, Zyx] := nf
theorem Z0gM : statOk Z08 = true := by kernel_rfl
theorem Z0hV : drawA E C B 28 Z08 s = if neat 28 s = true then drX Z08 (runT E C B 28 Z08 Z08.toList 0 s) else none := Z0w Z0gM s
theorem Z0l1 (l : List (Nat × Tr)) : dynOk Z08 l = (!writing l || Zu [[], [], [], [], [], [], [4, 5], [4, 5, 6], [], [], [8, 9], [8, 9, 10], [0, 1, 4, 5, 6, 7, 8, 9, 10, 11], [0, 1, 4, 5, 6, 7, 8, 9, 10, 11, 12], [0, 1, 2, 3, 4, 5, 6, 7, 8, 9, 10, 11, 12, 13], [0, 1, 2, 3, 4, 5, 6, 7, 8, 9, 10, 11, 12, 13, 14]] (Zr l)) := Z0g (by kernel_rfl) l
theorem Z0oo : stepT E C B 28 Z08 ZRP (φ, H) = some ((fput φ 14 (fget φ 0), H), ⟨false, [], []⟩) := Z8 rfl (Zt rfl rfl)
theorem Z0lX : stepT E C B 28 Z08 ZLN (φ, H) = some ((fput φ 15 (fget φ 2), H), ⟨false, [], []⟩) := Z8 rfl (Zt rfl rfl)
theorem Z0lW : stepT E C B 28 Z08 ZKR (φ, H) = some ((fput φ 16 (fget φ 0), H), ⟨false, [], []⟩) := Z8 rfl (Zt rfl rfl)
theorem Z0pG : stepT E C B 28 Z08 ZVW (φ, H) = some ((fput φ 17 (fget φ 3), H), ⟨false, [], []⟩) := Z8 rfl (Zt rfl rfl)
theorem Z0lP : stepT E C B 28 Z08 ZGP (φ, H) = some ((fput φ 18 (fget φ 0), H), ⟨false, [], []⟩) := Z8 rfl (Zt rfl rfl)
theorem Z0qh : stepT E C B 28 Z08 ZI6 (φ, H) = some ((fput φ 19 (fget φ 3), H), ⟨false, [], []⟩) := Z8 rfl (Zt rfl rfl)
theorem Z0r8 : stepT E C B 28 Z08 ZVO (φ, H) = stpT (some 20) φ H (just (Z6 E.T 36 (fget φ 18) (fget φ 19))) := Z8 rfl (Zg rfl rfl)
theorem Z0pC : stepT E C B 28 Z08 ZH1 (φ, H) = stpT (some 21) φ H (just (aLoad E.T 3 (fget φ 20))) := Z8 rfl (Zg rfl rfl)
theorem Z0my : stepT E C B 28 Z08 ZFa (φ, H) = some ((fput φ 22 (fget φ 0), H), ⟨false, [], []⟩) := Z8 rfl (Zt rfl rfl)
theorem Z0re : stepT E C B 28 Z08 ZN8 (φ, H) = some ((fput φ 23 (fget φ 2), H), ⟨false, [], []⟩) := Z8 rfl (Zt rfl rfl)
theorem Z0jd : stepT E C B 28 Z08 ZA0 (φ, H) = stpT (some 24) φ H (just (Z6 E.T 36 (fget φ 22) (fget φ 23))) := Z8 rfl (Zg rfl rfl)
theorem Z0kD : stepT E C B 28 Z08 Zxa (φ, H) = stpT (some 25) φ H (just (aLoad E.T 3 (fget φ 24))) := Z8 rfl (Zg rfl rfl)
theorem Z0kn : stepT E C B 28 Z08 ZAf (φ, H) = stpT (some 26) φ H (just (Z6 E.T 36 (fget φ 14) (fget φ 15))) := Z8 rfl (Zg rfl rfl)
theorem Z0iW : stepT E C B 28 Z08 Zxb (φ, H) = stpT none φ H (opStore E.T 3 (fget φ 26) (fget φ 21)) := Z8 rfl (Zg rfl rfl)
theorem Z0gJ : stepT E C B 28 Z08 ZAn (φ, H) = stpT (some 27) φ H (just (Z6 E.T 36 (fget φ 16) (fget φ 17))) := Z8 rfl (Zg rfl rfl)
theorem Z0kj : stepT E C B 28 Z08 Zyx (φ, H) = stpT none φ H (opStore E.T 3 (fget φ 27) (fget φ 25)) := Z8 rfl (Zg rfl rfl)
theorem Z0AE : execA E C (fg 129) B 28 E0 N ZuH s = blockX 1 (fun s => (forget s.1 [], s.2)) (execA E C (fg 129) B 28 E0 N Zuy s) := Zy (by rfl) (by rfl) s
def Zu2 := kR ZiK
def Z23 := kO Zu2
def ZPy := opN Z23 0
def ZF3 := opN Z23 1
def ZHh := opN Z23 2
def ZES := opN Z23 3
def ZLj := opN Z23 4
def ZJK := opN Z23 5
theorem Z0xl : XG 129 28 Zu2 Z23 [10, 11, 12, 13] := Z7 (by rfl) (by rfl) _
theorem Z0lB : Z23.toList = [ZPy, ZF3, ZHh, ZES, ZLj, ZJK] := nf
theorem Z0o7 : stepA E C B 28 Z23 ZPy (φ, H) = some (fput φ 10 (fget φ 2), H) := nf
theorem Z0ld : stepA E C B 28 Z23 ZF3 (φ, H) = stp (some 11) φ H (just (aBin E.T .add 3 (fget φ 10) (.int .i64 1))) := nf
theorem Z0pf : stepA E C B 28 Z23 ZHh (φ, H) = some (fput φ 12 (fget φ 3), H) := nf
theorem Z0p2 : stepA E C B 28 Z23 ZES (φ, H) = stp (some 13) φ H (just (aBin E.T .sub 3 (fget φ 12) (.int .i64 1))) := nf
theorem Z0q2 : stepA E C B 28 Z23 ZLj (φ, H) = some (fput φ 2 (fget φ 11), H) := nf
theorem Z0na : stepA E C B 28 Z23 ZJK (φ, H) = some (fput φ 3 (fget φ 13), H) := nf
theorem Z0yV : XQ 129 28 ZiK ZuH Zu2 := Z1 (by rfl) _
theorem Z0h2 : XQ 129 28 Zes ZrA ZiK := Z1 (by rfl) _
theorem Z0DR : execA E C (fg 129) B 28 E0 N ZMU s = iterA (execA E C (fg 129) B 28 E0 N Zes) (headA E0) N s := Z0h (by rfl) s
theorem Z0BC : execA E C (fg 129) B 28 E0 N ZOp s = blockX 0 (fun s => (forget s.1 [0, 2, 3, 9], s.2)) (execA E C (fg 129) B 28 E0 N ZMU s) := Zy (by rfl) (by rfl) s
theorem Z0Bv : XQ 129 28 ZgG ZK5 ZOp := Z1 (by rfl) _
theorem Z0BO : fInfo E 129 = some ⟨28, #[], ZgG⟩ := nf
theorem Z0Hm (args : List AV) : bodyA E C fg N 129 args H B = bodyX E [] (execA E C (fg 129) B 28 H N ZgG (Zm args 0 [], H)) := ZV Z0BO args H
def ZhY := kBody Proofs.Tryd.f115
def ZEb := kL ZhY
def Zng := kO ZEb
def ZO3 := opN Zng 0
theorem Z0CI : XG 115 25 ZEb Zng [2] := Z7 (by rfl) (by rfl) _
theorem Z0n0 : Zng.toList = [ZO3] := nf
theorem Z0qj : stepA E C B 25 Zng ZO3 (φ, H) = some (fput φ 2 (.int .i64 0), H) := nf
def Znj := kR ZhY
def Zrc := kL Znj
def ZHG := kL Zrc
def Zaj := kO ZHG
def ZNt := opN Zaj 0
def ZM9 := opN Zaj 1
def ZOB := opN Zaj 2
theorem Z0Ey : XG 115 25 ZHG Zaj [5, 6] := Z7 (by rfl) (by rfl) _
theorem Z0pF : Zaj.toList = [ZNt, ZM9, ZOB] := nf
theorem Z0m2 : stepA E C B 25 Zaj ZNt (φ, H) = some (fput φ 5 (fget φ 0), H) := nf
theorem Z0qm : stepA E C B 25 Zaj ZM9 (φ, H) = stp (some 6) φ H (Zf E.T (B + 6) .len #[36] [(fget φ 5)]) := nf
theorem Z0lA : stepA E C B 25 Zaj ZOB (φ, H) = stp (some 7) φ H (just (aBin E.T .lss 3 (fget φ 6) (.int .i64 1))) := nf
def ZnN := kR Zrc
def Z0EU := kT ZnN
def Z0g1 := kE ZnN
theorem Z0Ct : execA E C (fg 115) B 25 E0 N Z0g1 s = some (.normal, s) := ZQ (by rfl) s
theorem Z0B8 : XC 115 25 ZnN 7 Z0EU Z0g1 := ZF (by rfl) _
theorem Z0CX : XQ 115 25 Zrc ZHG ZnN := Z1 (by rfl) _
def Zna := kR Znj
def ZCu := kL Zna
def Z4h := kO ZCu
def ZJt := opN Z4h 0
def ZP6 := opN Z4h 1
def ZNM := opN Z4h 2
def ZJ0 := opN Z4h 3
theorem Z0BT : XG 115 25 ZCu Z4h [7, 9, 10, 11] := Z7 (by rfl) (by rfl) _
theorem Z0nC : Z4h.toList = [ZJt, ZP6, ZNM, ZJ0] := nf
theorem Z0of : stepA E C B 25 Z4h ZJt (φ, H) = some (fput φ 9 (fget φ 0), H) := nf
theorem Z0ml : stepA E C B 25 Z4h ZP6 (φ, H) = stp (some 10) φ H (just (Z6 E.T 36 (fget φ 9) (.int .i64 0))) := nf
theorem Z0q9 : stepA E C B 25 Z4h ZNM (φ, H) = stp (some 11) φ H (just (aLoad E.T 3 (fget φ 10))) := nf
theorem Z0qU : stepA E C B 25 Z4h ZJ0 (φ, H) = some (fput φ 3 (fget φ 11), H) := nf
def ZiE := kR Zna
def Zl4 := kL ZiE
def ZuD := kL Zl4
def Zqn := kO ZuD
def ZXn := opN Zqn 0
theorem Z0uQ : XG 115 25 ZuD Zqn [] := Z7 (by rfl) (by rfl) _
theorem Z0mO : Zqn.toList = [ZXn] := nf
theorem Z0lT : stepA E C B 25 Zqn ZXn (φ, H) = some (fput φ 4 (.int .i64 1), H) := nf
def Zuf := kR Zl4
def Ztp := kB Zuf
def Zee := kB Ztp
def ZiS := kL Zee
def Zv1 := kL ZiS
def Z4n := kO Zv1
def ZPu := opN Z4n 0
def ZLt := opN Z4n 1
def ZJ6 := opN Z4n 2
def ZQT := opN Z4n 3
theorem Z04m : XG 115 25 Zv1 Z4n [12, 13, 14] := Z7 (by rfl) (by rfl) _
theorem ZKG : Z4n.toList = [ZPu, ZLt, ZJ6, ZQT] := nf
theorem ZE3 : stepA E C B 25 Z4n ZPu (φ, H) = some (fput φ 12 (fget φ 4), H) := nf
theorem ZKY : stepA E C B 25 Z4n ZLt (φ, H) = some (fput φ 13 (fget φ 0), H) := nf
theorem ZNF : stepA E C B 25 Z4n ZJ6 (φ, H) = stp (some 14) φ H (Zf E.T (B + 14) .len #[36] [(fget φ 13)]) := nf
theorem ZKq : stepA E C B 25 Z4n ZQT (φ, H) = stp (some 15) φ H (just (aBin E.T .lss 3 (fget φ 12) (fget φ 14))) := nf
def ZiA := kR ZiS
def Z0ah := kT ZiA
theorem Z086 : execA E C (fg 115) B 25 E0 N Z0ah s = some (.normal, s) := ZQ (by rfl) s
def Z07U := kE ZiA
theorem Z01b : execA E C (fg 115) B 25 E0 N Z07U s = some (.exit 0, s) := Z0i (by rfl) s
theorem Z01x : XC 115 25 ZiA 15 Z0ah Z07U := ZF (by rfl) _
theorem Z08i : XQ 115 25 ZiS Zv1 ZiA := Z1 (by rfl) _
def Zkv := kR Zee
def Ztb := kL Zkv
def Zvo := kB Ztb
def Z1E := kO Zvo
def ZWq := opN Z1E 0
def ZHB := opN Z1E 1
def ZWS := opN Z1E 2
def ZJY := opN Z1E 3
def ZX5 := opN Z1E 4
def ZPP := opN Z1E 5
def ZPM := opN Z1E 6
theorem Z0st : XG 115 25 Zvo Z1E [15, 18, 19, 20, 21, 22, 23] := Z7 (by rfl) (by rfl) _
theorem Z0o2 : Z1E.toList = [ZWq, ZHB, ZWS, ZJY, ZX5, ZPP, ZPM] := nf
theorem Z0mw : stepA E C B 25 Z1E ZWq (φ, H) = some (fput φ 18 (fget φ 3), H) := nf
theorem Z0m0 : stepA E C B 25 Z1E ZHB (φ, H) = some (fput φ 19 (fget φ 0), H) := nf
theorem Z0pk : stepA E C B 25 Z1E ZWS (φ, H) = some (fput φ 20 (fget φ 4), H) := nf
theorem Z0pK : stepA E C B 25 Z1E ZJY (φ, H) = stp (some 21) φ H (just (Z6 E.T 36 (fget φ 19) (fget φ 20))) := nf
theorem Z0p7 : stepA E C B 25 Z1E ZX5 (φ, H) = stp (some 22) φ H (just (aLoad E.T 3 (fget φ 21))) := nf
theorem Z0ql : stepA E C B 25 Z1E ZPP (φ, H) = stp (some 23) φ H (Zf E.T (B + 23) .max #[3, 3] [(fget φ 18), (fget φ 22)]) := nf
theorem Z0mm : stepA E C B 25 Z1E ZPM (φ, H) = some (fput φ 3 (fget φ 23), H) := nf
theorem Z0zx : execA E C (fg 115) B 25 E0 N Ztb s = blockX 1 (fun s => (forget s.1 [], s.2)) (execA E C (fg 115) B 25 E0 N Zvo s) := Zy (by rfl) (by rfl) s
def Zvi := kR Zkv
def Z9J := kO Zvi
def ZJQ := opN Z9J 0
def ZIj := opN Z9J 1
def ZDy := opN Z9J 2
theorem Z0xL : XG 115 25 Zvi Z9J [16, 17] := Z7 (by rfl) (by rfl) _
theorem Z0mx : Z9J.toList = [ZJQ, ZIj, ZDy] := nf
theorem Z0qE : stepA E C B 25 Z9J ZJQ (φ, H) = some (fput φ 16 (fget φ 4), H) := nf
theorem Z0r1 : stepA E C B 25 Z9J ZIj (φ, H) = stp (some 17) φ H (just (aBin E.T .add 3 (fget φ 16) (.int .i64 1))) := nf
theorem Z0mA : stepA E C B 25 Z9J ZDy (φ, H) = some (fput φ 4 (fget φ 17), H) := nf
theorem Z0Ah : XQ 115 25 Zkv Ztb Zvi := Z1 (by rfl) _
theorem Z08l : XQ 115 25 Zee ZiS Zkv := Z1 (by rfl) _
theorem Z0xO : execA E C (fg 115) B 25 E0 N Ztp s = iterA (execA E C (fg 115) B 25 E0 N Zee) (headA E0) N s := Z0h (by rfl) s
theorem Z0wh : execA E C (fg 115) B 25 E0 N Zuf s = blockX 0 (fun s => (forget s.1 [0, 4, 15], s.2)) (execA E C (fg 115) B 25 E0 N Ztp s) := Zy (by rfl) (by rfl) s
theorem Z0tU : XQ 115 25 Zl4 ZuD Zuf := Z1 (by rfl) _
def ZkY := kR ZiE
def Zt7 := kL ZkY
def Zeh := kO Zt7
def ZT0 := opN Zeh 0
def ZX7 := opN Zeh 1
theorem Z0yO : XG 115 25 Zt7 Zeh [3, 24] := Z7 (by rfl) (by rfl) _
theorem Z0m7 : Zeh.toList = [ZT0, ZX7] := nf
theorem Z0mS : stepA E C B 25 Zeh ZT0 (φ, H) = some (fput φ 24 (fget φ 3), H) := nf
theorem Z0nt : stepA E C B 25 Zeh ZX7 (φ, H) = some (fput φ 2 (fget φ 24), H) := nf
def Z05U := kR ZkY
theorem Z0zQ : execA E C (fg 115) B 25 E0 N Z05U s = some (.ret, s) := Z00 (by rfl) s
theorem Z0sT : XQ 115 25 ZkY Zt7 Z05U := Z1 (by rfl) _
theorem Z0uB : XQ 115 25 ZiE Zl4 ZkY := Z1 (by rfl) _
theorem Z0Dt : XQ 115 25 Zna ZCu ZiE := Z1 (by rfl) _
theorem Z0Cv : XQ 115 25 Znj Zrc Zna := Z1 (by rfl) _
theorem Z0Ec : XQ 115 25 ZhY ZEb Znj := Z1 (by rfl) _
theorem Z0CV : fInfo E 115 = some ⟨25, #[.tmp 2], ZhY⟩ := nf
theorem Z0Ht (args : List AV) : bodyA E C fg N 115 args H B = bodyX E [.tmp 2] (execA E C (fg 115) B 25 H N ZhY (Zm args 0 [], H)) := ZV Z0CV args H
end Go.AM.YtgfnbmfjbjopkaaDoor
end
noncomputable section
namespace Go.AM
def back1 (k : Nat) (seen : List Nat) (r : Nat → AV) (b : Blk) : Rd (AV × Ups) :=
 (freeOff [k] 6 0).bind fun off => (freeAll [k + off]).bind fun _ => (frz seen).bind fun us => .pure (r (k + off), us ++ [(k + off, b)])
theorem ZO4 (k : Nat) (seen : List Nat) (r : Nat → AV) (b : Blk) : ∃ no : Blk → Rd (AV × Ups), back1 k seen r b = .get k fun
   | none => .get k fun
     | none => (frz seen).bind fun us => .pure (r k, us ++ [(k, b)])
     | some _ => .fail
   | some b => no b := by
 refine ⟨fun _ => (freeOff [k] 5 1048576).bind fun off => (freeAll [k + off]).bind fun _ => (frz seen).bind fun us => .pure (r (k + off), us ++ [(k + off, b)]), ?_⟩
 simp only [back1, freeOff, List.map_cons, List.map_nil, allFree, Rd.bind, Nat.add_zero]
 congr 1
 funext x
 cases x with
 | none =>
   simp only [Rd.bind, freeAll, Nat.add_zero]
   congr 1
   funext y
   cases y <;> rfl
 | some _ => rfl
theorem Z0hs {k : Nat} {seen : List Nat} {r : Nat → AV} {b : Blk} {H : AHeap} (h : hget H k = none) : (back1 k seen r b).run H = ((frz seen).bind fun us => .pure (r k, us ++ [(k, b)])).run H := by
 obtain ⟨no, e⟩ := ZO4 k seen r b
 rw [e]; simp only [Rd.run, h]
theorem Z0dI {k : Nat} {seen : List Nat} {r : Nat → AV} {b : Blk} {H : AHeap} (h : hget H k = none) : (back1 k seen r b).foot H = k :: k :: ((frz seen).bind fun us => .pure (r k, us ++ [(k, b)])).foot H := by
 obtain ⟨no, e⟩ := ZO4 k seen r b
 rw [e]; simp only [Rd.foot, h]
def Z0ki (k : Nat) (seen : List Nat) (r : Nat → AV) (b : Blk) : Rd (AV × Ups) := back1 k seen r b
theorem Z0Z {k : Nat} {seen : List Nat} {r : Nat → AV} {b : Blk} {H : AHeap} : (back1 k seen r b).run H = match hget H k with
   | none => ((frz seen).bind fun us => .pure (r k, us ++ [(k, b)])).run H
   | some _ => (Z0ki k seen r b).run H := by
 cases h : hget H k with
 | none => exact Z0hs h
 | some _ => rfl
theorem ZaG {k : Nat} {seen : List Nat} {r : Nat → AV} {b : Blk} {H : AHeap} : (back1 k seen r b).foot H = match hget H k with
   | none => k :: k :: ((frz seen).bind fun us => .pure (r k, us ++ [(k, b)])).foot H
   | some _ => (Z0ki k seen r b).foot H := by
 cases h : hget H k with
 | none => exact Z0dI h
 | some _ => rfl
def back2 (k0 k1 : Nat) (seen : List Nat) (r : Nat → Nat → AV) (b0 b1 : Blk) : Rd (AV × Ups) :=
 (freeOff [k1, k0] 6 0).bind fun off => (freeAll [k1 + off, k0 + off]).bind fun _ => (frz seen).bind fun us => .pure (r (k0 + off) (k1 + off), us ++ [(k1 + off, b1), (k0 + off, b0)])
def Z0kQ (k0 k1 : Nat) (seen : List Nat) (r : Nat → Nat → AV) (b0 b1 : Blk) : Rd (AV × Ups) := back2 k0 k1 seen r b0 b1
theorem Z0oY (k0 k1 : Nat) (seen : List Nat) (r : Nat → Nat → AV) (b0 b1 : Blk) : ∃ no no' : Blk → Rd (AV × Ups), back2 k0 k1 seen r b0 b1 = .get k1 fun
   | none => .get k0 fun
     | none => .get k1 fun
       | none => .get k0 fun
         | none => (frz seen).bind fun us => .pure (r k0 k1, us ++ [(k1, b1), (k0, b0)])
         | some _ => .fail
       | some _ => .fail
     | some b => no b
   | some b => no' b := by
 refine ⟨fun _ => (freeOff [k1, k0] 5 1048576).bind fun off => (freeAll [k1 + off, k0 + off]).bind fun _ => (frz seen).bind fun us => .pure (r (k0 + off) (k1 + off), us ++ [(k1 + off, b1), (k0 + off, b0)]),
   fun _ => (freeOff [k1, k0] 5 1048576).bind fun off => (freeAll [k1 + off, k0 + off]).bind fun _ => (frz seen).bind fun us => .pure (r (k0 + off) (k1 + off), us ++ [(k1 + off, b1), (k0 + off, b0)]), ?_⟩
 simp only [back2, freeOff, List.map_cons, List.map_nil, allFree, Rd.bind, Nat.add_zero]
 congr 1
 funext x
 cases x with
 | some _ => rfl
 | none =>
   simp only [Rd.bind]
   congr 1
   funext y
   cases y with
   | some _ => rfl
   | none =>
     simp only [Rd.bind, freeAll, Nat.add_zero]
     congr 1
     funext x
     cases x with
     | some _ => rfl
     | none =>
       simp only [Rd.bind]
       congr 1
       funext y
       cases y <;> rfl
theorem Z1V {k0 k1 : Nat} {seen : List Nat} {r : Nat → Nat → AV} {b0 b1 : Blk} {H : AHeap} : (back2 k0 k1 seen r b0 b1).run H = match hget H k1 with
   | none => match hget H k0 with
     | none => ((frz seen).bind fun us => .pure (r k0 k1, us ++ [(k1, b1), (k0, b0)])).run H
     | some _ => (Z0kQ k0 k1 seen r b0 b1).run H
   | some _ => (Z0kQ k0 k1 seen r b0 b1).run H := by
 cases h : hget H k1 with
 | some _ => rfl
 | none =>
   cases h2 : hget H k0 with
   | some _ => rfl
   | none =>
     obtain ⟨no, no', e⟩ := Z0oY k0 k1 seen r b0 b1
     rw [e]; simp only [Rd.run, h, h2]
theorem Z0iJ {C : Callee} {site : Nat → Nat} {seen : List Nat} {f : FuncId} {args : List AV} {id n sz : Nat} {cells : List AV} {H' : AHeap} (h : C f args [] 0 = some (.ref id 0 n n cells.length sz false, H')) (hg : hget H' id = some ⟨.row, cells⟩) :
   aBack site true seen (thaw C f args [] 0) = back1 (site 0) seen (fun k => .ref k 0 n n cells.length sz false) ⟨.row, cells⟩ := by
 simp only [thaw, h, frzRet, aBack, sitesB, aBackAt, imp, hg, List.length_nil, List.not_mem_nil, not_false_eq_true, and_true, if_true, List.map_cons, List.map_nil, AM.apart, List.elem_nil, Bool.not_false, Bool.and_true, AV.leads, back1]
theorem ZhD {C : Callee} {site : Nat → Nat} {seen : List Nat} {f : FuncId} {args : List AV} {id n sz : Nat} {k : IntKind} {z : Int} {cells : List AV} {H' : AHeap} (h : C f args [] 0 = some (.tup [.ref id 0 n n cells.length sz false, .int k z], H')) (hg : hget H' id = some ⟨.row, cells⟩) :
   aBack site true seen (thaw C f args [] 0) = back1 (site 0) seen (fun j => .tup [.ref j 0 n n cells.length sz false, .int k z]) ⟨.row, cells⟩ := by
 simp only [thaw, h, frzRet, aBack, sitesB, aBackAt, imp, imps, hg, List.length_nil, List.not_mem_nil, not_false_eq_true, and_true, if_true, List.map_cons, List.map_nil, AM.apart, List.elem_nil, Bool.not_false, Bool.and_true, AV.leads, AV.leads.leadsL, Bool.or_false, back1]
theorem ZKf {C : Callee} {site : Nat → Nat} {seen : List Nat} {f : FuncId} {args : List AV} {k' : IntKind} {z' : Int} (h : ∃ H', C f args [] 0 = some (.tup [.nilsl, .int k' z'], H')) : aBack site true seen (thaw C f args [] 0) = .pure (.tup [.nilsl, .int k' z'], []) := by
 obtain ⟨H', h⟩ := h; exact Z1p h rfl (fun _ => rfl) rfl
theorem Z0hf {C : Callee} {site : Nat → Nat} {seen : List Nat} {f : FuncId} {args : List AV} (h : ∃ H', C f args [] 0 = some (.nilsl, H')) : aBack site true seen (thaw C f args [] 0) = .pure (.nilsl, []) := by
 obtain ⟨H', h⟩ := h; exact Z1p h rfl (fun _ => rfl) rfl
end Go.AM
end
end
