/- A part of the proof of rubFirst_holds: RpI. Own work of this project; texts printed by own programs among it. -/
import Derived.KernelRfl
import Derived.Test.YtfmnoohhhokicaaZvH
set_option maxRecDepth 1000000
set_option maxHeartbeats 16000000
noncomputable section
noncomputable section
namespace Go.AM.Ytfmnoohhhokicaa
open Go Go.AM
abbrev XQ (f n : Nat) (c a b : Code) : Prop := ∀ {C : Callee} {B N : Nat} {E0 : AHeap} {s : St}, execA E C (fg f) B n E0 N c s = seqX (execA E C (fg f) B n E0 N a s) (execA E C (fg f) B n E0 N b)
abbrev XG (f n : Nat) (c : Code) (r : Array Oper) (l : List Nat) : Prop := ∀ {C : Callee} {B N : Nat} {E0 : AHeap} {s : St}, execA E C (fg f) B n E0 N c s = regX (runA E C B n r r.toList s) (fun s => gcM E0 l (forget s.1 l, s.2))
abbrev XD (f n : Nat) (c : Code) (r : Array Oper) (l : List Nat) : Prop := ∀ {C : Callee} {B N : Nat} {E0 : AHeap} {s : St}, execA E C (fg f) B n E0 N c s = regX (drawA E C B n r s) (fun s => gcM E0 l (forget s.1 l, s.2))
abbrev XC (f n : Nat) (c : Code) (k : Nat) (t e : Code) : Prop := ∀ {C : Callee} {B N : Nat} {E0 : AHeap} {φ : AFr} {H : AHeap}, execA E C (fg f) B n E0 N c (φ, H) = condX (fget φ k) (execA E C (fg f) B n E0 N t (φ, H)) (execA E C (fg f) B n E0 N e (φ, H))
abbrev XS (n : Nat) (r : Array Oper) (o : Oper) (d : Option Nat) (x : Callee → Nat → AFr → AHeap → Rd (AV × Ups)) : Prop := ∀ {C : Callee} {B : Nat} {φ : AFr} {H : AHeap}, stepA E C B n r o (φ, H) = stp d φ H (x C B φ H)
abbrev XM (n : Nat) (r : Array Oper) (o : Oper) (d : Nat) (x : AFr → AV) : Prop := ∀ {C : Callee} {B : Nat} {φ : AFr} {H : AHeap}, stepA E C B n r o (φ, H) = some (fput φ d (x φ), H)
variable {C : Callee} {B N : Nat} {E0 : AHeap} (φ : AFr) (H : AHeap) (s : St)
theorem T_0 : E.T 0 = some ⟨.other, 1, 0, none⟩ := nf
theorem T_1 : E.T 1 = some ⟨.other, 1, 8, (some [.nilfunc])⟩ := nf
theorem T_2 : E.T 2 = some ⟨.int .i64, 1, 8, (some [.int .i64 0])⟩ := nf
theorem T_3 : E.T 3 = some ⟨.int .i64, 1, 8, (some [.int .i64 0])⟩ := nf
theorem T_4 : E.T 4 = some ⟨.bool, 1, 1, (some [.bool false])⟩ := nf
theorem T_5 : E.T 5 = some ⟨.int .u8, 1, 1, (some [.int .u8 0])⟩ := nf
theorem T_6 : E.T 6 = some ⟨.int .u8, 1, 1, (some [.int .u8 0])⟩ := nf
theorem T_7 : E.T 7 = some ⟨.struct [(0, 2, 1), (1, 3, 1), (2, 4, 1), (3, 6, 1)] false, 4, 24, (some [.int .i64 0, .int .i64 0, .bool false, .int .u8 0])⟩ := nf
theorem T_8 : E.T 8 = some ⟨.struct [(0, 2, 1), (1, 3, 1), (2, 4, 1), (3, 6, 1)] false, 4, 24, (some [.int .i64 0, .int .i64 0, .bool false, .int .u8 0])⟩ := nf
theorem T_9 : E.T 9 = some ⟨.str, 1, 16, (some [.str ⟨#[]⟩])⟩ := nf
theorem T_10 : E.T 10 = some ⟨.str, 1, 16, (some [.str ⟨#[]⟩])⟩ := nf
theorem T_11 : E.T 11 = some ⟨.str, 1, 16, (some [.str ⟨#[]⟩])⟩ := nf
theorem T_12 : E.T 12 = some ⟨.int .u64, 1, 8, (some [.int .u64 0])⟩ := nf
theorem T_13 : E.T 13 = some ⟨.struct [(0, 9, 1), (1, 12, 1)] false, 2, 24, (some [.str ⟨#[]⟩, .int .u64 0])⟩ := nf
theorem T_14 : E.T 14 = some ⟨.struct [(0, 9, 1), (1, 12, 1)] false, 2, 24, (some [.str ⟨#[]⟩, .int .u64 0])⟩ := nf
theorem T_15 : E.T 15 = some ⟨.other, 1, 8, (some [.nilptr])⟩ := nf
theorem T_16 : E.T 16 = some ⟨.other, 1, 8, (some [.nilptr])⟩ := nf
theorem T_17 : E.T 17 = some ⟨.other, 1, 8, (some [.nilptr])⟩ := nf
theorem T_18 : E.T 18 = some ⟨.struct [(0, 17, 1)] false, 1, 8, (some [.nilptr])⟩ := nf
theorem T_19 : E.T 19 = some ⟨.struct [(0, 17, 1)] false, 1, 8, (some [.nilptr])⟩ := nf
theorem T_20 : E.T 20 = some ⟨.other, 1, 16, none⟩ := nf
theorem T_21 : E.T 21 = some ⟨.int .i32, 1, 4, (some [.int .i32 0])⟩ := nf
theorem T_22 : E.T 22 = some ⟨.slice 3, 1, 24, (some [.nilsl])⟩ := nf
theorem T_23 : E.T 23 = some ⟨.other, 1, 8, (some [.nilfunc])⟩ := nf
theorem T_24 : E.T 24 = some ⟨.int .i64, 1, 8, (some [.int .i64 0])⟩ := nf
theorem T_25 : E.T 25 = some ⟨.other, 1, 0, none⟩ := nf
theorem T_26 : E.T 26 = some ⟨.other, 1, 8, (some [.nilfunc])⟩ := nf
theorem T_27 : E.T 27 = some ⟨.other, 1, 8, (some [.nilfunc])⟩ := nf
theorem T_28 : E.T 28 = some ⟨.other, 1, 8, (some [.nilfunc])⟩ := nf
theorem T_29 : E.T 29 = some ⟨.other, 1, 8, (some [.nilfunc])⟩ := nf
theorem T_30 : E.T 30 = some ⟨.other, 1, 8, (some [.nilfunc])⟩ := nf
theorem T_31 : E.T 31 = some ⟨.other, 1, 0, none⟩ := nf
theorem T_32 : E.T 32 = some ⟨.other, 1, 8, (some [.nilfunc])⟩ := nf
theorem T_33 : E.T 33 = some ⟨.other, 1, 0, none⟩ := nf
theorem T_34 : E.T 34 = some ⟨.other, 1, 8, (some [.nilfunc])⟩ := nf
theorem T_35 : E.T 35 = some ⟨.other, 1, 0, none⟩ := nf
theorem T_36 : E.T 36 = some ⟨.other, 1, 8, (some [.nilfunc])⟩ := nf
theorem T_37 : E.T 37 = some ⟨.other, 1, 8, (some [.nilfunc])⟩ := nf
theorem T_38 : E.T 38 = some ⟨.other, 1, 8, (some [.nilfunc])⟩ := nf
theorem T_39 : E.T 39 = some ⟨.slice 22, 1, 24, (some [.nilsl])⟩ := nf
theorem T_40 : E.T 40 = some ⟨.other, 1, 0, none⟩ := nf
theorem T_41 : E.T 41 = some ⟨.other, 1, 8, (some [.nilfunc])⟩ := nf
theorem T_42 : E.T 42 = some ⟨.other, 1, 8, (some [.nilfunc])⟩ := nf
theorem T_43 : E.T 43 = some ⟨.other, 1, 8, (some [.nilfunc])⟩ := nf
theorem T_44 : E.T 44 = some ⟨.other, 1, 8, (some [.nilfunc])⟩ := nf
theorem T_45 : E.T 45 = some ⟨.other, 1, 8, (some [.nilfunc])⟩ := nf
theorem T_46 : E.T 46 = some ⟨.other, 1, 8, (some [.nilfunc])⟩ := nf
theorem T_47 : E.T 47 = some ⟨.arr 6 5 true, 6, 6, (some [.int .u8 0, .int .u8 0, .int .u8 0, .int .u8 0, .int .u8 0, .int .u8 0])⟩ := nf
theorem T_48 : E.T 48 = some ⟨.struct [(0, 5, 1), (1, 5, 1), (2, 47, 6)] false, 8, 8, (some [.int .u8 0, .int .u8 0, .int .u8 0, .int .u8 0, .int .u8 0, .int .u8 0, .int .u8 0, .int .u8 0])⟩ := nf
theorem T_49 : E.T 49 = some ⟨.struct [(0, 5, 1), (1, 5, 1), (2, 47, 6)] false, 8, 8, (some [.int .u8 0, .int .u8 0, .int .u8 0, .int .u8 0, .int .u8 0, .int .u8 0, .int .u8 0, .int .u8 0])⟩ := nf
theorem T_50 : E.T 50 = some ⟨.other, 1, 8, (some [.nilfunc])⟩ := nf
theorem T_51 : E.T 51 = some ⟨.other, 1, 8, (some [.nilfunc])⟩ := nf
theorem T_52 : E.T 52 = some ⟨.other, 1, 8, (some [.nilfunc])⟩ := nf
theorem T_53 : E.T 53 = some ⟨.other, 1, 8, (some [.nilfunc])⟩ := nf
theorem T_54 : E.T 54 = some ⟨.other, 1, 8, (some [.nilfunc])⟩ := nf
theorem T_55 : E.T 55 = some ⟨.other, 1, 8, (some [.nilfunc])⟩ := nf
theorem T_56 : E.T 56 = some ⟨.other, 1, 8, (some [.nilfunc])⟩ := nf
theorem T_57 : E.T 57 = some ⟨.other, 1, 8, (some [.nilfunc])⟩ := nf
theorem T_58 : E.T 58 = some ⟨.other, 1, 8, (some [.nilfunc])⟩ := nf
theorem T_59 : E.T 59 = some ⟨.other, 1, 0, none⟩ := nf
theorem T_60 : E.T 60 = some ⟨.other, 1, 8, (some [.nilfunc])⟩ := nf
theorem T_61 : E.T 61 = some ⟨.other, 1, 8, (some [.nilfunc])⟩ := nf
theorem T_62 : E.T 62 = some ⟨.other, 1, 8, (some [.nilfunc])⟩ := nf
theorem T_63 : E.T 63 = some ⟨.other, 1, 8, (some [.nilfunc])⟩ := nf
theorem T_64 : E.T 64 = some ⟨.other, 1, 8, (some [.nilfunc])⟩ := nf
theorem T_65 : E.T 65 = some ⟨.other, 1, 8, (some [.nilfunc])⟩ := nf
theorem T_66 : E.T 66 = some ⟨.other, 1, 8, (some [.nilfunc])⟩ := nf
theorem T_67 : E.T 67 = some ⟨.other, 1, 8, (some [.nilfunc])⟩ := nf
theorem T_68 : E.T 68 = some ⟨.other, 1, 8, (some [.nilfunc])⟩ := nf
theorem T_69 : E.T 69 = some ⟨.other, 1, 8, (some [.nilfunc])⟩ := nf
theorem T_70 : E.T 70 = some ⟨.other, 1, 8, (some [.nilfunc])⟩ := nf
theorem T_71 : E.T 71 = some ⟨.other, 1, 8, (some [.nilfunc])⟩ := nf
theorem T_72 : E.T 72 = some ⟨.other, 1, 8, (some [.nilfunc])⟩ := nf
theorem T_73 : E.T 73 = some ⟨.other, 1, 8, (some [.nilfunc])⟩ := nf
theorem T_74 : E.T 74 = some ⟨.other, 1, 8, (some [.nilfunc])⟩ := nf
theorem T_75 : E.T 75 = some ⟨.arr 6 3 true, 6, 48, (some [.int .i64 0, .int .i64 0, .int .i64 0, .int .i64 0, .int .i64 0, .int .i64 0])⟩ := nf
theorem T_76 : E.T 76 = some ⟨.arr 6 3 true, 6, 48, (some [.int .i64 0, .int .i64 0, .int .i64 0, .int .i64 0, .int .i64 0, .int .i64 0])⟩ := nf
theorem T_77 : E.T 77 = some ⟨.other, 1, 8, (some [.nilfunc])⟩ := nf
theorem T_78 : E.T 78 = some ⟨.other, 1, 8, (some [.nilfunc])⟩ := nf
theorem T_79 : E.T 79 = some ⟨.other, 1, 8, (some [.nilfunc])⟩ := nf
theorem T_80 : E.T 80 = some ⟨.other, 1, 0, none⟩ := nf
theorem T_81 : E.T 81 = some ⟨.other, 1, 8, (some [.nilfunc])⟩ := nf
theorem T_82 : E.T 82 = some ⟨.other, 1, 8, (some [.nilfunc])⟩ := nf
theorem T_83 : E.T 83 = some ⟨.other, 1, 8, (some [.nilfunc])⟩ := nf
theorem T_84 : E.T 84 = some ⟨.other, 1, 8, (some [.nilfunc])⟩ := nf
theorem T_85 : E.T 85 = some ⟨.other, 1, 8, (some [.nilfunc])⟩ := nf
theorem T_86 : E.T 86 = some ⟨.other, 1, 8, (some [.nilfunc])⟩ := nf
theorem T_87 : E.T 87 = some ⟨.map 76 3 (.int .i64 0), 1, 8, (some [.nilmap])⟩ := nf
theorem T_88 : E.T 88 = some ⟨.other, 1, 0, none⟩ := nf
theorem T_89 : E.T 89 = some ⟨.other, 1, 8, (some [.nilfunc])⟩ := nf
theorem T_90 : E.T 90 = some ⟨.other, 1, 8, (some [.nilfunc])⟩ := nf
theorem T_91 : E.T 91 = some ⟨.other, 1, 8, (some [.nilfunc])⟩ := nf
theorem T_92 : E.T 92 = some ⟨.other, 1, 8, (some [.nilfunc])⟩ := nf
theorem T_93 : E.T 93 = some ⟨.slice 5, 1, 24, (some [.nilsl])⟩ := nf
theorem T_94 : E.T 94 = some ⟨.other, 1, 8, (some [.nilfunc])⟩ := nf
theorem T_95 : E.T 95 = some ⟨.other, 1, 8, (some [.nilfunc])⟩ := nf
theorem T_96 : E.T 96 = some ⟨.other, 1, 8, (some [.nilfunc])⟩ := nf
theorem T_97 : E.T 97 = some ⟨.other, 1, 8, (some [.nilfunc])⟩ := nf
theorem T_98 : E.T 98 = some ⟨.int .u64, 1, 8, (some [.int .u64 0])⟩ := nf
theorem T_99 : E.T 99 = some ⟨.other, 1, 8, (some [.nilfunc])⟩ := nf
theorem Z0iY : E.T 100 = some ⟨.other, 1, 8, (some [.nilfunc])⟩ := nf
theorem Z0kP : E.T 101 = some ⟨.slice 39, 1, 24, (some [.nilsl])⟩ := nf
theorem Z0jZ : E.T 102 = some ⟨.other, 1, 8, (some [.nilfunc])⟩ := nf
theorem Z0iS : E.T 103 = some ⟨.other, 1, 8, (some [.nilfunc])⟩ := nf
theorem Z0jr : E.T 104 = some ⟨.other, 1, 8, (some [.nilfunc])⟩ := nf
theorem Z0kS : E.T 105 = some ⟨.int .i64, 1, 8, (some [.int .i64 0])⟩ := nf
theorem Z0iT : E.T 106 = some ⟨.other, 1, 0, none⟩ := nf
theorem Z0ln : E.T 107 = some ⟨.other, 1, 8, (some [.nilfunc])⟩ := nf
theorem Z0lx : E.T 108 = some ⟨.other, 1, 8, (some [.nilfunc])⟩ := nf
theorem Z0kB : E.T 109 = some ⟨.other, 1, 8, (some [.nilfunc])⟩ := nf
theorem Z0mL : E.T 110 = some ⟨.other, 1, 8, (some [.nilfunc])⟩ := nf
theorem Z0kb : E.T 111 = some ⟨.other, 1, 8, (some [.nilfunc])⟩ := nf
theorem Z0mE : E.T 112 = some ⟨.int .u32, 1, 4, (some [.int .u32 0])⟩ := nf
theorem Z0km : E.T 113 = some ⟨.other, 1, 8, (some [.nilfunc])⟩ := nf
theorem Z0nf : E.T 114 = some ⟨.int .u64, 1, 8, (some [.int .u64 0])⟩ := nf
theorem Z0lt : E.T 115 = some ⟨.other, 1, 8, (some [.nilptr])⟩ := nf
theorem Z0mC : E.T 116 = some ⟨.other, 1, 8, (some [.nilfunc])⟩ := nf
theorem Z0nb : E.T 117 = some ⟨.other, 1, 8, (some [.nilfunc])⟩ := nf
theorem Z0n6 : E.T 118 = some ⟨.other, 1, 8, (some [.nilfunc])⟩ := nf
theorem Z0nt : E.T 119 = some ⟨.other, 1, 8, (some [.nilfunc])⟩ := nf
theorem Z0j1 : E.T 120 = some ⟨.other, 1, 8, (some [.nilfunc])⟩ := nf
theorem Z0nc : E.T 121 = some ⟨.int .u64, 1, 8, (some [.int .u64 0])⟩ := nf
theorem Z0jl : E.T 122 = some ⟨.other, 1, 8, (some [.nilfunc])⟩ := nf
theorem Z0mz : E.T 123 = some ⟨.other, 1, 8, (some [.nilfunc])⟩ := nf
theorem Z0n3 : E.T 124 = some ⟨.other, 1, 8, (some [.nilfunc])⟩ := nf
theorem Z0lM : E.T 125 = some ⟨.other, 1, 8, (some [.nilptr])⟩ := nf
theorem Z0lW : E.T 126 = some ⟨.other, 1, 8, (some [.nilfunc])⟩ := nf
theorem Z0lk : E.T 127 = some ⟨.other, 1, 8, (some [.nilfunc])⟩ := nf
theorem Z0jz : E.T 128 = some ⟨.other, 1, 8, (some [.nilfunc])⟩ := nf
theorem Z0ni : E.T 129 = some ⟨.other, 1, 8, (some [.nilptr])⟩ := nf
theorem Z0jB : E.T 130 = some ⟨.other, 1, 0, none⟩ := nf
theorem Z0mV : E.T 131 = some ⟨.other, 1, 8, (some [.nilfunc])⟩ := nf
theorem Z0lQ : E.T 132 = some ⟨.other, 1, 8, (some [.nilfunc])⟩ := nf
theorem Z0mB : E.T 133 = some ⟨.other, 1, 8, (some [.nilfunc])⟩ := nf
theorem Z0k4 : E.T 134 = some ⟨.struct [(0, 17, 1), (1, 17, 1), (2, 17, 1), (3, 9, 1)] false, 4, 40, (some [.nilptr, .nilptr, .nilptr, .str ⟨#[]⟩])⟩ := nf
theorem Z0kw : E.T 135 = some ⟨.struct [(0, 17, 1), (1, 17, 1), (2, 17, 1), (3, 9, 1)] false, 4, 40, (some [.nilptr, .nilptr, .nilptr, .str ⟨#[]⟩])⟩ := nf
theorem Z0jo : E.T 136 = some ⟨.arr 0 16 false, 0, 0, (some [])⟩ := nf
theorem Z0kd : E.T 137 = some ⟨.struct [(0, 136, 0)] false, 0, 0, (some [])⟩ := nf
theorem Z0mm : E.T 138 = some ⟨.struct [(0, 136, 0)] false, 0, 0, (some [])⟩ := nf
theorem Z0ja : E.T 139 = some ⟨.other, 1, 8, (some [.nilfunc])⟩ := nf
theorem Z0lp : E.T 140 = some ⟨.int .u8, 1, 1, (some [.int .u8 0])⟩ := nf
theorem Z0m8 : E.T 141 = some ⟨.int .u8, 1, 1, (some [.int .u8 0])⟩ := nf
theorem Z0mA : E.T 142 = some ⟨.other, 1, 8, (some [.nilfunc])⟩ := nf
theorem Z0lV : E.T 143 = some ⟨.other, 1, 8, (some [.nilptr])⟩ := nf
theorem Z0j9 : E.T 144 = some ⟨.int .i32, 1, 4, (some [.int .i32 0])⟩ := nf
theorem Z0mR : E.T 145 = some ⟨.int .i32, 1, 4, (some [.int .i32 0])⟩ := nf
theorem Z0ki : E.T 146 = some ⟨.struct [(0, 12, 1), (1, 12, 1), (2, 112, 1), (3, 140, 1), (4, 5, 1), (5, 5, 1), (6, 141, 1), (7, 142, 1), (8, 143, 1), (9, 144, 1), (10, 145, 1)] false, 11, 48, (some [.int .u64 0, .int .u64 0, .int .u32 0, .int .u8 0, .int .u8 0, .int .u8 0, .int .u8 0, .nilfunc, .nilptr, .int .i32 0, .int .i32 0])⟩ := nf
theorem Z0lc : E.T 147 = some ⟨.struct [(0, 12, 1), (1, 12, 1), (2, 112, 1), (3, 140, 1), (4, 5, 1), (5, 5, 1), (6, 141, 1), (7, 142, 1), (8, 143, 1), (9, 144, 1), (10, 145, 1)] false, 11, 48, (some [.int .u64 0, .int .u64 0, .int .u32 0, .int .u8 0, .int .u8 0, .int .u8 0, .int .u8 0, .nilfunc, .nilptr, .int .i32 0, .int .i32 0])⟩ := nf
theorem Z0jg : E.T 148 = some ⟨.other, 1, 8, (some [.nilptr])⟩ := nf
abbrev ZT := And.intro (And.intro (And.intro (And.intro (And.intro (And.intro (And.intro @T_0 @T_1) (And.intro @T_2 @T_3)) (And.intro (And.intro @T_4 @T_5) (And.intro @T_6 (And.intro @T_7 @T_8)))) (And.intro (And.intro (And.intro @T_9 @T_10) (And.intro @T_11 @T_12)) (And.intro (And.intro @T_13 @T_14) (And.intro @T_15 (And.intro @T_16 @T_17))))) (And.intro (And.intro (And.intro (And.intro @T_18 @T_19) (And.intro @T_20 @T_21)) (And.intro (And.intro @T_22 @T_23) (And.intro @T_24 (And.intro @T_25 @T_26)))) (And.intro (And.intro (And.intro @T_27 @T_28) (And.intro @T_29 (And.intro @T_30 @T_31))) (And.intro (And.intro @T_32 @T_33) (And.intro @T_34 (And.intro @T_35 @T_36)))))) (And.intro (And.intro (And.intro (And.intro (And.intro @T_37 @T_38) (And.intro @T_39 @T_40)) (And.intro (And.intro @T_41 @T_42) (And.intro @T_43 (And.intro @T_44 @T_45)))) (And.intro (And.intro (And.intro @T_46 @T_47) (And.intro @T_48 @T_49)) (And.intro (And.intro @T_50 @T_51) (And.intro @T_52 (And.intro @T_53 @T_54))))) (And.intro (And.intro (And.intro (And.intro @T_55 @T_56) (And.intro @T_57 @T_58)) (And.intro (And.intro @T_59 @T_60) (And.intro @T_61 (And.intro @T_62 @T_63)))) (And.intro (And.intro (And.intro @T_64 @T_65) (And.intro @T_66 (And.intro @T_67 @T_68))) (And.intro (And.intro @T_69 @T_70) (And.intro @T_71 (And.intro @T_72 @T_73))))))) (And.intro (And.intro (And.intro (And.intro (And.intro (And.intro @T_74 @T_75) (And.intro @T_76 @T_77)) (And.intro (And.intro @T_78 @T_79) (And.intro @T_80 (And.intro @T_81 @T_82)))) (And.intro (And.intro (And.intro @T_83 @T_84) (And.intro @T_85 @T_86)) (And.intro (And.intro @T_87 @T_88) (And.intro @T_89 (And.intro @T_90 @T_91))))) (And.intro (And.intro (And.intro (And.intro @T_92 @T_93) (And.intro @T_94 @T_95)) (And.intro (And.intro @T_96 @T_97) (And.intro @T_98 (And.intro @T_99 @Z0iY)))) (And.intro (And.intro (And.intro @Z0kP @Z0jZ) (And.intro @Z0iS (And.intro @Z0jr @Z0kS))) (And.intro (And.intro @Z0iT @Z0ln) (And.intro @Z0lx (And.intro @Z0kB @Z0mL)))))) (And.intro (And.intro (And.intro (And.intro (And.intro @Z0kb @Z0mE) (And.intro @Z0km @Z0nf)) (And.intro (And.intro @Z0lt @Z0mC) (And.intro @Z0nb (And.intro @Z0n6 @Z0nt)))) (And.intro (And.intro (And.intro @Z0j1 @Z0nc) (And.intro @Z0jl (And.intro @Z0mz @Z0n3))) (And.intro (And.intro @Z0lM @Z0lW) (And.intro @Z0lk (And.intro @Z0jz @Z0ni))))) (And.intro (And.intro (And.intro (And.intro @Z0jB @Z0mV) (And.intro @Z0lQ @Z0mB)) (And.intro (And.intro @Z0k4 @Z0kw) (And.intro @Z0jo (And.intro @Z0kd @Z0mm)))) (And.intro (And.intro (And.intro @Z0ja @Z0lp) (And.intro @Z0m8 (And.intro @Z0mA @Z0lV))) (And.intro (And.intro @Z0j9 @Z0mR) (And.intro @Z0ki (And.intro @Z0lc @Z0jg)))))))
def Zb0 := kBody Proofs.Try.f25
def ZDz := kL Zb0
def Zkg := kO ZDz
def ZCC := opN Zkg 0
theorem Z0mG : XG 25 40 ZDz Zkg [2] := Z1 (by rfl) (by rfl) _
theorem ZX1 : Zkg.toList = [ZCC] := nf
theorem ZZz : stepA E C B 40 Zkg ZCC (φ, H) = some (fput φ 2 (.int .i64 0), H) := nf
def ZiK := kR Zb0
def ZDU := kL ZiK
def Zjq := kB ZDU
def ZE6 := kL Zjq
def Z2T := kO ZE6
def ZAb := opN Z2T 0
def Zv7 := opN Z2T 1
def ZDu := opN Z2T 2
def ZuW := opN Z2T 3
theorem Z0jE : XG 25 40 ZE6 Z2T [6, 7, 8] := Z1 (by rfl) (by rfl) _
theorem Z02i : Z2T.toList = [ZAb, Zv7, ZDu, ZuW] := nf
theorem ZZA : stepA E C B 40 Z2T ZAb (φ, H) = some (fput φ 6 (fget φ 0), H) := nf
theorem ZYX : stepA E C B 40 Z2T Zv7 (φ, H) = stp (some 7) φ H (Z4 E.T (B + 7) .len #[22] [(fget φ 6)]) := nf
theorem Z08s : stepA E C B 40 Z2T ZDu (φ, H) = stp (some 8) φ H (just (aBin E.T .eql 3 (fget φ 7) (.int .i64 0))) := nf
theorem Z057 : stepA E C B 40 Z2T ZuW (φ, H) = some (fput φ 5 (fget φ 8), H) := nf
def Zjk := kR Zjq
def Zjy := kT Zjk
def ZDC := kL Zjy
def Zjm := kO ZDC
def ZzX := opN Zjm 0
theorem Z0my : XG 25 40 ZDC Zjm [0, 5] := Z1 (by rfl) (by rfl) _
theorem Z01h : Zjm.toList = [ZzX] := nf
theorem Z0af : stepA E C B 40 Zjm ZzX (φ, H) = some (fput φ 2 (.int .i64 4), H) := nf
def ZWs := kR Zjy
theorem Z0lY : execA E C (fg 25) B 40 E0 N ZWs s = some (.ret, s) := Zq (by rfl) s
theorem Z0jT : XQ 25 40 Zjy ZDC ZWs := Z0 (by rfl) _
def Zcx := kE Zjk
def ZtV := kL Zcx
def Z2D := kO ZtV
def ZwZ := opN Z2D 0
def ZCg := opN Z2D 1
def ZxA := opN Z2D 2
def Zwz := opN Z2D 3
theorem Z0cB : XG 25 40 ZtV Z2D [5, 10, 11, 12] := Z1 (by rfl) (by rfl) _
theorem Z07j : Z2D.toList = [ZwZ, ZCg, ZxA, Zwz] := nf
theorem Z066 : stepA E C B 40 Z2D ZwZ (φ, H) = some (fput φ 10 (fget φ 0), H) := nf
theorem Z04m : stepA E C B 40 Z2D ZCg (φ, H) = stp (some 11) φ H (Z4 E.T (B + 11) .len #[22] [(fget φ 10)]) := nf
theorem Z06O : stepA E C B 40 Z2D ZxA (φ, H) = stp (some 12) φ H (just (aBin E.T .gtr 3 (fget φ 11) (.int .i64 6))) := nf
theorem Z03u : stepA E C B 40 Z2D Zwz (φ, H) = some (fput φ 9 (fget φ 12), H) := nf
def Zbb := kR Zcx
def ZbE := kT Zbb
def Zpi := kL ZbE
def Zk9 := kO Zpi
def ZCp := opN Zk9 0
theorem Z0d6 : XG 25 40 Zpi Zk9 [0, 9] := Z1 (by rfl) (by rfl) _
theorem Z077 : Zk9.toList = [ZCp] := nf
theorem Z01E : stepA E C B 40 Zk9 ZCp (φ, H) = some (fput φ 2 (.int .i64 3), H) := nf
def ZG7 := kR ZbE
theorem Z0dh : execA E C (fg 25) B 40 E0 N ZG7 s = some (.ret, s) := Zq (by rfl) s
theorem Z0hy : XQ 25 40 ZbE Zpi ZG7 := Z0 (by rfl) _
def ZJx := kE Zbb
theorem Z0ij : execA E C (fg 25) B 40 E0 N ZJx s = some (.normal, s) := Zh (by rfl) s
theorem Z0cw : XC 25 40 Zbb 9 ZbE ZJx := Zf (by rfl) _
theorem Z0ct : XQ 25 40 Zcx ZtV Zbb := Z0 (by rfl) _
theorem Z0lD : XC 25 40 Zjk 5 Zjy Zcx := Zf (by rfl) _
theorem Z0iM : XQ 25 40 Zjq ZE6 Zjk := Z0 (by rfl) _
theorem Z0lo : execA E C (fg 25) B 40 E0 N ZDU s = blockX 0 (fun s => (forget s.1 [9], s.2)) (execA E C (fg 25) B 40 E0 N Zjq s) := Ze (by rfl) (by rfl) s
def Zat := kR ZiK
def ZbY := kL Zat
def Ztj := kL ZbY
def Z4f := kO Ztj
def Zww := opN Z4f 0
def ZwF := opN Z4f 1
def ZCX := opN Z4f 2
theorem Z0cC : XG 25 40 Ztj Z4f [] := Z1 (by rfl) (by rfl) _
theorem Z01Z : Z4f.toList = [Zww, ZwF, ZCX] := nf
theorem Z00p : stepA E C B 40 Z4f Zww (φ, H) = some (fput φ 13 (fget φ 0), H) := nf
theorem Z017 : stepA E C B 40 Z4f ZwF (φ, H) = stp (some 14) φ H (Z4 E.T (B + 14) .len #[22] [(fget φ 13)]) := nf
theorem Z059 : stepA E C B 40 Z4f ZCX (φ, H) = some (fput φ 15 (.int .i64 0), H) := nf
def ZqS := kR ZbY
def ZrG := kB ZqS
def Z3V := kB ZrG
def Zl9 := kL Z3V
def Zj5 := kO Zl9
def ZBx := opN Zj5 0
theorem Z0eT : XG 25 40 Zl9 Zj5 [] := Z1 (by rfl) (by rfl) _
theorem ZWQ : Zj5.toList = [ZBx] := nf
theorem Z03z : stepA E C B 40 Zj5 ZBx (φ, H) = stp (some 16) φ H (just (aBin E.T .lss 3 (fget φ 15) (fget φ 14))) := nf
def ZaW := kR Z3V
def Z9V := kL ZaW
def ZKH := kT Z9V
theorem Z0hp : execA E C (fg 25) B 40 E0 N ZKH s = some (.normal, s) := Zh (by rfl) s
def ZMy := kE Z9V
theorem Z0ii : execA E C (fg 25) B 40 E0 N ZMy s = some (.exit 1, s) := ZI (by rfl) s
theorem Z0dc : XC 25 40 Z9V 16 ZKH ZMy := Zf (by rfl) _
def Z9Q := kR ZaW
def Zto := kL Z9Q
def Zbc := kB Zto
def Ztb := kL Zbc
def Z21 := kO Ztb
def Zwm := opN Z21 0
def Zyz := opN Z21 1
def ZvZ := opN Z21 2
def ZCo := opN Z21 3
def Zve := opN Z21 4
theorem Z0iD : XG 25 40 Ztb Z21 [16, 17, 18, 19] := Z1 (by rfl) (by rfl) _
theorem Z08i : Z21.toList = [Zwm, Zyz, ZvZ, ZCo, Zve] := nf
theorem ZXl : stepA E C B 40 Z21 Zwm (φ, H) = some (fput φ 17 (fget φ 15), H) := nf
theorem Z00q : stepA E C B 40 Z21 Zyz (φ, H) = stp (some 18) φ H (just (Z2 E.T 22 (fget φ 13) (fget φ 15))) := nf
theorem Z07X : stepA E C B 40 Z21 ZvZ (φ, H) = stp (some 19) φ H (just (aLoad E.T 3 (fget φ 18))) := nf
theorem Z09d : stepA E C B 40 Z21 ZCo (φ, H) = some (fput φ 3 (fget φ 17), H) := nf
theorem ZXT : stepA E C B 40 Z21 Zve (φ, H) = some (fput φ 4 (fget φ 19), H) := nf
def Zma := kR Zbc
def Zc6 := kB Zma
def Zum := kL Zc6
def Z13 := kO Zum
def ZCQ := opN Z13 0
def ZzP := opN Z13 1
def Z7B := opN Z13 2
def ZzC := opN Z13 3
def Zvh := opN Z13 4
def ZB7 := opN Z13 5
def ZAf := opN Z13 6
theorem Z0ho : XG 25 40 Zum Z13 [21, 22, 23, 24, 25, 26] := Z1 (by rfl) (by rfl) _
theorem Z08o : Z13.toList = [ZCQ, ZzP, Z7B, ZzC, Zvh, ZB7, ZAf] := nf
theorem Z08u : stepA E C B 40 Z13 ZCQ (φ, H) = some (fput φ 21 (fget φ 4), H) := nf
theorem Z05A : stepA E C B 40 Z13 ZzP (φ, H) = stp (some 22) φ H (just (aBin E.T .lss 3 (fget φ 21) (.int .i64 0))) := nf
theorem ZXW : stepA E C B 40 Z13 Z7B (φ, H) = some (fput φ 23 (fget φ 22), H) := nf
theorem Z02o : stepA E C B 40 Z13 ZzC (φ, H) = gd φ 23 false (fun φ => some (fput φ 24 (.tup []), H)) (fun φ => some (fput φ 24 (fget φ 4), H)) := s_gd (j := 2) (oj := Z7B) rfl rfl rfl (fun _ => rfl) (fun _ => rfl)
theorem Z08a : stepA E C B 40 Z13 Zvh (φ, H) = gd φ 23 false (fun φ => some (fput φ 25 (.tup []), H)) (fun φ => stp (some 25) φ H (just (aBin E.T .gtr 3 (fget φ 24) (.int .i64 8)))) := s_gd (j := 2) (oj := Z7B) rfl rfl rfl (fun _ => rfl) (fun _ => rfl)
theorem Z04A : stepA E C B 40 Z13 ZB7 (φ, H) = stp (some 26) φ H (opPick (fget φ 23) (.bool true) (fget φ 25)) := nf
theorem Z02Q : stepA E C B 40 Z13 ZAf (φ, H) = some (fput φ 20 (fget φ 26), H) := nf
def ZcY := kR Zc6
def Zb3 := kT ZcY
def ZrY := kL Zb3
def Zk4 := kO ZrY
def ZAO := opN Zk4 0
theorem Z0eJ : XG 25 40 ZrY Zk4 [0, 3, 4, 13, 14, 15, 20] := Z1 (by rfl) (by rfl) _
theorem Z01m : Zk4.toList = [ZAO] := nf
theorem Z05g : stepA E C B 40 Zk4 ZAO (φ, H) = some (fput φ 2 (.int .i64 1), H) := nf
def ZJN := kR Zb3
theorem Z0fJ : execA E C (fg 25) B 40 E0 N ZJN s = some (.ret, s) := Zq (by rfl) s
theorem Z0eA : XQ 25 40 Zb3 ZrY ZJN := Z0 (by rfl) _
def Z9e := kE ZcY
def ZqG := kL Z9e
def ZN := kO ZqG
def Zu4 := opN ZN 0
def Zs1 := opN ZN 1
def Z1d := opN ZN 2
def ZpI := opN ZN 3
def Zus := opN ZN 4
def Zpj := opN ZN 5
def Znd := opN ZN 6
def Zqo := opN ZN 7
def ZtM := opN ZN 8
def ZlR := opN ZN 9
def Zin := opN ZN 10
def ZhS := opN ZN 11
theorem Z0bf : XG 25 40 ZqG ZN [3, 4, 20, 28, 29, 30, 31, 32, 33, 34, 35, 36, 37, 38] := Z1 (by rfl) (by rfl) _
theorem ZOO : ZN.toList = [Zu4, Zs1, Z1d, ZpI, Zus, Zpj, Znd, Zqo, ZtM, ZlR, Zin, ZhS] := nf
theorem ZPB : stepA E C B 40 ZN Zu4 (φ, H) = some (fput φ 28 (fget φ 3), H) := nf
theorem ZPm : stepA E C B 40 ZN Zs1 (φ, H) = stp (some 29) φ H (just (aBin E.T .gtr 3 (fget φ 28) (.int .i64 0))) := nf
theorem ZWc : stepA E C B 40 ZN Z1d (φ, H) = some (fput φ 30 (fget φ 29), H) := nf
theorem ZWk : stepA E C B 40 ZN ZpI (φ, H) = gd φ 30 true (fun φ => some (fput φ 31 (.tup []), H)) (fun φ => some (fput φ 31 (fget φ 4), H)) := s_gd (j := 2) (oj := Z1d) rfl rfl rfl (fun _ => rfl) (fun _ => rfl)
theorem ZPC : stepA E C B 40 ZN Zus (φ, H) = gd φ 30 true (fun φ => some (fput φ 32 (.tup []), H)) (fun φ => some (fput φ 32 (fget φ 0), H)) := s_gd (j := 2) (oj := Z1d) rfl rfl rfl (fun _ => rfl) (fun _ => rfl)
theorem ZQD : stepA E C B 40 ZN Zpj (φ, H) = gd φ 30 true (fun φ => some (fput φ 33 (.tup []), H)) (fun φ => some (fput φ 33 (fget φ 3), H)) := s_gd (j := 2) (oj := Z1d) rfl rfl rfl (fun _ => rfl) (fun _ => rfl)
theorem ZR5 : stepA E C B 40 ZN Znd (φ, H) = gd φ 30 true (fun φ => some (fput φ 34 (.tup []), H)) (fun φ => stp (some 34) φ H (just (aBin E.T .sub 3 (fget φ 33) (.int .i64 1)))) := s_gd (j := 2) (oj := Z1d) rfl rfl rfl (fun _ => rfl) (fun _ => rfl)
theorem ZOf : stepA E C B 40 ZN Zqo (φ, H) = gd φ 30 true (fun φ => some (fput φ 35 (.tup []), H)) (fun φ => stp (some 35) φ H (just (Z2 E.T 22 (fget φ 32) (fget φ 34)))) := s_gd (j := 2) (oj := Z1d) rfl rfl rfl (fun _ => rfl) (fun _ => rfl)
theorem ZPT : stepA E C B 40 ZN ZtM (φ, H) = gd φ 30 true (fun φ => some (fput φ 36 (.tup []), H)) (fun φ => stp (some 36) φ H (just (aLoad E.T 3 (fget φ 35)))) := s_gd (j := 2) (oj := Z1d) rfl rfl rfl (fun _ => rfl) (fun _ => rfl)
theorem ZRu : stepA E C B 40 ZN ZlR (φ, H) = gd φ 30 true (fun φ => some (fput φ 37 (.tup []), H)) (fun φ => stp (some 37) φ H (just (aBin E.T .gtr 3 (fget φ 31) (fget φ 36)))) := s_gd (j := 2) (oj := Z1d) rfl rfl rfl (fun _ => rfl) (fun _ => rfl)
theorem ZIl : stepA E C B 40 ZN Zin (φ, H) = stp (some 38) φ H (opPick (fget φ 30) (fget φ 37) (.bool false)) := nf
theorem ZFU : stepA E C B 40 ZN ZhS (φ, H) = some (fput φ 27 (fget φ 38), H) := nf
def Z9I := kR Z9e
def Z9L := kT Z9I
def ZkU := kL Z9L
def Z9z := kO ZkU
def ZtU := opN Z9z 0
theorem Z0fU : XG 25 40 ZkU Z9z [0, 13, 14, 15, 27] := Z1 (by rfl) (by rfl) _
theorem ZOW : Z9z.toList = [ZtU] := nf
theorem ZPg : stepA E C B 40 Z9z ZtU (φ, H) = some (fput φ 2 (.int .i64 7), H) := nf
def ZJe := kR Z9L
theorem Z0cJ : execA E C (fg 25) B 40 E0 N ZJe s = some (.ret, s) := Zq (by rfl) s
theorem Z0cY : XQ 25 40 Z9L ZkU ZJe := Z0 (by rfl) _
def ZL9 := kE Z9I
theorem Z0bk : execA E C (fg 25) B 40 E0 N ZL9 s = some (.normal, s) := Zh (by rfl) s
theorem Z0dv : XC 25 40 Z9I 27 Z9L ZL9 := Zf (by rfl) _
theorem Z0hQ : XQ 25 40 Z9e ZqG Z9I := Z0 (by rfl) _
theorem Z0c6 : XC 25 40 ZcY 20 Zb3 Z9e := Zf (by rfl) _
theorem Z0aF : XQ 25 40 Zc6 Zum ZcY := Z0 (by rfl) _
theorem Z0i0 : execA E C (fg 25) B 40 E0 N Zma s = blockX 3 (fun s => (forget s.1 [27], s.2)) (execA E C (fg 25) B 40 E0 N Zc6 s) := Ze (by rfl) (by rfl) s
theorem Z0bD : XQ 25 40 Zbc Ztb Zma := Z0 (by rfl) _
theorem Z0fF : execA E C (fg 25) B 40 E0 N Zto s = blockX 2 (fun s => (forget s.1 [], s.2)) (execA E C (fg 25) B 40 E0 N Zbc s) := Ze (by rfl) (by rfl) s
def ZmB := kR Z9Q
def Z4E := kO ZmB
def Zmp := opN Z4E 0
def Zla := opN Z4E 1
theorem Z0cj : XG 25 40 ZmB Z4E [39] := Z1 (by rfl) (by rfl) _
theorem ZOA : Z4E.toList = [Zmp, Zla] := nf
theorem ZNE : stepA E C B 40 Z4E Zmp (φ, H) = stp (some 39) φ H (just (aBin E.T .add 3 (fget φ 15) (.int .i64 1))) := nf
theorem ZPj : stepA E C B 40 Z4E Zla (φ, H) = some (fput φ 15 (fget φ 39), H) := nf
theorem Z0i7 : XQ 25 40 Z9Q Zto ZmB := Z0 (by rfl) _
theorem Z0e1 : XQ 25 40 ZaW Z9V Z9Q := Z0 (by rfl) _
theorem Z0ds : XQ 25 40 Z3V Zl9 ZaW := Z0 (by rfl) _
theorem Z0bV : execA E C (fg 25) B 40 E0 N ZrG s = iterA (execA E C (fg 25) B 40 E0 N Z3V) (headA E0) N s := ZV (by rfl) s
theorem Z0eB : execA E C (fg 25) B 40 E0 N ZqS s = blockX 1 (fun s => (forget s.1 [0, 13, 14, 15, 16], s.2)) (execA E C (fg 25) B 40 E0 N ZrG s) := Ze (by rfl) (by rfl) s
theorem Z0hs : XQ 25 40 ZbY Ztj ZqS := Z0 (by rfl) _
def ZbN := kR Zat
def ZrM := kL ZbN
def ZcZ := kO ZrM
def Zsu := opN ZcZ 0
theorem Z0i4 : XG 25 40 ZrM ZcZ [] := Z1 (by rfl) (by rfl) _
theorem ZTx : ZcZ.toList = [Zsu] := nf
theorem ZRg : stepA E C B 40 ZcZ Zsu (φ, H) = some (fput φ 2 (.int .i64 0), H) := nf
def ZGL := kR ZbN
theorem Z0iJ : execA E C (fg 25) B 40 E0 N ZGL s = some (.ret, s) := Zq (by rfl) s
theorem Z0aY : XQ 25 40 ZbN ZrM ZGL := Z0 (by rfl) _
theorem Z0gI : XQ 25 40 Zat ZbY ZbN := Z0 (by rfl) _
theorem Z0mQ : XQ 25 40 ZiK ZDU Zat := Z0 (by rfl) _
theorem Z0lv : XQ 25 40 Zb0 ZDz ZiK := Z0 (by rfl) _
theorem Z0jt : fInfo E 25 = some ⟨40, #[.tmp 2], Zb0⟩ := nf
theorem b_25 (args : List AV) : bodyA E C fg N 25 args H B = bodyX E [.tmp 2] (execA E C (fg 25) B 40 H N Zb0 (Z8 args 0 [], H)) := Zt Z0jt args H
abbrev F_25 := And.intro (And.intro (And.intro (And.intro (And.intro (And.intro @Z0mG (And.intro @ZX1 @ZZz)) (And.intro @Z0jE (And.intro @Z02i @ZZA))) (And.intro (And.intro @ZYX (And.intro @Z08s @Z057)) (And.intro (And.intro @Z0my @Z01h) (And.intro @Z0af @Z0lY)))) (And.intro (And.intro (And.intro @Z0jT (And.intro @Z0cB @Z07j)) (And.intro (And.intro @Z066 @Z04m) (And.intro @Z06O @Z03u))) (And.intro (And.intro @Z0d6 (And.intro @Z077 @Z01E)) (And.intro (And.intro @Z0dh @Z0hy) (And.intro @Z0ij @Z0cw))))) (And.intro (And.intro (And.intro (And.intro @Z0ct (And.intro @Z0lD @Z0iM)) (And.intro @Z0lo (And.intro @Z0cC @Z01Z))) (And.intro (And.intro @Z00p (And.intro @Z017 @Z059)) (And.intro (And.intro @Z0eT @ZWQ) (And.intro @Z03z @Z0hp)))) (And.intro (And.intro (And.intro @Z0ii (And.intro @Z0dc @Z0iD)) (And.intro (And.intro @Z08i @ZXl) (And.intro @Z00q @Z07X))) (And.intro (And.intro @Z09d (And.intro @ZXT @Z0ho)) (And.intro (And.intro @Z08o @Z08u) (And.intro @Z05A @ZXW)))))) (And.intro (And.intro (And.intro (And.intro (And.intro @Z02o (And.intro @Z08a @Z04A)) (And.intro @Z02Q (And.intro @Z0eJ @Z01m))) (And.intro (And.intro @Z05g (And.intro @Z0fJ @Z0eA)) (And.intro (And.intro @Z0bf @ZOO) (And.intro @ZPB @ZPm)))) (And.intro (And.intro (And.intro @ZWc (And.intro @ZWk @ZPC)) (And.intro (And.intro @ZQD @ZR5) (And.intro @ZOf @ZPT))) (And.intro (And.intro @ZRu (And.intro @ZIl @ZFU)) (And.intro (And.intro @Z0fU @ZOW) (And.intro @ZPg @Z0cJ))))) (And.intro (And.intro (And.intro (And.intro @Z0cY (And.intro @Z0bk @Z0dv)) (And.intro (And.intro @Z0hQ @Z0c6) (And.intro @Z0aF @Z0i0))) (And.intro (And.intro @Z0bD (And.intro @Z0fF @Z0cj)) (And.intro (And.intro @ZOA @ZNE) (And.intro @ZPj @Z0i7)))) (And.intro (And.intro (And.intro @Z0e1 (And.intro @Z0ds @Z0bV)) (And.intro (And.intro @Z0eB @Z0hs) (And.intro @Z0i4 @ZTx))) (And.intro (And.intro @ZRg (And.intro @Z0iJ @Z0aY)) (And.intro (And.intro @Z0gI @Z0mQ) (And.intro @Z0lv @b_25))))))
def ZbC := kBody Proofs.Try.f79
def ZEO := kL ZbC
def Zkm := kO ZEO
def ZD6 := opN Zkm 0
theorem Z0nu : XG 79 25 ZEO Zkm [2] := Z1 (by rfl) (by rfl) _
theorem Z00G : Zkm.toList = [ZD6] := nf
theorem ZXI : stepA E C B 25 Zkm ZD6 (φ, H) = some (fput φ 2 (.nilsl), H) := nf
def Zjf := kR ZbC
def ZEt := kL Zjf
def Z7U := kO ZEt
def ZBA := opN Z7U 0
def ZBg := opN Z7U 1
theorem Z0kL : XG 79 25 ZEt Z7U [6] := Z1 (by rfl) (by rfl) _
theorem ZZl : Z7U.toList = [ZBA, ZBg] := nf
theorem Z08J : stepA E C B 25 Z7U ZBA (φ, H) = stp (some 6) φ H (Zi E.T (B + 6) 22 1 (evO E φ) [(0, Operand.const (Value.int .i64 0))]) := nf
theorem Z08q : stepA E C B 25 Z7U ZBg (φ, H) = some (fput φ 3 (fget φ 6), H) := nf
def Ziz := kR Zjf
def ZjC := kL Ziz
def ZFt := kL ZjC
def Z4u := kO ZFt
def Zzh := opN Z4u 0
def ZCj := opN Z4u 1
def ZA9 := opN Z4u 2
theorem Z0ll : XG 79 25 ZFt Z4u [0] := Z1 (by rfl) (by rfl) _
theorem Z0a5 : Z4u.toList = [Zzh, ZCj, ZA9] := nf
theorem ZXN : stepA E C B 25 Z4u Zzh (φ, H) = some (fput φ 7 (fget φ 0), H) := nf
theorem Z09D : stepA E C B 25 Z4u ZCj (φ, H) = stp (some 8) φ H (Z4 E.T (B + 8) .len #[22] [(fget φ 7)]) := nf
theorem Z08V : stepA E C B 25 Z4u ZA9 (φ, H) = some (fput φ 9 (.int .i64 0), H) := nf
def ZEY := kR ZjC
def ZFb := kB ZEY
def Z5l := kB ZFb
def Zug := kL Z5l
def Zjo := kO Zug
def Zwi := opN Zjo 0
theorem Z0cr : XG 79 25 Zug Zjo [] := Z1 (by rfl) (by rfl) _
theorem Z00n : Zjo.toList = [Zwi] := nf
theorem Z028 : stepA E C B 25 Zjo Zwi (φ, H) = stp (some 10) φ H (just (aBin E.T .lss 3 (fget φ 9) (fget φ 8))) := nf
def Zco := kR Z5l
def ZcB := kL Zco
def ZLW := kT ZcB
theorem Z0c0 : execA E C (fg 79) B 25 E0 N ZLW s = some (.normal, s) := Zh (by rfl) s
def ZGH := kE ZcB
theorem Z0gz : execA E C (fg 79) B 25 E0 N ZGH s = some (.exit 0, s) := ZI (by rfl) s
theorem Z0e7 : XC 79 25 ZcB 10 ZLW ZGH := Zf (by rfl) _
def Zcd := kR Zco
def Zpg := kL Zcd
def ZcR := kB Zpg
def Zlc := kL ZcR
def Z1Z := kO Zlc
def Zxc := opN Z1Z 0
def Zvu := opN Z1Z 1
def ZCI := opN Z1Z 2
def ZB4 := opN Z1Z 3
def ZBT := opN Z1Z 4
theorem Z0dn : XG 79 25 Zlc Z1Z [10, 11, 12, 13] := Z1 (by rfl) (by rfl) _
theorem Z03y : Z1Z.toList = [Zxc, Zvu, ZCI, ZB4, ZBT] := nf
theorem Z08O : stepA E C B 25 Z1Z Zxc (φ, H) = some (fput φ 11 (fget φ 9), H) := nf
theorem Z087 : stepA E C B 25 Z1Z Zvu (φ, H) = stp (some 12) φ H (just (Z2 E.T 22 (fget φ 7) (fget φ 9))) := nf
theorem Z01O : stepA E C B 25 Z1Z ZCI (φ, H) = stp (some 13) φ H (just (aLoad E.T 3 (fget φ 12))) := nf
theorem ZZS : stepA E C B 25 Z1Z ZB4 (φ, H) = some (fput φ 4 (fget φ 11), H) := nf
theorem Z04Y : stepA E C B 25 Z1Z ZBT (φ, H) = some (fput φ 5 (fget φ 13), H) := nf
def Zsb := kR ZcR
def Z0v := kO Zsb
def Zwo := opN Z0v 0
def Zzj := opN Z0v 1
def Zwc := opN Z0v 2
def ZAR := opN Z0v 3
def ZBi := opN Z0v 4
def ZC5 := opN Z0v 5
def ZuS := opN Z0v 6
def Zyr := opN Z0v 7
def ZB8 := opN Z0v 8
def Zyw := opN Z0v 9
theorem Z0bA : XG 79 25 Zsb Z0v [4, 5, 14, 15, 16, 17, 18, 19, 20, 21, 22] := Z1 (by rfl) (by rfl) _
theorem Z00S : Z0v.toList = [Zwo, Zzj, Zwc, ZAR, ZBi, ZC5, ZuS, Zyr, ZB8, Zyw] := nf
theorem Z09J : stepA E C B 25 Z0v Zwo (φ, H) = some (fput φ 14 (fget φ 3), H) := nf
theorem Z00C : stepA E C B 25 Z0v Zzj (φ, H) = some (fput φ 15 (fget φ 3), H) := nf
theorem ZYi : stepA E C B 25 Z0v Zwc (φ, H) = some (fput φ 16 (fget φ 4), H) := nf
theorem ZYC : stepA E C B 25 Z0v ZAR (φ, H) = stp (some 17) φ H (just (Z2 E.T 22 (fget φ 15) (fget φ 16))) := nf
theorem Z00P : stepA E C B 25 Z0v ZBi (φ, H) = stp (some 18) φ H (just (aLoad E.T 3 (fget φ 17))) := nf
theorem Z09Q : stepA E C B 25 Z0v ZC5 (φ, H) = some (fput φ 19 (fget φ 5), H) := nf
theorem ZWZ : stepA E C B 25 Z0v ZuS (φ, H) = stp (some 20) φ H (just (aBin E.T .add 3 (fget φ 18) (fget φ 19))) := nf
theorem ZXB : stepA E C B 25 Z0v Zyr (φ, H) = stp (some 21) φ H (Zi E.T (B + 21) 22 1 (evO E φ) [(0, Operand.tmp 20)]) := nf
theorem ZZ2 : stepA E C B 25 Z0v ZB8 (φ, H) = stp (some 22) φ H (Z4 E.T (B + 22) .append #[22, 22] [(fget φ 14), (fget φ 21)]) := nf
theorem Z03J : stepA E C B 25 Z0v Zyw (φ, H) = some (fput φ 3 (fget φ 22), H) := nf
theorem Z0c7 : XQ 79 25 ZcR Zlc Zsb := Z0 (by rfl) _
theorem Z0fV : execA E C (fg 79) B 25 E0 N Zpg s = blockX 1 (fun s => (forget s.1 [], s.2)) (execA E C (fg 79) B 25 E0 N ZcR s) := Ze (by rfl) (by rfl) s
def ZnW := kR Zcd
def Z66 := kO ZnW
def ZCA := opN Z66 0
def ZwG := opN Z66 1
theorem Z0aA : XG 79 25 ZnW Z66 [23] := Z1 (by rfl) (by rfl) _
theorem Z095 : Z66.toList = [ZCA, ZwG] := nf
theorem Z013 : stepA E C B 25 Z66 ZCA (φ, H) = stp (some 23) φ H (just (aBin E.T .add 3 (fget φ 9) (.int .i64 1))) := nf
theorem Z05G : stepA E C B 25 Z66 ZwG (φ, H) = some (fput φ 9 (fget φ 23), H) := nf
theorem Z0aE : XQ 79 25 Zcd Zpg ZnW := Z0 (by rfl) _
theorem Z0do : XQ 79 25 Zco ZcB Zcd := Z0 (by rfl) _
theorem Z0nm : XQ 79 25 Z5l Zug Zco := Z0 (by rfl) _
theorem Z0kD : execA E C (fg 79) B 25 E0 N ZFb s = iterA (execA E C (fg 79) B 25 E0 N Z5l) (headA E0) N s := ZV (by rfl) s
theorem Z0nw : execA E C (fg 79) B 25 E0 N ZEY s = blockX 0 (fun s => (forget s.1 [7, 8, 9, 10], s.2)) (execA E C (fg 79) B 25 E0 N ZFb s) := Ze (by rfl) (by rfl) s
theorem Z0iZ : XQ 79 25 ZjC ZFt ZEY := Z0 (by rfl) _
def Zbw := kR Ziz
def ZpZ := kL Zbw
def Z6a := kO ZpZ
def Zvt := opN Z6a 0
def ZzF := opN Z6a 1
theorem Z0hD : XG 79 25 ZpZ Z6a [3, 24] := Z1 (by rfl) (by rfl) _
theorem Z09K : Z6a.toList = [Zvt, ZzF] := nf
theorem Z071 : stepA E C B 25 Z6a Zvt (φ, H) = some (fput φ 24 (fget φ 3), H) := nf
theorem ZZk : stepA E C B 25 Z6a ZzF (φ, H) = some (fput φ 2 (fget φ 24), H) := nf
def ZG2 := kR Zbw
theorem Z0cx : execA E C (fg 79) B 25 E0 N ZG2 s = some (.ret, s) := Zq (by rfl) s
theorem Z0fl : XQ 79 25 Zbw ZpZ ZG2 := Z0 (by rfl) _
theorem Z0iR : XQ 79 25 Ziz ZjC Zbw := Z0 (by rfl) _
theorem Z0jF : XQ 79 25 Zjf ZEt Ziz := Z0 (by rfl) _
theorem Z0jY : XQ 79 25 ZbC ZEO Zjf := Z0 (by rfl) _
theorem Z0lK : fInfo E 79 = some ⟨25, #[.tmp 2], ZbC⟩ := nf
theorem b_79 (args : List AV) : bodyA E C fg N 79 args H B = bodyX E [.tmp 2] (execA E C (fg 79) B 25 H N ZbC (Z8 args 0 [], H)) := Zt Z0lK args H
abbrev F_79 := And.intro (And.intro (And.intro (And.intro (And.intro @Z0nu (And.intro @Z00G @ZXI)) (And.intro (And.intro @Z0kL @ZZl) (And.intro @Z08J @Z08q))) (And.intro (And.intro @Z0ll (And.intro @Z0a5 @ZXN)) (And.intro (And.intro @Z09D @Z08V) (And.intro @Z0cr @Z00n)))) (And.intro (And.intro (And.intro @Z028 (And.intro @Z0c0 @Z0gz)) (And.intro (And.intro @Z0e7 @Z0dn) (And.intro @Z03y @Z08O))) (And.intro (And.intro (And.intro @Z087 @Z01O) (And.intro @ZZS @Z04Y)) (And.intro (And.intro @Z0bA @Z00S) (And.intro @Z09J @Z00C))))) (And.intro (And.intro (And.intro (And.intro @ZYi (And.intro @ZYC @Z00P)) (And.intro (And.intro @Z09Q @ZWZ) (And.intro @ZXB @ZZ2))) (And.intro (And.intro (And.intro @Z03J @Z0c7) (And.intro @Z0fV @Z0aA)) (And.intro (And.intro @Z095 @Z013) (And.intro @Z05G @Z0aE)))) (And.intro (And.intro (And.intro @Z0do (And.intro @Z0nm @Z0kD)) (And.intro (And.intro @Z0nw @Z0iZ) (And.intro @Z0hD @Z09K))) (And.intro (And.intro (And.intro @Z071 @ZZk) (And.intro @Z0cx @Z0fl)) (And.intro (And.intro @Z0iR @Z0jF) (And.intro @Z0jY @b_79)))))
def Zbe := kBody Proofs.Try.f82
def ZEC := kL Zbe
def Zkf := kO ZEC
def ZBq := opN Zkf 0
theorem Z0mf : XG 82 8 ZEC Zkf [] := Z1 (by rfl) (by rfl) _
theorem Z00O : Zkf.toList = [ZBq] := nf
theorem Z02h : stepA E C B 8 Zkf ZBq (φ, H) = stp (some 2) φ H (opBox (B + 2) (zeroCells E.T 76)) := nf
def ZjY := kR Zbe
def ZEK := kL ZjY
def ZiW := kO ZEK
def ZzN := opN ZiW 0
theorem Z0ky : XG 82 8 ZEK ZiW [] := Z1 (by rfl) (by rfl) _
theorem Z01t : ZiW.toList = [ZzN] := nf
theorem ZYP : stepA E C B 8 ZiW ZzN (φ, H) = stp (some 3) φ H (opBox (B + 3) (zeroCells E.T 76)) := nf
def Zki := kR ZjY
def ZF8 := kL Zki
def Z4z := kO ZF8
def ZwM := opN Z4z 0
def ZAy := opN Z4z 1
def ZxB := opN Z4z 2
theorem Z0m1 : XG 82 8 ZF8 Z4z [0, 4, 5, 6] := Z1 (by rfl) (by rfl) _
theorem ZYG : Z4z.toList = [ZwM, ZAy, ZxB] := nf
theorem ZZ5 : stepA E C B 8 Z4z ZwM (φ, H) = stp (some 4) φ H (just (aSlice E.T 76 (fget φ 3) none none none)) := nf
theorem ZXk : stepA E C B 8 Z4z ZAy (φ, H) = some (fput φ 5 (fget φ 0), H) := nf
theorem ZXD : stepA E C B 8 Z4z ZxB (φ, H) = stp (some 6) φ H (Z4 E.T (B + 6) .copy #[22, 22] [(fget φ 4), (fget φ 5)]) := nf
def Zj7 := kR Zki
def ZEF := kL Zj7
def Z72 := kO ZEF
def Zwb := opN Z72 0
def ZBK := opN Z72 1
theorem Z0ld : XG 82 8 ZEF Z72 [3, 7] := Z1 (by rfl) (by rfl) _
theorem Z0aq : Z72.toList = [Zwb, ZBK] := nf
theorem Z09W : stepA E C B 8 Z72 Zwb (φ, H) = stp (some 7) φ H (just (aLoad E.T 76 (fget φ 3))) := nf
theorem Z070 : stepA E C B 8 Z72 ZBK (φ, H) = stp none φ H (opStore E.T 76 (fget φ 2) (fget φ 7)) := nf
def ZWB := kR Zj7
theorem Z0n0 : execA E C (fg 82) B 8 E0 N ZWB s = some (.ret, s) := Zq (by rfl) s
theorem Z0kE : XQ 82 8 Zj7 ZEF ZWB := Z0 (by rfl) _
theorem Z0kM : XQ 82 8 Zki ZF8 Zj7 := Z0 (by rfl) _
theorem Z0mk : XQ 82 8 ZjY ZEK Zki := Z0 (by rfl) _
theorem Z0lA : XQ 82 8 Zbe ZEC ZjY := Z0 (by rfl) _
theorem Z0jn : fInfo E 82 = some ⟨8, #[.cell 2 76], Zbe⟩ := nf
theorem b_82 (args : List AV) : bodyA E C fg N 82 args H B = bodyX E [.cell 2 76] (execA E C (fg 82) B 8 H N Zbe (Z8 args 0 [], H)) := Zt Z0jn args H
abbrev F_82 := And.intro (And.intro (And.intro (And.intro @Z0mf @Z00O) (And.intro @Z02h (And.intro @Z0ky @Z01t))) (And.intro (And.intro @ZYP @Z0m1) (And.intro @ZYG (And.intro @ZZ5 @ZXk)))) (And.intro (And.intro (And.intro @ZXD @Z0ld) (And.intro @Z0aq (And.intro @Z09W @Z070))) (And.intro (And.intro @Z0n0 (And.intro @Z0kE @Z0kM)) (And.intro @Z0mk (And.intro @Z0lA @b_82))))
def Z5Q := kBody Proofs.Try.f114
def Zoo := kL Z5Q
def Znp := kB Zoo
def Z5K := kB Znp
def Zcs := kL Z5K
def Zrp := kL Zcs
def Zp := kO Zrp
def Zu3 := opN Zp 0
def Zuh := opN Zp 1
def Zsf := opN Zp 2
def Z0l := opN Zp 3
def Zlf := opN Zp 4
def Zqr := opN Zp 5
def Zlj := opN Zp 6
def ZoP := opN Zp 7
def Zna := opN Zp 8
def ZnZ := opN Zp 9
def Zf0 := opN Zp 10
def Zfq := opN Zp 11
def Zgo := opN Zp 12
def Zff := opN Zp 13
def ZeN := opN Zp 14
def Zga := opN Zp 15
def ZfP := opN Zp 16
theorem Z0bW : XD 114 59 Zrp Zp [6, 7, 8, 9, 10, 11, 12, 13, 14, 15, 16, 17, 18, 19, 20, 21] := Z0h (by rfl) (by rfl) _
theorem ZQ9 : Zp.toList = [Zu3, Zuh, Zsf, Z0l, Zlf, Zqr, Zlj, ZoP, Zna, ZnZ, Zf0, Zfq, Zgo, Zff, ZeN, Zga, ZfP] := nf
theorem ZGP : statOk Zp = true := by kernel_rfl
theorem ZKr : drawA E C B 59 Zp s = if neat 59 s = true then drX Zp (runT E C B 59 Zp Zp.toList 0 s) else none := Z00 ZGP s
theorem ZJS (l : List (Nat × Tr)) : dynOk Zp l = (!writing l || Za [[], [0], [0, 1], [0, 1, 2], [0, 1, 2, 3], [0, 1, 2, 3], [0, 1, 2, 3, 5], [0, 1, 2, 3, 4], [0, 1, 2, 3, 4, 5, 6, 7], [0, 1, 2, 3, 4, 5, 6, 7, 8], [0, 1, 2, 3], [0, 1, 2, 3], [0, 1, 2, 3, 10], [0, 1, 2, 3, 10, 11, 12], [0, 1, 2, 3, 10, 11, 12, 13], [0, 1, 2, 3, 4, 5, 6, 7, 8, 9, 10, 11, 12, 13, 14], [0, 1, 2, 3, 4, 5, 6, 7, 8, 9, 10, 11, 12, 13, 14, 15]] (Z9 l)) := ZQ (by kernel_rfl) l
theorem ZRs : stepT E C B 59 Zp Zu3 (φ, H) = some ((fput φ 6 (fget φ 1), H), ⟨false, [], []⟩) := Z3 rfl (Z7 rfl rfl)
theorem ZP0 : stepT E C B 59 Zp Zuh (φ, H) = stpT (some 7) φ H (just (aBin E.T .add 3 (fget φ 6) (.int .i64 1))) := Z3 rfl (Z5 rfl rfl)
theorem ZOF : stepT E C B 59 Zp Zsf (φ, H) = stpT (some 8) φ H (just (aBin E.T .lss 3 (fget φ 7) (.int .i64 6))) := Z3 rfl (Z5 rfl rfl)
theorem ZVw : stepT E C B 59 Zp Z0l (φ, H) = some ((fput φ 9 (fget φ 8), H), ⟨false, [], []⟩) := Z3 rfl (Z7 rfl rfl)
theorem ZPO : stepT E C B 59 Zp Zlf (φ, H) = gdT φ 9 true (fun φ => (some (fput φ 10 (.tup []), H)).map fun s => (s, ⟨false, [], []⟩)) (fun φ => some ((fput φ 10 (fget φ 0), H), ⟨false, [], []⟩)) := Zb (j := 3) (oj := Z0l) rfl rfl rfl (fun _ => rfl) (fun _ => Z7 rfl rfl)
theorem ZTw : stepT E C B 59 Zp Zqr (φ, H) = gdT φ 9 true (fun φ => (some (fput φ 11 (.tup []), H)).map fun s => (s, ⟨false, [], []⟩)) (fun φ => some ((fput φ 11 (fget φ 1), H), ⟨false, [], []⟩)) := Zb (j := 3) (oj := Z0l) rfl rfl rfl (fun _ => rfl) (fun _ => Z7 rfl rfl)
theorem ZSs : stepT E C B 59 Zp Zlj (φ, H) = gdT φ 9 true (fun φ => (some (fput φ 12 (.tup []), H)).map fun s => (s, ⟨false, [], []⟩)) (fun φ => stpT (some 12) φ H (just (aBin E.T .add 3 (fget φ 11) (.int .i64 1)))) := Zb (j := 3) (oj := Z0l) rfl rfl rfl (fun _ => rfl) (fun _ => Z5 rfl rfl)
theorem ZQC : stepT E C B 59 Zp ZoP (φ, H) = gdT φ 9 true (fun φ => (some (fput φ 13 (.tup []), H)).map fun s => (s, ⟨false, [], []⟩)) (fun φ => stpT (some 13) φ H (opNil (fget φ 10))) := Zb (j := 3) (oj := Z0l) rfl rfl rfl (fun _ => rfl) (fun _ => Z5 rfl rfl)
theorem ZTS : stepT E C B 59 Zp Zna (φ, H) = gdT φ 9 true (fun φ => (some (fput φ 14 (.tup []), H)).map fun s => (s, ⟨false, [], []⟩)) (fun φ => stpT (some 14) φ H (just (Z2 E.T 76 (fget φ 13) (fget φ 12)))) := Zb (j := 3) (oj := Z0l) rfl rfl rfl (fun _ => rfl) (fun _ => Z5 rfl rfl)
theorem ZQT : stepT E C B 59 Zp ZnZ (φ, H) = gdT φ 9 true (fun φ => (some (fput φ 15 (.tup []), H)).map fun s => (s, ⟨false, [], []⟩)) (fun φ => stpT (some 15) φ H (just (aLoad E.T 3 (fget φ 14)))) := Zb (j := 3) (oj := Z0l) rfl rfl rfl (fun _ => rfl) (fun _ => Z5 rfl rfl)
theorem ZIV : stepT E C B 59 Zp Zf0 (φ, H) = gdT φ 9 true (fun φ => (some (fput φ 16 (.tup []), H)).map fun s => (s, ⟨false, [], []⟩)) (fun φ => some ((fput φ 16 (fget φ 0), H), ⟨false, [], []⟩)) := Zb (j := 3) (oj := Z0l) rfl rfl rfl (fun _ => rfl) (fun _ => Z7 rfl rfl)
theorem ZIJ : stepT E C B 59 Zp Zfq (φ, H) = gdT φ 9 true (fun φ => (some (fput φ 17 (.tup []), H)).map fun s => (s, ⟨false, [], []⟩)) (fun φ => some ((fput φ 17 (fget φ 1), H), ⟨false, [], []⟩)) := Zb (j := 3) (oj := Z0l) rfl rfl rfl (fun _ => rfl) (fun _ => Z7 rfl rfl)
theorem ZGD : stepT E C B 59 Zp Zgo (φ, H) = gdT φ 9 true (fun φ => (some (fput φ 18 (.tup []), H)).map fun s => (s, ⟨false, [], []⟩)) (fun φ => stpT (some 18) φ H (opNil (fget φ 16))) := Zb (j := 3) (oj := Z0l) rfl rfl rfl (fun _ => rfl) (fun _ => Z5 rfl rfl)
theorem ZGC : stepT E C B 59 Zp Zff (φ, H) = gdT φ 9 true (fun φ => (some (fput φ 19 (.tup []), H)).map fun s => (s, ⟨false, [], []⟩)) (fun φ => stpT (some 19) φ H (just (Z2 E.T 76 (fget φ 18) (fget φ 17)))) := Zb (j := 3) (oj := Z0l) rfl rfl rfl (fun _ => rfl) (fun _ => Z5 rfl rfl)
theorem ZFK : stepT E C B 59 Zp ZeN (φ, H) = gdT φ 9 true (fun φ => (some (fput φ 20 (.tup []), H)).map fun s => (s, ⟨false, [], []⟩)) (fun φ => stpT (some 20) φ H (just (aLoad E.T 3 (fget φ 19)))) := Zb (j := 3) (oj := Z0l) rfl rfl rfl (fun _ => rfl) (fun _ => Z5 rfl rfl)
theorem ZLe : stepT E C B 59 Zp Zga (φ, H) = gdT φ 9 true (fun φ => (some (fput φ 21 (.tup []), H)).map fun s => (s, ⟨false, [], []⟩)) (fun φ => stpT (some 21) φ H (just (aBin E.T .eql 3 (fget φ 15) (fget φ 20)))) := Zb (j := 3) (oj := Z0l) rfl rfl rfl (fun _ => rfl) (fun _ => Z5 rfl rfl)
theorem ZLK : stepT E C B 59 Zp ZfP (φ, H) = stpT (some 22) φ H (opPick (fget φ 9) (fget φ 21) (.bool false)) := Z3 rfl (Z5 rfl rfl)
def Zab := kR Zcs
def ZLP := kT Zab
theorem Z0f0 : execA E C (fg 114) B 59 E0 N ZLP s = some (.normal, s) := Zh (by rfl) s
def ZHL := kE Zab
theorem Z0hd : execA E C (fg 114) B 59 E0 N ZHL s = some (.exit 0, s) := ZI (by rfl) s
theorem Z0gW : XC 114 59 Zab 22 ZLP ZHL := Zf (by rfl) _
theorem Z0bn : XQ 114 59 Zcs Zrp Zab := Z0 (by rfl) _
def Zq0 := kR Z5K
def Zdu := kB Zq0
def Z32 := kO Zdu
def Zt7 := opN Z32 0
def ZlL := opN Z32 1
def ZoC := opN Z32 2
theorem ZZC : XG 114 59 Zdu Z32 [22, 23, 24] := Z1 (by rfl) (by rfl) _
theorem ZQq : Z32.toList = [Zt7, ZlL, ZoC] := nf
theorem ZSG : stepA E C B 59 Z32 Zt7 (φ, H) = some (fput φ 23 (fget φ 1), H) := nf
theorem ZTJ : stepA E C B 59 Z32 ZlL (φ, H) = stp (some 24) φ H (just (aBin E.T .add 3 (fget φ 23) (.int .i64 1))) := nf
theorem ZRf : stepA E C B 59 Z32 ZoC (φ, H) = some (fput φ 1 (fget φ 24), H) := nf
theorem Z0gd : execA E C (fg 114) B 59 E0 N Zq0 s = blockX 1 (fun s => (forget s.1 [], s.2)) (execA E C (fg 114) B 59 E0 N Zdu s) := Ze (by rfl) (by rfl) s
theorem Z0en : XQ 114 59 Z5K Zcs Zq0 := Z0 (by rfl) _
theorem Z0ef : execA E C (fg 114) B 59 E0 N Znp s = iterA (execA E C (fg 114) B 59 E0 N Z5K) (headA E0) N s := ZV (by rfl) s
theorem Z0cQ : execA E C (fg 114) B 59 E0 N Zoo s = blockX 0 (fun s => (forget s.1 [22], s.2)) (execA E C (fg 114) B 59 E0 N Znp s) := Ze (by rfl) (by rfl) s
def Z6v := kR Z5Q
def ZdE := kL Z6v
def Zdj := kB ZdE
def Z4K := kB Zdj
def Z80 := kL Z4K
def ZdD := kL Z80
def Zr := kO ZdD
def ZrF := opN Zr 0
def ZmN := opN Zr 1
def Z0g := opN Zr 2
def ZnP := opN Zr 3
def Znh := opN Zr 4
def Ztp := opN Zr 5
def Zlk := opN Zr 6
def Zmq := opN Zr 7
def ZrC := opN Zr 8
def Zkr := opN Zr 9
def Zg1 := opN Zr 10
def Zid := opN Zr 11
def ZeU := opN Zr 12
def Zf4 := opN Zr 13
def Zg0 := opN Zr 14
def ZgC := opN Zr 15
theorem Z08c : XD 114 59 ZdD Zr [25, 26, 27, 28, 29, 30, 31, 32, 33, 34, 35, 36, 37, 38, 39] := Z0h (by rfl) (by rfl) _
theorem ZVc : Zr.toList = [ZrF, ZmN, Z0g, ZnP, Znh, Ztp, Zlk, Zmq, ZrC, Zkr, Zg1, Zid, ZeU, Zf4, Zg0, ZgC] := nf
theorem ZK0 : statOk Zr = true := by kernel_rfl
theorem ZIS : drawA E C B 59 Zr s = if neat 59 s = true then drX Zr (runT E C B 59 Zr Zr.toList 0 s) else none := Z00 ZK0 s
theorem ZJw (l : List (Nat × Tr)) : dynOk Zr l = (!writing l || Za [[], [0], [0, 1], [0, 1, 2], [0, 1, 2], [0, 1, 2, 4], [0, 1, 2, 3], [0, 1, 2, 3, 4, 5, 6], [0, 1, 2, 3, 4, 5, 6, 7], [0, 1, 2], [0, 1, 2], [0, 1, 2, 9], [0, 1, 2, 9, 10, 11], [0, 1, 2, 9, 10, 11, 12], [0, 1, 2, 3, 4, 5, 6, 7, 8, 9, 10, 11, 12, 13], [0, 1, 2, 3, 4, 5, 6, 7, 8, 9, 10, 11, 12, 13, 14]] (Z9 l)) := ZQ (by kernel_rfl) l
theorem ZUO : stepT E C B 59 Zr ZrF (φ, H) = some ((fput φ 25 (fget φ 2), H), ⟨false, [], []⟩) := Z3 rfl (Z7 rfl rfl)
theorem ZSS : stepT E C B 59 Zr ZmN (φ, H) = stpT (some 26) φ H (just (aBin E.T .gtr 3 (fget φ 25) (.int .i64 0))) := Z3 rfl (Z5 rfl rfl)
theorem ZSj : stepT E C B 59 Zr Z0g (φ, H) = some ((fput φ 27 (fget φ 26), H), ⟨false, [], []⟩) := Z3 rfl (Z7 rfl rfl)
theorem ZOJ : stepT E C B 59 Zr ZnP (φ, H) = gdT φ 27 true (fun φ => (some (fput φ 28 (.tup []), H)).map fun s => (s, ⟨false, [], []⟩)) (fun φ => some ((fput φ 28 (fget φ 0), H), ⟨false, [], []⟩)) := Zb (j := 2) (oj := Z0g) rfl rfl rfl (fun _ => rfl) (fun _ => Z7 rfl rfl)
theorem ZO7 : stepT E C B 59 Zr Znh (φ, H) = gdT φ 27 true (fun φ => (some (fput φ 29 (.tup []), H)).map fun s => (s, ⟨false, [], []⟩)) (fun φ => some ((fput φ 29 (fget φ 2), H), ⟨false, [], []⟩)) := Zb (j := 2) (oj := Z0g) rfl rfl rfl (fun _ => rfl) (fun _ => Z7 rfl rfl)
theorem ZQr : stepT E C B 59 Zr Ztp (φ, H) = gdT φ 27 true (fun φ => (some (fput φ 30 (.tup []), H)).map fun s => (s, ⟨false, [], []⟩)) (fun φ => stpT (some 30) φ H (just (aBin E.T .sub 3 (fget φ 29) (.int .i64 1)))) := Zb (j := 2) (oj := Z0g) rfl rfl rfl (fun _ => rfl) (fun _ => Z5 rfl rfl)
theorem ZRR : stepT E C B 59 Zr Zlk (φ, H) = gdT φ 27 true (fun φ => (some (fput φ 31 (.tup []), H)).map fun s => (s, ⟨false, [], []⟩)) (fun φ => stpT (some 31) φ H (opNil (fget φ 28))) := Zb (j := 2) (oj := Z0g) rfl rfl rfl (fun _ => rfl) (fun _ => Z5 rfl rfl)
theorem ZWf : stepT E C B 59 Zr Zmq (φ, H) = gdT φ 27 true (fun φ => (some (fput φ 32 (.tup []), H)).map fun s => (s, ⟨false, [], []⟩)) (fun φ => stpT (some 32) φ H (just (Z2 E.T 76 (fget φ 31) (fget φ 30)))) := Zb (j := 2) (oj := Z0g) rfl rfl rfl (fun _ => rfl) (fun _ => Z5 rfl rfl)
theorem ZND : stepT E C B 59 Zr ZrC (φ, H) = gdT φ 27 true (fun φ => (some (fput φ 33 (.tup []), H)).map fun s => (s, ⟨false, [], []⟩)) (fun φ => stpT (some 33) φ H (just (aLoad E.T 3 (fget φ 32)))) := Zb (j := 2) (oj := Z0g) rfl rfl rfl (fun _ => rfl) (fun _ => Z5 rfl rfl)
theorem ZVP : stepT E C B 59 Zr Zkr (φ, H) = gdT φ 27 true (fun φ => (some (fput φ 34 (.tup []), H)).map fun s => (s, ⟨false, [], []⟩)) (fun φ => some ((fput φ 34 (fget φ 0), H), ⟨false, [], []⟩)) := Zb (j := 2) (oj := Z0g) rfl rfl rfl (fun _ => rfl) (fun _ => Z7 rfl rfl)
theorem ZJF : stepT E C B 59 Zr Zg1 (φ, H) = gdT φ 27 true (fun φ => (some (fput φ 35 (.tup []), H)).map fun s => (s, ⟨false, [], []⟩)) (fun φ => some ((fput φ 35 (fget φ 2), H), ⟨false, [], []⟩)) := Zb (j := 2) (oj := Z0g) rfl rfl rfl (fun _ => rfl) (fun _ => Z7 rfl rfl)
theorem ZLx : stepT E C B 59 Zr Zid (φ, H) = gdT φ 27 true (fun φ => (some (fput φ 36 (.tup []), H)).map fun s => (s, ⟨false, [], []⟩)) (fun φ => stpT (some 36) φ H (opNil (fget φ 34))) := Zb (j := 2) (oj := Z0g) rfl rfl rfl (fun _ => rfl) (fun _ => Z5 rfl rfl)
theorem ZKp : stepT E C B 59 Zr ZeU (φ, H) = gdT φ 27 true (fun φ => (some (fput φ 37 (.tup []), H)).map fun s => (s, ⟨false, [], []⟩)) (fun φ => stpT (some 37) φ H (just (Z2 E.T 76 (fget φ 36) (fget φ 35)))) := Zb (j := 2) (oj := Z0g) rfl rfl rfl (fun _ => rfl) (fun _ => Z5 rfl rfl)
theorem ZIZ : stepT E C B 59 Zr Zf4 (φ, H) = gdT φ 27 true (fun φ => (some (fput φ 38 (.tup []), H)).map fun s => (s, ⟨false, [], []⟩)) (fun φ => stpT (some 38) φ H (just (aLoad E.T 3 (fget φ 37)))) := Zb (j := 2) (oj := Z0g) rfl rfl rfl (fun _ => rfl) (fun _ => Z5 rfl rfl)
theorem ZJ7 : stepT E C B 59 Zr Zg0 (φ, H) = gdT φ 27 true (fun φ => (some (fput φ 39 (.tup []), H)).map fun s => (s, ⟨false, [], []⟩)) (fun φ => stpT (some 39) φ H (just (aBin E.T .eql 3 (fget φ 33) (fget φ 38)))) := Zb (j := 2) (oj := Z0g) rfl rfl rfl (fun _ => rfl) (fun _ => Z5 rfl rfl)
theorem ZHt : stepT E C B 59 Zr ZgC (φ, H) = stpT (some 40) φ H (opPick (fget φ 27) (fget φ 39) (.bool false)) := Z3 rfl (Z5 rfl rfl)
def Z7F := kR Z80
def ZD5 := kT Z7F
theorem Z09A : execA E C (fg 114) B 59 E0 N ZD5 s = some (.normal, s) := Zh (by rfl) s
def ZAQ := kE Z7F
theorem ZXZ : execA E C (fg 114) B 59 E0 N ZAQ s = some (.exit 2, s) := ZI (by rfl) s
theorem Z06J : XC 114 59 Z7F 40 ZD5 ZAQ := Zf (by rfl) _
theorem Z00t : XQ 114 59 Z80 ZdD Z7F := Z0 (by rfl) _
def Zeg := kR Z4K
def Zdn := kB Zeg
def Z3f := kO Zdn
def ZuA := opN Z3f 0
def Zuc := opN Z3f 1
def Zsi := opN Z3f 2
theorem ZYx : XG 114 59 Zdn Z3f [40, 41, 42] := Z1 (by rfl) (by rfl) _
theorem ZQp : Z3f.toList = [ZuA, Zuc, Zsi] := nf
theorem ZSF : stepA E C B 59 Z3f ZuA (φ, H) = some (fput φ 41 (fget φ 2), H) := nf
theorem ZRy : stepA E C B 59 Z3f Zuc (φ, H) = stp (some 42) φ H (just (aBin E.T .sub 3 (fget φ 41) (.int .i64 1))) := nf
theorem ZVn : stepA E C B 59 Z3f Zsi (φ, H) = some (fput φ 2 (fget φ 42), H) := nf
theorem ZZr : execA E C (fg 114) B 59 E0 N Zeg s = blockX 3 (fun s => (forget s.1 [], s.2)) (execA E C (fg 114) B 59 E0 N Zdn s) := Ze (by rfl) (by rfl) s
theorem Z00U : XQ 114 59 Z4K Z80 Zeg := Z0 (by rfl) _
theorem Z098 : execA E C (fg 114) B 59 E0 N Zdj s = iterA (execA E C (fg 114) B 59 E0 N Z4K) (headA E0) N s := ZV (by rfl) s
theorem ZZ1 : execA E C (fg 114) B 59 E0 N ZdE s = blockX 2 (fun s => (forget s.1 [40], s.2)) (execA E C (fg 114) B 59 E0 N Zdj s) := Ze (by rfl) (by rfl) s
def Z6P := kR Z6v
def Zd4 := kL Z6P
def ZL := kO Zd4
def Zkq := opN ZL 0
def Zlq := opN ZL 1
def ZqO := opN ZL 2
def ZtY := opN ZL 3
def Zlw := opN ZL 4
def ZlX := opN ZL 5
def Zou := opN ZL 6
def Zsy := opN ZL 7
def Zrc := opN ZL 8
theorem Z00R : XD 114 59 Zd4 ZL [1, 43, 44, 45, 46, 47, 48, 49, 50] := Z0h (by rfl) (by rfl) _
theorem ZP7 : ZL.toList = [Zkq, Zlq, ZqO, ZtY, Zlw, ZlX, Zou, Zsy, Zrc] := nf
theorem ZGj : statOk ZL = true := by kernel_rfl
theorem ZFR : drawA E C B 59 ZL s = if neat 59 s = true then drX ZL (runT E C B 59 ZL ZL.toList 0 s) else none := Z00 ZGj s
theorem ZHC (l : List (Nat × Tr)) : dynOk ZL l = (!writing l || Za [[], [], [0], [0, 1, 2], [0, 1, 2, 3], [0, 1, 2, 3, 4], [0], [0, 1, 2, 3, 4, 5, 6], [0, 1, 2, 3, 4, 5, 6, 7]] (Z9 l)) := ZQ (by kernel_rfl) l
theorem ZQn : stepT E C B 59 ZL Zkq (φ, H) = some ((fput φ 43 (fget φ 0), H), ⟨false, [], []⟩) := Z3 rfl (Z7 rfl rfl)
theorem ZNe : stepT E C B 59 ZL Zlq (φ, H) = some ((fput φ 44 (fget φ 1), H), ⟨false, [], []⟩) := Z3 rfl (Z7 rfl rfl)
theorem ZT5 : stepT E C B 59 ZL ZqO (φ, H) = stpT (some 45) φ H (opNil (fget φ 43)) := Z3 rfl (Z5 rfl rfl)
theorem ZV3 : stepT E C B 59 ZL ZtY (φ, H) = stpT (some 46) φ H (just (Z2 E.T 76 (fget φ 45) (fget φ 44))) := Z3 rfl (Z5 rfl rfl)
theorem ZVa : stepT E C B 59 ZL Zlw (φ, H) = stpT (some 47) φ H (just (aLoad E.T 3 (fget φ 46))) := Z3 rfl (Z5 rfl rfl)
theorem ZTe : stepT E C B 59 ZL ZlX (φ, H) = stpT (some 48) φ H (just (aBin E.T .sub 3 (fget φ 47) (.int .i64 1))) := Z3 rfl (Z5 rfl rfl)
theorem ZTn : stepT E C B 59 ZL Zou (φ, H) = stpT (some 49) φ H (opNil (fget φ 43)) := Z3 rfl (Z5 rfl rfl)
theorem ZS2 : stepT E C B 59 ZL Zsy (φ, H) = stpT (some 50) φ H (just (Z2 E.T 76 (fget φ 49) (fget φ 44))) := Z3 rfl (Z5 rfl rfl)
theorem ZQ7 : stepT E C B 59 ZL Zrc (φ, H) = stpT none φ H (opStore E.T 3 (fget φ 50) (fget φ 48)) := Z3 rfl (Z5 rfl rfl)
def ZdT := kR Z6P
def ZM := kO ZdT
def Zqk := opN ZM 0
def ZsR := opN ZM 1
def ZnV := opN ZM 2
def Zox := opN ZM 3
def Zsq := opN ZM 4
def Zuv := opN ZM 5
def ZuC := opN ZM 6
def Zpo := opN ZM 7
def Zsc := opN ZM 8
theorem Z08S : XD 114 59 ZdT ZM [0, 2, 51, 52, 53, 54, 55, 56, 57, 58] := Z0h (by rfl) (by rfl) _
theorem ZTi : ZM.toList = [Zqk, ZsR, ZnV, Zox, Zsq, Zuv, ZuC, Zpo, Zsc] := nf
theorem ZGV : statOk ZM = true := by kernel_rfl
theorem ZMr : drawA E C B 59 ZM s = if neat 59 s = true then drX ZM (runT E C B 59 ZM ZM.toList 0 s) else none := Z00 ZGV s
theorem ZHF (l : List (Nat × Tr)) : dynOk ZM l = (!writing l || Za [[], [], [0], [0, 1, 2], [0, 1, 2, 3], [0, 1, 2, 3, 4], [0], [0, 1, 2, 3, 4, 5, 6], [0, 1, 2, 3, 4, 5, 6, 7]] (Z9 l)) := ZQ (by kernel_rfl) l
theorem ZQt : stepT E C B 59 ZM Zqk (φ, H) = some ((fput φ 51 (fget φ 0), H), ⟨false, [], []⟩) := Z3 rfl (Z7 rfl rfl)
theorem ZQh : stepT E C B 59 ZM ZsR (φ, H) = some ((fput φ 52 (fget φ 2), H), ⟨false, [], []⟩) := Z3 rfl (Z7 rfl rfl)
theorem ZSM : stepT E C B 59 ZM ZnV (φ, H) = stpT (some 53) φ H (opNil (fget φ 51)) := Z3 rfl (Z5 rfl rfl)
theorem ZVm : stepT E C B 59 ZM Zox (φ, H) = stpT (some 54) φ H (just (Z2 E.T 76 (fget φ 53) (fget φ 52))) := Z3 rfl (Z5 rfl rfl)
theorem ZRY : stepT E C B 59 ZM Zsq (φ, H) = stpT (some 55) φ H (just (aLoad E.T 3 (fget φ 54))) := Z3 rfl (Z5 rfl rfl)
theorem ZSC : stepT E C B 59 ZM Zuv (φ, H) = stpT (some 56) φ H (just (aBin E.T .add 3 (fget φ 55) (.int .i64 1))) := Z3 rfl (Z5 rfl rfl)
theorem ZSm : stepT E C B 59 ZM ZuC (φ, H) = stpT (some 57) φ H (opNil (fget φ 51)) := Z3 rfl (Z5 rfl rfl)
theorem ZT1 : stepT E C B 59 ZM Zpo (φ, H) = stpT (some 58) φ H (just (Z2 E.T 76 (fget φ 57) (fget φ 52))) := Z3 rfl (Z5 rfl rfl)
theorem ZSt : stepT E C B 59 ZM Zsc (φ, H) = stpT none φ H (opStore E.T 3 (fget φ 58) (fget φ 56)) := Z3 rfl (Z5 rfl rfl)
theorem ZWY : XQ 114 59 Z6P Zd4 ZdT := Z0 (by rfl) _
theorem Z06Q : XQ 114 59 Z6v ZdE Z6P := Z0 (by rfl) _
theorem Z0gD : XQ 114 59 Z5Q Zoo Z6v := Z0 (by rfl) _
theorem Z0ea : fInfo E 114 = some ⟨59, #[], Z5Q⟩ := nf
theorem Z0nk (args : List AV) : bodyA E C fg N 114 args H B = bodyX E [] (execA E C (fg 114) B 59 H N Z5Q (Z8 args 0 [], H)) := Zt Z0ea args H
abbrev Z5f := And.intro (And.intro (And.intro (And.intro (And.intro (And.intro @Z0bW (And.intro @ZQ9 @ZKr)) (And.intro @ZJS (And.intro @ZRs @ZP0))) (And.intro (And.intro @ZOF (And.intro @ZVw @ZPO)) (And.intro @ZTw (And.intro @ZSs @ZQC)))) (And.intro (And.intro (And.intro @ZTS (And.intro @ZQT @ZIV)) (And.intro @ZIJ (And.intro @ZGD @ZGC))) (And.intro (And.intro @ZFK (And.intro @ZLe @ZLK)) (And.intro @Z0f0 (And.intro @Z0hd @Z0gW))))) (And.intro (And.intro (And.intro (And.intro @Z0bn (And.intro @ZZC @ZQq)) (And.intro @ZSG (And.intro @ZTJ @ZRf))) (And.intro (And.intro @Z0gd (And.intro @Z0en @Z0ef)) (And.intro @Z0cQ (And.intro @Z08c @ZVc)))) (And.intro (And.intro (And.intro @ZIS (And.intro @ZJw @ZUO)) (And.intro @ZSS (And.intro @ZSj @ZOJ))) (And.intro (And.intro @ZO7 (And.intro @ZQr @ZRR)) (And.intro @ZWf (And.intro @ZND @ZVP)))))) (And.intro (And.intro (And.intro (And.intro (And.intro @ZJF (And.intro @ZLx @ZKp)) (And.intro @ZIZ (And.intro @ZJ7 @ZHt))) (And.intro (And.intro @Z09A (And.intro @ZXZ @Z06J)) (And.intro @Z00t (And.intro @ZYx @ZQp)))) (And.intro (And.intro (And.intro @ZSF (And.intro @ZRy @ZVn)) (And.intro @ZZr (And.intro @Z00U @Z098))) (And.intro (And.intro @ZZ1 (And.intro @Z00R @ZP7)) (And.intro @ZFR (And.intro @ZHC @ZQn))))) (And.intro (And.intro (And.intro (And.intro @ZNe (And.intro @ZT5 @ZV3)) (And.intro @ZVa (And.intro @ZTe @ZTn))) (And.intro (And.intro @ZS2 (And.intro @ZQ7 @Z08S)) (And.intro @ZTi (And.intro @ZMr @ZHF)))) (And.intro (And.intro (And.intro @ZQt (And.intro @ZQh @ZSM)) (And.intro @ZVm (And.intro @ZRY @ZSC))) (And.intro (And.intro @ZSm (And.intro @ZT1 @ZSt)) (And.intro (And.intro @ZWY @Z06Q) (And.intro @Z0gD @Z0nk))))))
def ZcT := kBody Proofs.Try.f83
def ZDP := kL ZcT
def Z7u := kO ZDP
def ZC0 := opN Z7u 0
def Zyo := opN Z7u 1
theorem Z0mi : XG 83 22 ZDP Z7u [0, 8] := Z1 (by rfl) (by rfl) _
theorem Z04e : Z7u.toList = [ZC0, Zyo] := nf
theorem Z09H : stepA E C B 22 Z7u ZC0 (φ, H) = stp (some 4) φ H (opBox (B + 4) (acells (fget φ 0))) := nf
theorem ZZQ : stepA E C B 22 Z7u Zyo (φ, H) = some (fput φ 8 (.nilsl), H) := nf
def ZjF := kR ZcT
def ZED := kL ZjF
def Z78 := kO ZED
def ZzO := opN Z78 0
def Zz1 := opN Z78 1
theorem Z0kN : XG 83 22 ZED Z78 [11] := Z1 (by rfl) (by rfl) _
theorem Z024 : Z78.toList = [ZzO, Zz1] := nf
theorem Z03N : stepA E C B 22 Z78 ZzO (φ, H) = stp (some 11) φ H (opFunc (.func 114) [(fget φ 4)] []) := nf
theorem Z07R : stepA E C B 22 Z78 Zz1 (φ, H) = some (fput φ 9 (fget φ 11), H) := nf
def ZiR := kR ZjF
def ZEo := kL ZiR
def Z2S := kO ZEo
def Zz3 := opN Z2S 0
def Zw0 := opN Z2S 1
def ZyV := opN Z2S 2
def ZyD := opN Z2S 3
theorem Z0jj : XG 83 22 ZEo Z2S [2, 3, 9, 12, 13, 14, 15] := Z1 (by rfl) (by rfl) _
theorem ZX9 : Z2S.toList = [Zz3, Zw0, ZyV, ZyD] := nf
theorem Z00s : stepA E C B 22 Z2S Zz3 (φ, H) = some (fput φ 12 (fget φ 9), H) := nf
theorem Z025 : stepA E C B 22 Z2S Zw0 (φ, H) = some (fput φ 13 (fget φ 2), H) := nf
theorem Z06t : stepA E C B 22 Z2S ZyV (φ, H) = some (fput φ 14 (fget φ 3), H) := nf
theorem Z09R : stepA E C B 22 Z2S ZyD (φ, H) = callV E C (B + 22 * 8) (some 15) (fun j => B + j * 22 + 15) φ H (fget φ 12) [(fget φ 13), (fget φ 14)] true := nf
def ZiE := kR ZiR
def ZE2 := kL ZiE
def Z4o := kO ZE2
def ZAx := opN Z4o 0
def Zye := opN Z4o 1
def ZCl := opN Z4o 2
theorem Z0lE : XG 83 22 ZE2 Z4o [1, 16, 17] := Z1 (by rfl) (by rfl) _
theorem Z09T : Z4o.toList = [ZAx, Zye, ZCl] := nf
theorem Z04K : stepA E C B 22 Z4o ZAx (φ, H) = some (fput φ 16 (fget φ 1), H) := nf
theorem Z08Y : stepA E C B 22 Z4o Zye (φ, H) = stp (some 17) φ H (aMake E.T (B + 17) 22 (fget φ 16) (fget φ 16)) := nf
theorem Z05b : stepA E C B 22 Z4o ZCl (φ, H) = some (fput φ 10 (fget φ 17), H) := nf
def ZiC := kR ZiE
def ZDD := kL ZiC
def Z4m := kO ZDD
def ZCV := opN Z4m 0
def ZAM := opN Z4m 1
def Zz9 := opN Z4m 2
theorem Z0jp : XG 83 22 ZDD Z4m [4, 18, 19, 20] := Z1 (by rfl) (by rfl) _
theorem Z094 : Z4m.toList = [ZCV, ZAM, Zz9] := nf
theorem Z02W : stepA E C B 22 Z4m ZCV (φ, H) = some (fput φ 18 (fget φ 10), H) := nf
theorem ZYD : stepA E C B 22 Z4m ZAM (φ, H) = stp (some 19) φ H (just (aSlice E.T 76 (fget φ 4) none none none)) := nf
theorem Z06f : stepA E C B 22 Z4m Zz9 (φ, H) = stp (some 20) φ H (Z4 E.T (B + 20) .copy #[22, 22] [(fget φ 18), (fget φ 19)]) := nf
def Zav := kR ZiC
def ZpK := kL Zav
def Z6y := kO ZpK
def ZxN := opN Z6y 0
def ZAI := opN Z6y 1
theorem Z0fG : XG 83 22 ZpK Z6y [10, 21] := Z1 (by rfl) (by rfl) _
theorem Z07v : Z6y.toList = [ZxN, ZAI] := nf
theorem Z04d : stepA E C B 22 Z6y ZxN (φ, H) = some (fput φ 21 (fget φ 10), H) := nf
theorem Z09z : stepA E C B 22 Z6y ZAI (φ, H) = some (fput φ 8 (fget φ 21), H) := nf
def ZJP := kR Zav
theorem Z0eR : execA E C (fg 83) B 22 E0 N ZJP s = some (.ret, s) := Zq (by rfl) s
theorem Z0eg : XQ 83 22 Zav ZpK ZJP := Z0 (by rfl) _
theorem Z0j5 : XQ 83 22 ZiC ZDD Zav := Z0 (by rfl) _
theorem Z0iQ : XQ 83 22 ZiE ZE2 ZiC := Z0 (by rfl) _
theorem Z0lz : XQ 83 22 ZiR ZEo ZiE := Z0 (by rfl) _
theorem Z0mc : XQ 83 22 ZjF ZED ZiR := Z0 (by rfl) _
theorem Z0lF : XQ 83 22 ZcT ZDP ZjF := Z0 (by rfl) _
theorem Z0jV : fInfo E 83 = some ⟨22, #[.tmp 8], ZcT⟩ := nf
theorem b_83 (args : List AV) : bodyA E C fg N 83 args H B = bodyX E [.tmp 8] (execA E C (fg 83) B 22 H N ZcT (Z8 args 0 [], H)) := Zt Z0jV args H
abbrev F_83 := And.intro (And.intro (And.intro (And.intro (And.intro @Z0mi @Z04e) (And.intro @Z09H @ZZQ)) (And.intro (And.intro @Z0kN @Z024) (And.intro @Z03N (And.intro @Z07R @Z0jj)))) (And.intro (And.intro (And.intro @ZX9 @Z00s) (And.intro @Z025 @Z06t)) (And.intro (And.intro @Z09R @Z0lE) (And.intro @Z09T (And.intro @Z04K @Z08Y))))) (And.intro (And.intro (And.intro (And.intro @Z05b @Z0jp) (And.intro @Z094 @Z02W)) (And.intro (And.intro @ZYD @Z06f) (And.intro @Z0fG (And.intro @Z07v @Z04d)))) (And.intro (And.intro (And.intro @Z09z @Z0eR) (And.intro @Z0eg @Z0j5)) (And.intro (And.intro @Z0iQ @Z0lz) (And.intro @Z0mc (And.intro @Z0lF @b_83)))))
def ZaL := kBody Proofs.Try.f22
def ZDM := kL ZaL
def Z7k := kO ZDM
def ZxG := opN Z7k 0
def ZA4 := opN Z7k 1
theorem Z0lJ : XG 22 50 ZDM Z7k [6, 7] := Z1 (by rfl) (by rfl) _
theorem ZXA : Z7k.toList = [ZxG, ZA4] := nf
theorem Z05d : stepA E C B 50 Z7k ZxG (φ, H) = some (fput φ 6 (.nilsl), H) := nf
theorem ZZL : stepA E C B 50 Z7k ZA4 (φ, H) = some (fput φ 7 (.int .i64 0), H) := nf
def ZiI := kR ZaL
def ZEl := kL ZiI
def Z4d := kO ZEl
def ZCx := opN Z4d 0
def ZDr := opN Z4d 1
def Zzv := opN Z4d 2
theorem Z0ma : XG 22 50 ZEl Z4d [9, 10] := Z1 (by rfl) (by rfl) _
theorem Z05B : Z4d.toList = [ZCx, ZDr, Zzv] := nf
theorem ZYR : stepA E C B 50 Z4d ZCx (φ, H) = some (fput φ 9 (fget φ 0), H) := nf
theorem Z07z : stepA E C B 50 Z4d ZDr (φ, H) = stp (some 10) φ H (aCall C (fun j => B + j * 50 + 10) true 25 [(fget φ 9)]) := nf
theorem Z09r : stepA E C B 50 Z4d Zzv (φ, H) = some (fput φ 8 (fget φ 10), H) := nf
def ZiU := kR ZiI
def ZDx := kL ZiU
def ZjT := kB ZDx
def ZE1 := kL ZjT
def Z4w := kO ZE1
def ZyF := opN Z4w 0
def ZyG := opN Z4w 1
def ZvJ := opN Z4w 2
theorem Z0m6 : XG 22 50 ZE1 Z4w [12, 13] := Z1 (by rfl) (by rfl) _
theorem Z033 : Z4w.toList = [ZyF, ZyG, ZvJ] := nf
theorem Z09C : stepA E C B 50 Z4w ZyF (φ, H) = some (fput φ 12 (fget φ 8), H) := nf
theorem Z02g : stepA E C B 50 Z4w ZyG (φ, H) = stp (some 13) φ H (just (aBin E.T .neq 24 (fget φ 12) (.int .i64 0))) := nf
theorem Z03g : stepA E C B 50 Z4w ZvJ (φ, H) = some (fput φ 11 (fget φ 13), H) := nf
def ZiO := kR ZjT
def Zj0 := kT ZiO
def ZrN := kL Zj0
def Z4e := kO ZrN
def Zw4 := opN Z4e 0
def ZA5 := opN Z4e 1
def ZBJ := opN Z4e 2
theorem Z0cu : XG 22 50 ZrN Z4e [0, 1, 2, 8, 11, 14] := Z1 (by rfl) (by rfl) _
theorem Z04t : Z4e.toList = [Zw4, ZA5, ZBJ] := nf
theorem Z09g : stepA E C B 50 Z4e Zw4 (φ, H) = some (fput φ 14 (fget φ 8), H) := nf
theorem Z02e : stepA E C B 50 Z4e ZA5 (φ, H) = some (fput φ 6 (.nilsl), H) := nf
theorem Z09s : stepA E C B 50 Z4e ZBJ (φ, H) = some (fput φ 7 (fget φ 14), H) := nf
def ZN3 := kR Zj0
theorem Z0e0 : execA E C (fg 22) B 50 E0 N ZN3 s = some (.ret, s) := Zq (by rfl) s
theorem Z0mK : XQ 22 50 Zj0 ZrN ZN3 := Z0 (by rfl) _
def Z9P := kE ZiO
def ZoQ := kL Z9P
def ZX := kO ZoQ
def ZBN := opN ZX 0
def Zx5 := opN ZX 1
def ZCU := opN ZX 2
def ZDa := opN ZX 3
def Z2a := opN ZX 4
def ZwY := opN ZX 5
def ZAp := opN ZX 6
def ZB1 := opN ZX 7
def ZuR := opN ZX 8
def Zv8 := opN ZX 9
def Zoh := opN ZX 10
def Zub := opN ZX 11
def ZqC := opN ZX 12
theorem Z0eI : XG 22 50 ZoQ ZX [8, 11, 16, 17, 18, 19, 20, 21, 22, 23, 24, 25, 26, 27] := Z1 (by rfl) (by rfl) _
theorem Z08F : ZX.toList = [ZBN, Zx5, ZCU, ZDa, Z2a, ZwY, ZAp, ZB1, ZuR, Zv8, Zoh, Zub, ZqC] := nf
theorem Z06s : stepA E C B 50 ZX ZBN (φ, H) = some (fput φ 16 (fget φ 1), H) := nf
theorem ZX3 : stepA E C B 50 ZX Zx5 (φ, H) = some (fput φ 17 (fget φ 2), H) := nf
theorem Z088 : stepA E C B 50 ZX ZCU (φ, H) = stp (some 18) φ H (Z4 E.T (B + 18) .min #[3, 3] [(fget φ 16), (fget φ 17)]) := nf
theorem ZXX : stepA E C B 50 ZX ZDa (φ, H) = stp (some 19) φ H (just (aBin E.T .lss 3 (fget φ 18) (.int .i64 0))) := nf
theorem Z09a : stepA E C B 50 ZX Z2a (φ, H) = some (fput φ 20 (fget φ 19), H) := nf
theorem Z084 : stepA E C B 50 ZX ZwY (φ, H) = gd φ 20 false (fun φ => some (fput φ 21 (.tup []), H)) (fun φ => some (fput φ 21 (fget φ 1), H)) := s_gd (j := 4) (oj := Z2a) rfl rfl rfl (fun _ => rfl) (fun _ => rfl)
theorem Z09h : stepA E C B 50 ZX ZAp (φ, H) = gd φ 20 false (fun φ => some (fput φ 22 (.tup []), H)) (fun φ => some (fput φ 22 (fget φ 2), H)) := s_gd (j := 4) (oj := Z2a) rfl rfl rfl (fun _ => rfl) (fun _ => rfl)
theorem Z06r : stepA E C B 50 ZX ZB1 (φ, H) = gd φ 20 false (fun φ => some (fput φ 23 (.tup []), H)) (fun φ => stp (some 23) φ H (Z4 E.T (B + 23) .max #[3, 3] [(fget φ 21), (fget φ 22)])) := s_gd (j := 4) (oj := Z2a) rfl rfl rfl (fun _ => rfl) (fun _ => rfl)
theorem Z030 : stepA E C B 50 ZX ZuR (φ, H) = gd φ 20 false (fun φ => some (fput φ 24 (.tup []), H)) (fun φ => some (fput φ 24 (fget φ 0), H)) := s_gd (j := 4) (oj := Z2a) rfl rfl rfl (fun _ => rfl) (fun _ => rfl)
theorem Z02m : stepA E C B 50 ZX Zv8 (φ, H) = gd φ 20 false (fun φ => some (fput φ 25 (.tup []), H)) (fun φ => stp (some 25) φ H (Z4 E.T (B + 25) .len #[22] [(fget φ 24)])) := s_gd (j := 4) (oj := Z2a) rfl rfl rfl (fun _ => rfl) (fun _ => rfl)
theorem ZPp : stepA E C B 50 ZX Zoh (φ, H) = gd φ 20 false (fun φ => some (fput φ 26 (.tup []), H)) (fun φ => stp (some 26) φ H (just (aBin E.T .geq 3 (fget φ 23) (fget φ 25)))) := s_gd (j := 4) (oj := Z2a) rfl rfl rfl (fun _ => rfl) (fun _ => rfl)
theorem ZPy : stepA E C B 50 ZX Zub (φ, H) = stp (some 27) φ H (opPick (fget φ 20) (.bool true) (fget φ 26)) := nf
theorem ZNf : stepA E C B 50 ZX ZqC (φ, H) = some (fput φ 15 (fget φ 27), H) := nf
def Zcp := kR Z9P
def Z9a := kT Zcp
def Zt6 := kL Z9a
def Z76 := kO Zt6
def ZxY := opN Z76 0
def ZvX := opN Z76 1
theorem Z0g0 : XG 22 50 Zt6 Z76 [0, 1, 2, 15] := Z1 (by rfl) (by rfl) _
theorem Z008 : Z76.toList = [ZxY, ZvX] := nf
theorem Z097 : stepA E C B 50 Z76 ZxY (φ, H) = some (fput φ 6 (.nilsl), H) := nf
theorem Z0a9 : stepA E C B 50 Z76 ZvX (φ, H) = some (fput φ 7 (.int .i64 2), H) := nf
def ZJ1 := kR Z9a
theorem Z0hL : execA E C (fg 22) B 50 E0 N ZJ1 s = some (.ret, s) := Zq (by rfl) s
theorem Z0c3 : XQ 22 50 Z9a Zt6 ZJ1 := Z0 (by rfl) _
def ZbU := kE Zcp
def Zu9 := kL ZbU
def Z2N := kO Zu9
def ZBl := opN Z2N 0
def ZAw := opN Z2N 1
def ZD1 := opN Z2N 2
def ZvD := opN Z2N 3
theorem Z0fH : XG 22 50 Zu9 Z2N [15, 29, 30, 31] := Z1 (by rfl) (by rfl) _
theorem Z03c : Z2N.toList = [ZBl, ZAw, ZD1, ZvD] := nf
theorem Z02c : stepA E C B 50 Z2N ZBl (φ, H) = some (fput φ 29 (fget φ 1), H) := nf
theorem Z086 : stepA E C B 50 Z2N ZAw (φ, H) = some (fput φ 30 (fget φ 2), H) := nf
theorem Z0a0 : stepA E C B 50 Z2N ZD1 (φ, H) = stp (some 31) φ H (just (aBin E.T .geq 3 (fget φ 29) (fget φ 30))) := nf
theorem ZYo : stepA E C B 50 Z2N ZvD (φ, H) = some (fput φ 28 (fget φ 31), H) := nf
def ZbA := kR ZbU
def Z8Y := kT ZbA
def ZsL := kL Z8Y
def Z7n := kO ZsL
def ZCL := opN Z7n 0
def ZyX := opN Z7n 1
theorem Z0fr : XG 22 50 ZsL Z7n [0, 1, 2, 28] := Z1 (by rfl) (by rfl) _
theorem Z009 : Z7n.toList = [ZCL, ZyX] := nf
theorem ZY1 : stepA E C B 50 Z7n ZCL (φ, H) = some (fput φ 6 (.nilsl), H) := nf
theorem Z08D : stepA E C B 50 Z7n ZyX (φ, H) = some (fput φ 7 (.int .i64 7), H) := nf
def ZIu := kR Z8Y
theorem Z0bg : execA E C (fg 22) B 50 E0 N ZIu s = some (.ret, s) := Zq (by rfl) s
theorem Z0e5 : XQ 22 50 Z8Y ZsL ZIu := Z0 (by rfl) _
def ZaP := kE ZbA
def Ztv := kL ZaP
def ZS := kO Ztv
def ZvR := opN ZS 0
def ZCe := opN ZS 1
def Zyb := opN ZS 2
def ZyM := opN ZS 3
def Zzl := opN ZS 4
def ZB3 := opN ZS 5
def Zxh := opN ZS 6
def ZCc := opN ZS 7
def ZC4 := opN ZS 8
def ZAj := opN ZS 9
def Zlv := opN ZS 10
theorem Z0fD : XD 22 50 Ztv ZS [28, 33, 34, 35, 36, 37, 38, 39, 40, 41, 42] := Z0h (by rfl) (by rfl) _
theorem Z01j : ZS.toList = [ZvR, ZCe, Zyb, ZyM, Zzl, ZB3, Zxh, ZCc, ZC4, ZAj, Zlv] := nf
theorem ZSy : statOk ZS = true := by kernel_rfl
theorem ZSY : drawA E C B 50 ZS s = if neat 50 s = true then drX ZS (runT E C B 50 ZS ZS.toList 0 s) else none := Z00 ZSy s
theorem ZOK (l : List (Nat × Tr)) : dynOk ZS l = (!writing l || Za [[], [], [0, 1], [0, 1, 2], [], [], [4, 5], [4, 5, 6], [0, 1, 2, 3, 4, 5, 6, 7], [0, 1, 2, 3, 4, 5, 6, 7, 8], [0, 1, 2, 3, 4, 5, 6, 7, 8, 9]] (Z9 l)) := ZQ (by kernel_rfl) l
theorem Z049 : stepT E C B 50 ZS ZvR (φ, H) = some ((fput φ 33 (fget φ 0), H), ⟨false, [], []⟩) := Z3 rfl (Z7 rfl rfl)
theorem Z08G : stepT E C B 50 ZS ZCe (φ, H) = some ((fput φ 34 (fget φ 1), H), ⟨false, [], []⟩) := Z3 rfl (Z7 rfl rfl)
theorem Z03l : stepT E C B 50 ZS Zyb (φ, H) = stpT (some 35) φ H (just (Z2 E.T 22 (fget φ 33) (fget φ 34))) := Z3 rfl (Z5 rfl rfl)
theorem Z09F : stepT E C B 50 ZS ZyM (φ, H) = stpT (some 36) φ H (just (aLoad E.T 3 (fget φ 35))) := Z3 rfl (Z5 rfl rfl)
theorem Z00y : stepT E C B 50 ZS Zzl (φ, H) = some ((fput φ 37 (fget φ 0), H), ⟨false, [], []⟩) := Z3 rfl (Z7 rfl rfl)
theorem ZYl : stepT E C B 50 ZS ZB3 (φ, H) = some ((fput φ 38 (fget φ 2), H), ⟨false, [], []⟩) := Z3 rfl (Z7 rfl rfl)
theorem Z09f : stepT E C B 50 ZS Zxh (φ, H) = stpT (some 39) φ H (just (Z2 E.T 22 (fget φ 37) (fget φ 38))) := Z3 rfl (Z5 rfl rfl)
theorem Z06S : stepT E C B 50 ZS ZCc (φ, H) = stpT (some 40) φ H (just (aLoad E.T 3 (fget φ 39))) := Z3 rfl (Z5 rfl rfl)
theorem ZXO : stepT E C B 50 ZS ZC4 (φ, H) = stpT (some 41) φ H (just (aBin E.T .sub 3 (fget φ 36) (fget φ 40))) := Z3 rfl (Z5 rfl rfl)
theorem Z09G : stepT E C B 50 ZS ZAj (φ, H) = stpT (some 42) φ H (just (aBin E.T .lss 3 (fget φ 41) (.int .i64 2))) := Z3 rfl (Z5 rfl rfl)
theorem ZPX : stepT E C B 50 ZS Zlv (φ, H) = some ((fput φ 32 (fget φ 42), H), ⟨false, [], []⟩) := Z3 rfl (Z7 rfl rfl)
def Zbs := kR ZaP
def Zct := kT Zbs
def ZtE := kL Zct
def Z89 := kO ZtE
def Zwy := opN Z89 0
def ZBr := opN Z89 1
theorem Z0bU : XG 22 50 ZtE Z89 [0, 1, 2, 32] := Z1 (by rfl) (by rfl) _
theorem Z05K : Z89.toList = [Zwy, ZBr] := nf
theorem Z05U : stepA E C B 50 Z89 Zwy (φ, H) = some (fput φ 6 (.nilsl), H) := nf
theorem Z03I : stepA E C B 50 Z89 ZBr (φ, H) = some (fput φ 7 (.int .i64 13), H) := nf
def ZKX := kR Zct
theorem Z0ha : execA E C (fg 22) B 50 E0 N ZKX s = some (.ret, s) := Zq (by rfl) s
theorem Z0ew : XQ 22 50 Zct ZtE ZKX := Z0 (by rfl) _
def ZLJ := kE Zbs
theorem Z0cP : execA E C (fg 22) B 50 E0 N ZLJ s = some (.normal, s) := Zh (by rfl) s
theorem Z0cg : XC 22 50 Zbs 32 Zct ZLJ := Zf (by rfl) _
theorem Z0dY : XQ 22 50 ZaP Ztv Zbs := Z0 (by rfl) _
theorem Z0gk : XC 22 50 ZbA 28 Z8Y ZaP := Zf (by rfl) _
theorem Z0fo : XQ 22 50 ZbU Zu9 ZbA := Z0 (by rfl) _
theorem Z0dJ : XC 22 50 Zcp 15 Z9a ZbU := Zf (by rfl) _
theorem Z0aT : XQ 22 50 Z9P ZoQ Zcp := Z0 (by rfl) _
theorem Z0mv : XC 22 50 ZiO 11 Zj0 Z9P := Zf (by rfl) _
theorem Z0mx : XQ 22 50 ZjT ZE1 ZiO := Z0 (by rfl) _
theorem Z0jm : execA E C (fg 22) B 50 E0 N ZDx s = blockX 0 (fun s => (forget s.1 [32], s.2)) (execA E C (fg 22) B 50 E0 N ZjT s) := Ze (by rfl) (by rfl) s
def Z90 := kR ZiU
def Zsx := kL Z90
def Z0c := kO Zsx
def Zog := opN Z0c 0
def ZpL := opN Z0c 1
def Zmw := opN Z0c 2
def Zns := opN Z0c 3
def ZmH := opN Z0c 4
def Zoj := opN Z0c 5
def ZsQ := opN Z0c 6
def ZsB := opN Z0c 7
def ZrV := opN Z0c 8
theorem Z0bi : XG 22 50 Zsx Z0c [0, 1, 2, 43, 44, 45, 46, 47, 48, 49] := Z1 (by rfl) (by rfl) _
theorem ZUA : Z0c.toList = [Zog, ZpL, Zmw, Zns, ZmH, Zoj, ZsQ, ZsB, ZrV] := nf
theorem ZO1 : stepA E C B 50 Z0c Zog (φ, H) = some (fput φ 43 (fget φ 0), H) := nf
theorem ZPH : stepA E C B 50 Z0c ZpL (φ, H) = stp (some 44) φ H (aCall C (fun j => B + j * 50 + 44) true 82 [(fget φ 43)]) := nf
theorem ZRr : stepA E C B 50 Z0c Zmw (φ, H) = some (fput φ 45 (fget φ 0), H) := nf
theorem ZUp : stepA E C B 50 Z0c Zns (φ, H) = stp (some 46) φ H (Z4 E.T (B + 46) .len #[22] [(fget φ 45)]) := nf
theorem ZW4 : stepA E C B 50 Z0c ZmH (φ, H) = some (fput φ 47 (fget φ 1), H) := nf
theorem ZQz : stepA E C B 50 Z0c Zoj (φ, H) = some (fput φ 48 (fget φ 2), H) := nf
theorem ZPW : stepA E C B 50 Z0c ZsQ (φ, H) = stp (some 49) φ H (aCall C (fun j => B + j * 50 + 49) true 83 [(fget φ 44), (fget φ 46), (fget φ 47), (fget φ 48)]) := nf
theorem ZNy : stepA E C B 50 Z0c ZsB (φ, H) = some (fput φ 6 (fget φ 49), H) := nf
theorem ZQJ : stepA E C B 50 Z0c ZrV (φ, H) = some (fput φ 7 (.int .i64 0), H) := nf
def ZIE := kR Z90
theorem Z0dH : execA E C (fg 22) B 50 E0 N ZIE s = some (.ret, s) := Zq (by rfl) s
theorem Z0cE : XQ 22 50 Z90 Zsx ZIE := Z0 (by rfl) _
theorem Z0kz : XQ 22 50 ZiU ZDx Z90 := Z0 (by rfl) _
theorem Z0mp : XQ 22 50 ZiI ZEl ZiU := Z0 (by rfl) _
theorem Z0lh : XQ 22 50 ZaL ZDM ZiI := Z0 (by rfl) _
theorem Z0j3 : fInfo E 22 = some ⟨50, #[.tmp 6, .tmp 7], ZaL⟩ := nf
theorem b_22 (args : List AV) : bodyA E C fg N 22 args H B = bodyX E [.tmp 6, .tmp 7] (execA E C (fg 22) B 50 H N ZaL (Z8 args 0 [], H)) := Zt Z0j3 args H
abbrev F_22 := And.intro (And.intro (And.intro (And.intro (And.intro (And.intro @Z0lJ (And.intro @ZXA @Z05d)) (And.intro @ZZL (And.intro @Z0ma @Z05B))) (And.intro (And.intro @ZYR (And.intro @Z07z @Z09r)) (And.intro @Z0m6 (And.intro @Z033 @Z09C)))) (And.intro (And.intro (And.intro @Z02g (And.intro @Z03g @Z0cu)) (And.intro @Z04t (And.intro @Z09g @Z02e))) (And.intro (And.intro @Z09s (And.intro @Z0e0 @Z0mK)) (And.intro (And.intro @Z0eI @Z08F) (And.intro @Z06s @ZX3))))) (And.intro (And.intro (And.intro (And.intro @Z088 (And.intro @ZXX @Z09a)) (And.intro @Z084 (And.intro @Z09h @Z06r))) (And.intro (And.intro @Z030 (And.intro @Z02m @ZPp)) (And.intro (And.intro @ZPy @ZNf) (And.intro @Z0g0 @Z008)))) (And.intro (And.intro (And.intro @Z097 (And.intro @Z0a9 @Z0hL)) (And.intro @Z0c3 (And.intro @Z0fH @Z03c))) (And.intro (And.intro @Z02c (And.intro @Z086 @Z0a0)) (And.intro (And.intro @ZYo @Z0fr) (And.intro @Z009 @ZY1)))))) (And.intro (And.intro (And.intro (And.intro (And.intro @Z08D (And.intro @Z0bg @Z0e5)) (And.intro @Z0fD (And.intro @Z01j @ZSY))) (And.intro (And.intro @ZOK (And.intro @Z049 @Z08G)) (And.intro @Z03l (And.intro @Z09F @Z00y)))) (And.intro (And.intro (And.intro @ZYl (And.intro @Z09f @Z06S)) (And.intro @ZXO (And.intro @Z09G @ZPX))) (And.intro (And.intro @Z0bU (And.intro @Z05K @Z05U)) (And.intro (And.intro @Z03I @Z0ha) (And.intro @Z0ew @Z0cP))))) (And.intro (And.intro (And.intro (And.intro @Z0cg (And.intro @Z0dY @Z0gk)) (And.intro @Z0fo (And.intro @Z0dJ @Z0aT))) (And.intro (And.intro @Z0mv (And.intro @Z0mx @Z0jm)) (And.intro (And.intro @Z0bi @ZUA) (And.intro @ZO1 @ZPH)))) (And.intro (And.intro (And.intro @ZRr (And.intro @ZUp @ZW4)) (And.intro @ZQz (And.intro @ZPW @ZNy))) (And.intro (And.intro @ZQJ (And.intro @Z0dH @Z0cE)) (And.intro (And.intro @Z0kz @Z0mp) (And.intro @Z0lh @b_22))))))
def Zcb := kBody Proofs.Try.f85
def ZFw := kL Zcb
def Z44 := kO ZFw
def Zz0 := opN Z44 0
def Zvw := opN Z44 1
def ZDt := opN Z44 2
theorem Z0jd : XG 85 43 ZFw Z44 [4, 5, 6] := Z1 (by rfl) (by rfl) _
theorem Z0a8 : Z44.toList = [Zz0, Zvw, ZDt] := nf
theorem Z03t : stepA E C B 43 Z44 Zz0 (φ, H) = some (fput φ 4 (.nilsl), H) := nf
theorem Z02u : stepA E C B 43 Z44 Zvw (φ, H) = some (fput φ 5 (.nilsl), H) := nf
theorem ZY9 : stepA E C B 43 Z44 ZDt (φ, H) = some (fput φ 6 (.int .i64 0), H) := nf
def Zkn := kR Zcb
def ZjM := kL Zkn
def ZEX := kL ZjM
def Z48 := kO ZEX
def Zyt := opN Z48 0
def Zvl := opN Z48 1
def ZyO := opN Z48 2
theorem Z0k1 : XG 85 43 ZEX Z48 [9, 10] := Z1 (by rfl) (by rfl) _
theorem Z040 : Z48.toList = [Zyt, Zvl, ZyO] := nf
theorem ZYw : stepA E C B 43 Z48 Zyt (φ, H) = some (fput φ 9 (fget φ 0), H) := nf
theorem Z08k : stepA E C B 43 Z48 Zvl (φ, H) = stp (some 10) φ H (aCall C (fun j => B + j * 43 + 10) true 25 [(fget φ 9)]) := nf
theorem Z0ab : stepA E C B 43 Z48 ZyO (φ, H) = some (fput φ 7 (fget φ 10), H) := nf
def Zjw := kR ZjM
def ZDZ := kL Zjw
def Z7c := kO ZDZ
def ZyI := opN Z7c 0
def ZAC := opN Z7c 1
theorem Z0kx : XG 85 43 ZDZ Z7c [11] := Z1 (by rfl) (by rfl) _
theorem Z021 : Z7c.toList = [ZyI, ZAC] := nf
theorem Z07O : stepA E C B 43 Z7c ZyI (φ, H) = some (fput φ 11 (fget φ 7), H) := nf
theorem ZWK : stepA E C B 43 Z7c ZAC (φ, H) = stp (some 12) φ H (just (aBin E.T .neq 24 (fget φ 11) (.int .i64 0))) := nf
def ZiH := kR Zjw
def ZiQ := kT ZiH
def ZE8 := kL ZiQ
def Z2M := kO ZE8
def ZCZ := opN Z2M 0
def ZxH := opN Z2M 1
def ZCP := opN Z2M 2
def Zwn := opN Z2M 3
theorem Z0l0 : XG 85 43 ZE8 Z2M [0, 1, 7, 12, 13] := Z1 (by rfl) (by rfl) _
theorem Z09x : Z2M.toList = [ZCZ, ZxH, ZCP, Zwn] := nf
theorem Z08I : stepA E C B 43 Z2M ZCZ (φ, H) = some (fput φ 13 (fget φ 7), H) := nf
theorem ZXs : stepA E C B 43 Z2M ZxH (φ, H) = some (fput φ 4 (.nilsl), H) := nf
theorem Z074 : stepA E C B 43 Z2M ZCP (φ, H) = some (fput φ 5 (.nilsl), H) := nf
theorem Z02H : stepA E C B 43 Z2M Zwn (φ, H) = some (fput φ 6 (fget φ 13), H) := nf
def ZL5 := kR ZiQ
theorem Z0eE : execA E C (fg 85) B 43 E0 N ZL5 s = some (.ret, s) := Zq (by rfl) s
theorem Z0mO : XQ 85 43 ZiQ ZE8 ZL5 := Z0 (by rfl) _
def ZHm := kE ZiH
theorem Z0aK : execA E C (fg 85) B 43 E0 N ZHm s = some (.normal, s) := Zh (by rfl) s
theorem Z0ml : XC 85 43 ZiH 12 ZiQ ZHm := Zf (by rfl) _
theorem Z0lG : XQ 85 43 Zjw ZDZ ZiH := Z0 (by rfl) _
theorem Z0jb : XQ 85 43 ZjM ZEX Zjw := Z0 (by rfl) _
def ZaZ := kR Zkn
def Zbr := kL ZaZ
def Zmd := kL Zbr
def Z4l := kO Zmd
def ZAv := opN Z4l 0
def Zvj := opN Z4l 1
def ZCn := opN Z4l 2
theorem Z0gF : XG 85 43 Zmd Z4l [7, 12, 14, 15] := Z1 (by rfl) (by rfl) _
theorem ZZE : Z4l.toList = [ZAv, Zvj, ZCn] := nf
theorem Z02X : stepA E C B 43 Z4l ZAv (φ, H) = some (fput φ 14 (fget φ 1), H) := nf
theorem Z00V : stepA E C B 43 Z4l Zvj (φ, H) = stp (some 15) φ H (aCall C (fun j => B + j * 43 + 15) true 25 [(fget φ 14)]) := nf
theorem Z07T : stepA E C B 43 Z4l ZCn (φ, H) = some (fput φ 8 (fget φ 15), H) := nf
def Zbm := kR Zbr
def ZqX := kL Zbm
def Z6D := kO ZqX
def ZAX := opN Z6D 0
def Zw5 := opN Z6D 1
theorem Z0gM : XG 85 43 ZqX Z6D [16] := Z1 (by rfl) (by rfl) _
theorem Z05J : Z6D.toList = [ZAX, Zw5] := nf
theorem Z07b : stepA E C B 43 Z6D ZAX (φ, H) = some (fput φ 16 (fget φ 8), H) := nf
theorem ZZ8 : stepA E C B 43 Z6D Zw5 (φ, H) = stp (some 17) φ H (just (aBin E.T .neq 24 (fget φ 16) (.int .i64 0))) := nf
def ZcV := kR Zbm
def Zaw := kT ZcV
def ZrR := kL Zaw
def Z2K := kO ZrR
def ZyJ := opN Z2K 0
def Zvy := opN Z2K 1
def ZA7 := opN Z2K 2
def ZCq := opN Z2K 3
theorem Z0aW : XG 85 43 ZrR Z2K [0, 1, 8, 17, 18] := Z1 (by rfl) (by rfl) _
theorem Z07h : Z2K.toList = [ZyJ, Zvy, ZA7, ZCq] := nf
theorem Z06l : stepA E C B 43 Z2K ZyJ (φ, H) = some (fput φ 18 (fget φ 8), H) := nf
theorem Z00A : stepA E C B 43 Z2K Zvy (φ, H) = some (fput φ 4 (.nilsl), H) := nf
theorem ZXo : stepA E C B 43 Z2K ZA7 (φ, H) = some (fput φ 5 (.nilsl), H) := nf
theorem Z09e : stepA E C B 43 Z2K ZCq (φ, H) = some (fput φ 6 (fget φ 18), H) := nf
def ZGA := kR Zaw
theorem Z0he : execA E C (fg 85) B 43 E0 N ZGA s = some (.ret, s) := Zq (by rfl) s
theorem Z0dr : XQ 85 43 Zaw ZrR ZGA := Z0 (by rfl) _
def ZLQ := kE ZcV
theorem Z0eb : execA E C (fg 85) B 43 E0 N ZLQ s = some (.normal, s) := Zh (by rfl) s
theorem Z0dF : XC 85 43 ZcV 17 Zaw ZLQ := Zf (by rfl) _
theorem Z0in : XQ 85 43 Zbm ZqX ZcV := Z0 (by rfl) _
theorem Z0hv : XQ 85 43 Zbr Zmd Zbm := Z0 (by rfl) _
def Zaj := kR ZaZ
def Ztt := kL Zaj
def Z1t := kO Ztt
def ZBj := opN Z1t 0
def ZCT := opN Z1t 1
def ZzR := opN Z1t 2
def ZDd := opN Z1t 3
def Zxr := opN Z1t 4
def Zzp := opN Z1t 5
theorem Z0eu : XG 85 43 Ztt Z1t [8, 17, 19, 20, 21, 22] := Z1 (by rfl) (by rfl) _
theorem Z04J : Z1t.toList = [ZBj, ZCT, ZzR, ZDd, Zxr, Zzp] := nf
theorem Z03i : stepA E C B 43 Z1t ZBj (φ, H) = some (fput φ 19 (fget φ 0), H) := nf
theorem ZZy : stepA E C B 43 Z1t ZCT (φ, H) = stp (some 20) φ H (aCall C (fun j => B + j * 43 + 20) true 79 [(fget φ 19)]) := nf
theorem Z01c : stepA E C B 43 Z1t ZzR (φ, H) = some (fput φ 21 (fget φ 1), H) := nf
theorem Z01L : stepA E C B 43 Z1t ZDd (φ, H) = stp (some 22) φ H (aCall C (fun j => B + j * 43 + 22) true 79 [(fget φ 21)]) := nf
theorem Z09Y : stepA E C B 43 Z1t Zxr (φ, H) = some (fput φ 4 (fget φ 20), H) := nf
theorem Z002 : stepA E C B 43 Z1t Zzp (φ, H) = some (fput φ 5 (fget φ 22), H) := nf
def ZcC := kR Zaj
def ZtS := kL ZcC
def Z98 := kB ZtS
def Zn0 := kL Z98
def Z1r := kO Zn0
def Zx2 := opN Z1r 0
def ZBS := opN Z1r 1
def ZCk := opN Z1r 2
def ZyK := opN Z1r 3
def ZD4 := opN Z1r 4
def ZC9 := opN Z1r 5
theorem Z0hi : XG 85 43 Zn0 Z1r [24, 25, 26, 27, 28] := Z1 (by rfl) (by rfl) _
theorem ZZ7 : Z1r.toList = [Zx2, ZBS, ZCk, ZyK, ZD4, ZC9] := nf
theorem Z00v : stepA E C B 43 Z1r Zx2 (φ, H) = some (fput φ 24 (fget φ 0), H) := nf
theorem ZXE : stepA E C B 43 Z1r ZBS (φ, H) = stp (some 25) φ H (Z4 E.T (B + 25) .len #[22] [(fget φ 24)]) := nf
theorem Z08t : stepA E C B 43 Z1r ZCk (φ, H) = some (fput φ 26 (fget φ 1), H) := nf
theorem ZXV : stepA E C B 43 Z1r ZyK (φ, H) = stp (some 27) φ H (Z4 E.T (B + 27) .len #[22] [(fget φ 26)]) := nf
theorem ZYy : stepA E C B 43 Z1r ZD4 (φ, H) = stp (some 28) φ H (just (aBin E.T .neq 3 (fget φ 25) (fget φ 27))) := nf
theorem Z02s : stepA E C B 43 Z1r ZC9 (φ, H) = some (fput φ 23 (fget φ 28), H) := nf
def Za5 := kR Z98
def Za8 := kT Za5
def Zuy := kL Za8
def Z4j := kO Zuy
def Zzy := opN Z4j 0
def ZuP := opN Z4j 1
def Zwp := opN Z4j 2
theorem Z0hT : XG 85 43 Zuy Z4j [0, 1, 23] := Z1 (by rfl) (by rfl) _
theorem Z03L : Z4j.toList = [Zzy, ZuP, Zwp] := nf
theorem Z06I : stepA E C B 43 Z4j Zzy (φ, H) = some (fput φ 4 (.nilsl), H) := nf
theorem Z01r : stepA E C B 43 Z4j ZuP (φ, H) = some (fput φ 5 (.nilsl), H) := nf
theorem Z03O : stepA E C B 43 Z4j Zwp (φ, H) = some (fput φ 6 (.int .i64 5), H) := nf
def ZHU := kR Za8
theorem Z0h7 : execA E C (fg 85) B 43 E0 N ZHU s = some (.ret, s) := Zq (by rfl) s
theorem Z0hS : XQ 85 43 Za8 Zuy ZHU := Z0 (by rfl) _
def Z9O := kE Za5
def ZoI := kL Z9O
def Zx := kO ZoI
def ZtP := opN Zx 0
def Zq4 := opN Zx 1
def Zqz := opN Zx 2
def Zkz := opN Zx 3
def Zta := opN Zx 4
def ZnF := opN Zx 5
def ZqM := opN Zx 6
def ZtR := opN Zx 7
def ZtO := opN Zx 8
def Zt0 := opN Zx 9
def Zhb := opN Zx 10
def Zhn := opN Zx 11
theorem Z0hw : XD 85 43 ZoI Zx [0, 1, 23, 30, 31, 32, 33, 34, 35, 36, 37, 38, 39, 40] := Z0h (by rfl) (by rfl) _
theorem ZVC : Zx.toList = [ZtP, Zq4, Zqz, Zkz, Zta, ZnF, ZqM, ZtR, ZtO, Zt0, Zhb, Zhn] := nf
theorem ZKk : statOk Zx = true := by kernel_rfl
theorem ZH5 : drawA E C B 43 Zx s = if neat 43 s = true then drX Zx (runT E C B 43 Zx Zx.toList 0 s) else none := Z00 ZKk s
theorem ZKJ (l : List (Nat × Tr)) : dynOk Zx l = (!writing l || Za [[], [], [1], [0, 1, 2], [0, 1, 2, 3], [], [], [6], [5, 6, 7], [5, 6, 7, 8], [0, 1, 2, 3, 4, 5, 6, 7, 8, 9], [0, 1, 2, 3, 4, 5, 6, 7, 8, 9, 10]] (Z9 l)) := ZQ (by kernel_rfl) l
theorem ZSw : stepT E C B 43 Zx ZtP (φ, H) = some ((fput φ 30 (fget φ 4), H), ⟨false, [], []⟩) := Z3 rfl (Z7 rfl rfl)
theorem ZWa : stepT E C B 43 Zx Zq4 (φ, H) = some ((fput φ 31 (fget φ 0), H), ⟨false, [], []⟩) := Z3 rfl (Z7 rfl rfl)
theorem ZRx : stepT E C B 43 Zx Zqz (φ, H) = stpT (some 32) φ H (Z4 E.T (B + 32) .len #[22] [(fget φ 31)]) := Z3 rfl (Z5 rfl rfl)
theorem ZVM : stepT E C B 43 Zx Zkz (φ, H) = stpT (some 33) φ H (just (Z2 E.T 22 (fget φ 30) (fget φ 32))) := Z3 rfl (Z5 rfl rfl)
theorem ZRE : stepT E C B 43 Zx Zta (φ, H) = stpT (some 34) φ H (just (aLoad E.T 3 (fget φ 33))) := Z3 rfl (Z5 rfl rfl)
theorem ZRP : stepT E C B 43 Zx ZnF (φ, H) = some ((fput φ 35 (fget φ 5), H), ⟨false, [], []⟩) := Z3 rfl (Z7 rfl rfl)
theorem ZRT : stepT E C B 43 Zx ZqM (φ, H) = some ((fput φ 36 (fget φ 1), H), ⟨false, [], []⟩) := Z3 rfl (Z7 rfl rfl)
theorem ZU9 : stepT E C B 43 Zx ZtR (φ, H) = stpT (some 37) φ H (Z4 E.T (B + 37) .len #[22] [(fget φ 36)]) := Z3 rfl (Z5 rfl rfl)
theorem ZRZ : stepT E C B 43 Zx ZtO (φ, H) = stpT (some 38) φ H (just (Z2 E.T 22 (fget φ 35) (fget φ 37))) := Z3 rfl (Z5 rfl rfl)
theorem ZOD : stepT E C B 43 Zx Zt0 (φ, H) = stpT (some 39) φ H (just (aLoad E.T 3 (fget φ 38))) := Z3 rfl (Z5 rfl rfl)
theorem ZHX : stepT E C B 43 Zx Zhb (φ, H) = stpT (some 40) φ H (just (aBin E.T .neq 3 (fget φ 34) (fget φ 39))) := Z3 rfl (Z5 rfl rfl)
theorem ZLT : stepT E C B 43 Zx Zhn (φ, H) = some ((fput φ 29 (fget φ 40), H), ⟨false, [], []⟩) := Z3 rfl (Z7 rfl rfl)
def ZcS := kR Z9O
def ZaK := kT ZcS
def ZtN := kL ZaK
def Z34 := kO ZtN
def ZmK := opN Z34 0
def ZnQ := opN Z34 1
def Zr9 := opN Z34 2
theorem Z0fa : XG 85 43 ZtN Z34 [29] := Z1 (by rfl) (by rfl) _
theorem ZOv : Z34.toList = [ZmK, ZnQ, Zr9] := nf
theorem ZWg : stepA E C B 43 Z34 ZmK (φ, H) = some (fput φ 4 (.nilsl), H) := nf
theorem ZNX : stepA E C B 43 Z34 ZnQ (φ, H) = some (fput φ 5 (.nilsl), H) := nf
theorem ZT6 : stepA E C B 43 Z34 Zr9 (φ, H) = some (fput φ 6 (.int .i64 17), H) := nf
def ZLM := kR ZaK
theorem Z0iF : execA E C (fg 85) B 43 E0 N ZLM s = some (.ret, s) := Zq (by rfl) s
theorem Z0bF : XQ 85 43 ZaK ZtN ZLM := Z0 (by rfl) _
def ZHy := kE ZcS
theorem Z0fI : execA E C (fg 85) B 43 E0 N ZHy s = some (.normal, s) := Zh (by rfl) s
theorem Z0hK : XC 85 43 ZcS 29 ZaK ZHy := Zf (by rfl) _
theorem Z0im : XQ 85 43 Z9O ZoI ZcS := Z0 (by rfl) _
theorem Z0et : XC 85 43 Za5 23 Za8 Z9O := Zf (by rfl) _
theorem Z0hZ : XQ 85 43 Z98 Zn0 Za5 := Z0 (by rfl) _
theorem Z0gc : execA E C (fg 85) B 43 E0 N ZtS s = blockX 0 (fun s => (forget s.1 [29], s.2)) (execA E C (fg 85) B 43 E0 N Z98 s) := Ze (by rfl) (by rfl) s
def Zak := kR ZcC
def ZkD := kL Zak
def Z1g := kO ZkD
def Zl3 := opN Z1g 0
def ZpT := opN Z1g 1
def ZnH := opN Z1g 2
def ZqI := opN Z1g 3
def Zrj := opN Z1g 4
theorem Z0g9 : XG 85 43 ZkD Z1g [41, 42] := Z1 (by rfl) (by rfl) _
theorem ZSh : Z1g.toList = [Zl3, ZpT, ZnH, ZqI, Zrj] := nf
theorem ZVQ : stepA E C B 43 Z1g Zl3 (φ, H) = some (fput φ 41 (fget φ 4), H) := nf
theorem ZNO : stepA E C B 43 Z1g ZpT (φ, H) = some (fput φ 42 (fget φ 5), H) := nf
theorem ZQu : stepA E C B 43 Z1g ZnH (φ, H) = some (fput φ 4 (fget φ 41), H) := nf
theorem ZNW : stepA E C B 43 Z1g ZqI (φ, H) = some (fput φ 5 (fget φ 42), H) := nf
theorem ZTW : stepA E C B 43 Z1g Zrj (φ, H) = some (fput φ 6 (.int .i64 0), H) := nf
def ZLr := kR Zak
theorem Z0d1 : execA E C (fg 85) B 43 E0 N ZLr s = some (.ret, s) := Zq (by rfl) s
theorem Z0dk : XQ 85 43 Zak ZkD ZLr := Z0 (by rfl) _
theorem Z0b2 : XQ 85 43 ZcC ZtS Zak := Z0 (by rfl) _
theorem Z0dN : XQ 85 43 Zaj Ztt ZcC := Z0 (by rfl) _
theorem Z0bs : XQ 85 43 ZaZ Zbr Zaj := Z0 (by rfl) _
theorem Z0ng : XQ 85 43 Zkn ZjM ZaZ := Z0 (by rfl) _
theorem Z0mW : XQ 85 43 Zcb ZFw Zkn := Z0 (by rfl) _
theorem Z0l4 : fInfo E 85 = some ⟨43, #[.tmp 4, .tmp 5, .tmp 6], Zcb⟩ := nf
theorem b_85 (args : List AV) : bodyA E C fg N 85 args H B = bodyX E [.tmp 4, .tmp 5, .tmp 6] (execA E C (fg 85) B 43 H N Zcb (Z8 args 0 [], H)) := Zt Z0l4 args H
abbrev F_85 := And.intro (And.intro (And.intro (And.intro (And.intro (And.intro @Z0jd (And.intro @Z0a8 @Z03t)) (And.intro (And.intro @Z02u @ZY9) (And.intro @Z0k1 @Z040))) (And.intro (And.intro @ZYw (And.intro @Z08k @Z0ab)) (And.intro (And.intro @Z0kx @Z021) (And.intro @Z07O @ZWK)))) (And.intro (And.intro (And.intro @Z0l0 (And.intro @Z09x @Z08I)) (And.intro (And.intro @ZXs @Z074) (And.intro @Z02H @Z0eE))) (And.intro (And.intro @Z0mO (And.intro @Z0aK @Z0ml)) (And.intro (And.intro @Z0lG @Z0jb) (And.intro @Z0gF @ZZE))))) (And.intro (And.intro (And.intro (And.intro @Z02X (And.intro @Z00V @Z07T)) (And.intro (And.intro @Z0gM @Z05J) (And.intro @Z07b @ZZ8))) (And.intro (And.intro @Z0aW (And.intro @Z07h @Z06l)) (And.intro (And.intro @Z00A @ZXo) (And.intro @Z09e @Z0he)))) (And.intro (And.intro (And.intro @Z0dr (And.intro @Z0eb @Z0dF)) (And.intro (And.intro @Z0in @Z0hv) (And.intro @Z0eu @Z04J))) (And.intro (And.intro (And.intro @Z03i @ZZy) (And.intro @Z01c @Z01L)) (And.intro (And.intro @Z09Y @Z002) (And.intro @Z0hi @ZZ7)))))) (And.intro (And.intro (And.intro (And.intro (And.intro @Z00v (And.intro @ZXE @Z08t)) (And.intro (And.intro @ZXV @ZYy) (And.intro @Z02s @Z0hT))) (And.intro (And.intro @Z03L (And.intro @Z06I @Z01r)) (And.intro (And.intro @Z03O @Z0h7) (And.intro @Z0hS @Z0hw)))) (And.intro (And.intro (And.intro @ZVC (And.intro @ZH5 @ZKJ)) (And.intro (And.intro @ZSw @ZWa) (And.intro @ZRx @ZVM))) (And.intro (And.intro @ZRE (And.intro @ZRP @ZRT)) (And.intro (And.intro @ZU9 @ZRZ) (And.intro @ZOD @ZHX))))) (And.intro (And.intro (And.intro (And.intro @ZLT (And.intro @Z0fa @ZOv)) (And.intro (And.intro @ZWg @ZNX) (And.intro @ZT6 @Z0iF))) (And.intro (And.intro @Z0bF (And.intro @Z0fI @Z0hK)) (And.intro (And.intro @Z0im @Z0et) (And.intro @Z0hZ @Z0gc)))) (And.intro (And.intro (And.intro @Z0g9 (And.intro @ZSh @ZVQ)) (And.intro (And.intro @ZNO @ZQu) (And.intro @ZNW @ZTW))) (And.intro (And.intro (And.intro @Z0d1 @Z0dk) (And.intro @Z0b2 @Z0dN)) (And.intro (And.intro @Z0bs @Z0ng) (And.intro @Z0mW @b_85))))))
def ZcG := kBody Proofs.Try.f86
def ZFu := kL ZcG
def ZiS := kO ZFu
def ZAs := opN ZiS 0
theorem Z0kC : XG 86 22 ZFu ZiS [4] := Z1 (by rfl) (by rfl) _
theorem Z01S : ZiS.toList = [ZAs] := nf
theorem Z07S : stepA E C B 22 ZiS ZAs (φ, H) = some (fput φ 4 (.int .i64 0), H) := nf
def Zj8 := kR ZcG
def Zk0 := kL Zj8
def ZEc := kL Zk0
def Z4n := kO ZEc
def ZBk := opN Z4n 0
def ZD0 := opN Z4n 1
def ZCb := opN Z4n 2
theorem Z0j6 : XG 86 22 ZEc Z4n [6] := Z1 (by rfl) (by rfl) _
theorem Z02B : Z4n.toList = [ZBk, ZD0, ZCb] := nf
theorem Z04I : stepA E C B 22 Z4n ZBk (φ, H) = some (fput φ 6 (fget φ 0), H) := nf
theorem Z03Q : stepA E C B 22 Z4n ZD0 (φ, H) = stp (some 7) φ H (Z4 E.T (B + 7) .len #[22] [(fget φ 6)]) := nf
theorem Z08y : stepA E C B 22 Z4n ZCb (φ, H) = some (fput φ 8 (.int .i64 0), H) := nf
def ZF1 := kR Zk0
def ZFq := kB ZF1
def ZbQ := kB ZFq
def ZF2 := kL ZbQ
def Zk3 := kO ZF2
def ZD8 := opN Zk3 0
theorem Z0jD : XG 86 22 ZF2 Zk3 [] := Z1 (by rfl) (by rfl) _
theorem Z047 : Zk3.toList = [ZD8] := nf
theorem Z02d : stepA E C B 22 Zk3 ZD8 (φ, H) = stp (some 9) φ H (just (aBin E.T .lss 3 (fget φ 8) (fget φ 7))) := nf
def Zk2 := kR ZbQ
def ZaT := kL Zk2
def ZKR := kT ZaT
theorem Z0it : execA E C (fg 86) B 22 E0 N ZKR s = some (.normal, s) := Zh (by rfl) s
def ZMW := kE ZaT
theorem Z0ek : execA E C (fg 86) B 22 E0 N ZMW s = some (.exit 0, s) := ZI (by rfl) s
theorem Z0cD : XC 86 22 ZaT 9 ZKR ZMW := Zf (by rfl) _
def Z9q := kR Zk2
def Zru := kL Z9q
def Za0 := kB Zru
def ZqV := kL Za0
def Z6s := kO ZqV
def ZBY := opN Z6s 0
def ZAN := opN Z6s 1
theorem Z0gY : XG 86 22 ZqV Z6s [9, 10] := Z1 (by rfl) (by rfl) _
theorem ZYL : Z6s.toList = [ZBY, ZAN] := nf
theorem ZZX : stepA E C B 22 Z6s ZBY (φ, H) = some (fput φ 10 (fget φ 8), H) := nf
theorem Z02D : stepA E C B 22 Z6s ZAN (φ, H) = some (fput φ 5 (fget φ 10), H) := nf
def ZbM := kR Za0
def Zmy := kL ZbM
def Z04 := kO Zmy
def ZAa := opN Z04 0
def ZBa := opN Z04 1
def ZCB := opN Z04 2
def Zwr := opN Z04 3
def ZCh := opN Z04 4
def ZC2 := opN Z04 5
def Zvz := opN Z04 6
def ZuO := opN Z04 7
def Zwg := opN Z04 8
theorem Z0h0 : XD 86 22 Zmy Z04 [11, 12, 13, 14, 15, 16, 17, 18] := Z0h (by rfl) (by rfl) _
theorem Z02I : Z04.toList = [ZAa, ZBa, ZCB, Zwr, ZCh, ZC2, Zvz, ZuO, Zwg] := nf
theorem ZVT : statOk Z04 = true := by kernel_rfl
theorem ZO9 : drawA E C B 22 Z04 s = if neat 22 s = true then drX Z04 (runT E C B 22 Z04 Z04.toList 0 s) else none := Z00 ZVT s
theorem ZUS (l : List (Nat × Tr)) : dynOk Z04 l = (!writing l || Za [[], [], [0, 1], [0, 1, 2], [], [], [4, 5], [4, 5, 6], [0, 1, 2, 3, 4, 5, 6, 7]] (Z9 l)) := ZQ (by kernel_rfl) l
theorem Z042 : stepT E C B 22 Z04 ZAa (φ, H) = some ((fput φ 11 (fget φ 0), H), ⟨false, [], []⟩) := Z3 rfl (Z7 rfl rfl)
theorem ZZO : stepT E C B 22 Z04 ZBa (φ, H) = some ((fput φ 12 (fget φ 5), H), ⟨false, [], []⟩) := Z3 rfl (Z7 rfl rfl)
theorem ZXu : stepT E C B 22 Z04 ZCB (φ, H) = stpT (some 13) φ H (just (Z2 E.T 22 (fget φ 11) (fget φ 12))) := Z3 rfl (Z5 rfl rfl)
theorem ZYJ : stepT E C B 22 Z04 Zwr (φ, H) = stpT (some 14) φ H (just (aLoad E.T 3 (fget φ 13))) := Z3 rfl (Z5 rfl rfl)
theorem Z08N : stepT E C B 22 Z04 ZCh (φ, H) = some ((fput φ 15 (fget φ 1), H), ⟨false, [], []⟩) := Z3 rfl (Z7 rfl rfl)
theorem Z04z : stepT E C B 22 Z04 ZC2 (φ, H) = some ((fput φ 16 (fget φ 5), H), ⟨false, [], []⟩) := Z3 rfl (Z7 rfl rfl)
theorem Z07y : stepT E C B 22 Z04 Zvz (φ, H) = stpT (some 17) φ H (just (Z2 E.T 22 (fget φ 15) (fget φ 16))) := Z3 rfl (Z5 rfl rfl)
theorem Z00K : stepT E C B 22 Z04 ZuO (φ, H) = stpT (some 18) φ H (just (aLoad E.T 3 (fget φ 17))) := Z3 rfl (Z5 rfl rfl)
theorem ZYc : stepT E C B 22 Z04 Zwg (φ, H) = stpT (some 19) φ H (just (aBin E.T .lss 3 (fget φ 14) (fget φ 18))) := Z3 rfl (Z5 rfl rfl)
def Z96 := kR ZbM
def Zc1 := kT Z96
def Zux := kL Zc1
def Z84 := kO Zux
def ZDj := opN Z84 0
def Zyy := opN Z84 1
theorem Z0gy : XG 86 22 Zux Z84 [0, 1, 5, 7, 8, 19, 20] := Z1 (by rfl) (by rfl) _
theorem Z015 : Z84.toList = [ZDj, Zyy] := nf
theorem ZY3 : stepA E C B 22 Z84 ZDj (φ, H) = some (fput φ 20 (fget φ 5), H) := nf
theorem ZYB : stepA E C B 22 Z84 Zyy (φ, H) = some (fput φ 4 (fget φ 20), H) := nf
def ZH8 := kR Zc1
theorem Z0h8 : execA E C (fg 86) B 22 E0 N ZH8 s = some (.ret, s) := Zq (by rfl) s
theorem Z0fW : XQ 86 22 Zc1 Zux ZH8 := Z0 (by rfl) _
def ZK3 := kE Z96
theorem Z0d5 : execA E C (fg 86) B 22 E0 N ZK3 s = some (.normal, s) := Zh (by rfl) s
theorem Z0di : XC 86 22 Z96 19 Zc1 ZK3 := Zf (by rfl) _
theorem Z0gJ : XQ 86 22 ZbM Zmy Z96 := Z0 (by rfl) _
theorem Z0ay : XQ 86 22 Za0 ZqV ZbM := Z0 (by rfl) _
theorem Z0if : execA E C (fg 86) B 22 E0 N Zru s = blockX 1 (fun s => (forget s.1 [5, 19], s.2)) (execA E C (fg 86) B 22 E0 N Za0 s) := Ze (by rfl) (by rfl) s
def ZnG := kR Z9q
def Z6W := kO ZnG
def ZyN := opN Z6W 0
def ZvS := opN Z6W 1
theorem Z0i6 : XG 86 22 ZnG Z6W [21] := Z1 (by rfl) (by rfl) _
theorem ZXa : Z6W.toList = [ZyN, ZvS] := nf
theorem Z02M : stepA E C B 22 Z6W ZyN (φ, H) = stp (some 21) φ H (just (aBin E.T .add 3 (fget φ 8) (.int .i64 1))) := nf
theorem ZYb : stepA E C B 22 Z6W ZvS (φ, H) = some (fput φ 8 (fget φ 21), H) := nf
theorem Z0f7 : XQ 86 22 Z9q Zru ZnG := Z0 (by rfl) _
theorem Z0lq : XQ 86 22 Zk2 ZaT Z9q := Z0 (by rfl) _
theorem Z0iW : XQ 86 22 ZbQ ZF2 Zk2 := Z0 (by rfl) _
theorem Z0j4 : execA E C (fg 86) B 22 E0 N ZFq s = iterA (execA E C (fg 86) B 22 E0 N ZbQ) (headA E0) N s := ZV (by rfl) s
theorem Z0iP : execA E C (fg 86) B 22 E0 N ZF1 s = blockX 0 (fun s => (forget s.1 [0, 1, 7, 8, 9], s.2)) (execA E C (fg 86) B 22 E0 N ZFq s) := Ze (by rfl) (by rfl) s
theorem Z0mh : XQ 86 22 Zk0 ZEc ZF1 := Z0 (by rfl) _
def Z9F := kR Zj8
def ZlK := kL Z9F
def ZiG := kO ZlK
def Zzd := opN ZiG 0
theorem Z0hm : XG 86 22 ZlK ZiG [] := Z1 (by rfl) (by rfl) _
theorem Z07L : ZiG.toList = [Zzd] := nf
theorem ZXz : stepA E C B 22 ZiG Zzd (φ, H) = some (fput φ 4 (.int .i64 (-1)), H) := nf
def ZJf := kR Z9F
theorem Z0gC : execA E C (fg 86) B 22 E0 N ZJf s = some (.ret, s) := Zq (by rfl) s
theorem Z0bI : XQ 86 22 Z9F ZlK ZJf := Z0 (by rfl) _
theorem Z0mX : XQ 86 22 Zj8 Zk0 Z9F := Z0 (by rfl) _
theorem Z0jQ : XQ 86 22 ZcG ZFu Zj8 := Z0 (by rfl) _
theorem Z0n2 : fInfo E 86 = some ⟨22, #[.tmp 4], ZcG⟩ := nf
theorem b_86 (args : List AV) : bodyA E C fg N 86 args H B = bodyX E [.tmp 4] (execA E C (fg 86) B 22 H N ZcG (Z8 args 0 [], H)) := Zt Z0n2 args H
abbrev F_86 := And.intro (And.intro (And.intro (And.intro (And.intro @Z0kC (And.intro @Z01S @Z07S)) (And.intro (And.intro @Z0j6 @Z02B) (And.intro @Z04I @Z03Q))) (And.intro (And.intro (And.intro @Z08y @Z0jD) (And.intro @Z047 @Z02d)) (And.intro (And.intro @Z0it @Z0ek) (And.intro @Z0cD @Z0gY)))) (And.intro (And.intro (And.intro @ZYL (And.intro @ZZX @Z02D)) (And.intro (And.intro @Z0h0 @Z02I) (And.intro @ZO9 @ZUS))) (And.intro (And.intro (And.intro @Z042 @ZZO) (And.intro @ZXu @ZYJ)) (And.intro (And.intro @Z08N @Z04z) (And.intro @Z07y @Z00K))))) (And.intro (And.intro (And.intro (And.intro @ZYc (And.intro @Z0gy @Z015)) (And.intro (And.intro @ZY3 @ZYB) (And.intro @Z0h8 @Z0fW))) (And.intro (And.intro (And.intro @Z0d5 @Z0di) (And.intro @Z0gJ @Z0ay)) (And.intro (And.intro @Z0if @Z0i6) (And.intro @ZXa @Z02M)))) (And.intro (And.intro (And.intro @ZYb (And.intro @Z0f7 @Z0lq)) (And.intro (And.intro @Z0iW @Z0j4) (And.intro @Z0iP @Z0mh))) (And.intro (And.intro (And.intro @Z0hm @Z07L) (And.intro @ZXz @Z0gC)) (And.intro (And.intro @Z0bI @Z0mX) (And.intro @Z0jQ @b_86)))))
def Zb6 := kBody Proofs.Try.f90
def ZEI := kL Zb6
def Zjx := kO ZEI
def ZyR := opN Zjx 0
theorem Z0mI : XG 90 26 ZEI Zjx [4] := Z1 (by rfl) (by rfl) _
theorem Z09B : Zjx.toList = [ZyR] := nf
theorem Z000 : stepA E C B 26 Zjx ZyR (φ, H) = some (fput φ 4 (.int .i64 0), H) := nf
def ZjU := kR Zb6
def ZEZ := kL ZjU
def Zje := kO ZEZ
def Zwu := opN Zje 0
theorem Z0la : XG 90 26 ZEZ Zje [] := Z1 (by rfl) (by rfl) _
theorem Z07s : Zje.toList = [Zwu] := nf
theorem Z051 : stepA E C B 26 Zje Zwu (φ, H) = some (fput φ 5 (.int .i64 0), H) := nf
def Zk8 := kR ZjU
def ZiD := kL Zk8
def ZF3 := kL ZiD
def Z4q := kO ZF3
def Zzr := opN Z4q 0
def Zy1 := opN Z4q 1
def ZAP := opN Z4q 2
theorem Z0ji : XG 90 26 ZF3 Z4q [7] := Z1 (by rfl) (by rfl) _
theorem Z02z : Z4q.toList = [Zzr, Zy1, ZAP] := nf
theorem Z05Q : stepA E C B 26 Z4q Zzr (φ, H) = some (fput φ 7 (fget φ 0), H) := nf
theorem Z036 : stepA E C B 26 Z4q Zy1 (φ, H) = stp (some 8) φ H (Z4 E.T (B + 8) .len #[22] [(fget φ 7)]) := nf
theorem Z03F : stepA E C B 26 Z4q ZAP (φ, H) = some (fput φ 9 (.int .i64 0), H) := nf
def ZEd := kR ZiD
def ZDV := kB ZEd
def Zap := kB ZDV
def ZnB := kL Zap
def Zkk := kO ZnB
def ZA8 := opN Zkk 0
theorem Z0f2 : XG 90 26 ZnB Zkk [] := Z1 (by rfl) (by rfl) _
theorem Z06h : Zkk.toList = [ZA8] := nf
theorem Z03k : stepA E C B 26 Zkk ZA8 (φ, H) = stp (some 10) φ H (just (aBin E.T .lss 3 (fget φ 9) (fget φ 8))) := nf
def Zag := kR Zap
def Zcm := kL Zag
def ZHd := kT Zcm
theorem Z0aS : execA E C (fg 90) B 26 E0 N ZHd s = some (.normal, s) := Zh (by rfl) s
def ZLY := kE Zcm
theorem Z0gr : execA E C (fg 90) B 26 E0 N ZLY s = some (.exit 0, s) := ZI (by rfl) s
theorem Z0dO : XC 90 26 Zcm 10 ZHd ZLY := Zf (by rfl) _
def Z9m := kR Zag
def ZkG := kL Z9m
def Zac := kB ZkG
def ZqD := kL Zac
def Z6H := kO ZqD
def Zyu := opN Z6H 0
def ZCR := opN Z6H 1
theorem Z0aX : XG 90 26 ZqD Z6H [10, 11] := Z1 (by rfl) (by rfl) _
theorem Z09O : Z6H.toList = [Zyu, ZCR] := nf
theorem ZZW : stepA E C B 26 Z6H Zyu (φ, H) = some (fput φ 11 (fget φ 9), H) := nf
theorem Z052 : stepA E C B 26 Z6H ZCR (φ, H) = some (fput φ 6 (fget φ 11), H) := nf
def ZtX := kR Zac
def ZC := kO ZtX
def ZwU := opN ZC 0
def ZvQ := opN ZC 1
def ZC3 := opN ZC 2
def ZAS := opN ZC 3
def ZAm := opN ZC 4
def ZAT := opN ZC 5
def ZD7 := opN ZC 6
def ZzJ := opN ZC 7
def Zx1 := opN ZC 8
def ZD2 := opN ZC 9
def ZqE := opN ZC 10
def ZtJ := opN ZC 11
def ZlG := opN ZC 12
theorem Z0dD : XD 90 26 ZtX ZC [6, 12, 13, 14, 15, 16, 17, 18, 19, 20, 21, 22, 23] := Z0h (by rfl) (by rfl) _
theorem Z09y : ZC.toList = [ZwU, ZvQ, ZC3, ZAS, ZAm, ZAT, ZD7, ZzJ, Zx1, ZD2, ZqE, ZtJ, ZlG] := nf
theorem ZOk : statOk ZC = true := by kernel_rfl
theorem ZSE : drawA E C B 26 ZC s = if neat 26 s = true then drX ZC (runT E C B 26 ZC ZC.toList 0 s) else none := Z00 ZOk s
theorem ZU6 (l : List (Nat × Tr)) : dynOk ZC l = (!writing l || Za [[], [], [], [1, 2], [1, 2, 3], [], [], [5, 6], [5, 6, 7], [1, 2, 3, 4, 5, 6, 7, 8], [1, 2, 3, 4, 5, 6, 7, 8, 9], [0, 1, 2, 3, 4, 5, 6, 7, 8, 9, 10], [0, 1, 2, 3, 4, 5, 6, 7, 8, 9, 10, 11]] (Z9 l)) := ZQ (by kernel_rfl) l
theorem Z0an : stepT E C B 26 ZC ZwU (φ, H) = some ((fput φ 12 (fget φ 5), H), ⟨false, [], []⟩) := Z3 rfl (Z7 rfl rfl)
theorem Z062 : stepT E C B 26 ZC ZvQ (φ, H) = some ((fput φ 13 (fget φ 0), H), ⟨false, [], []⟩) := Z3 rfl (Z7 rfl rfl)
theorem ZXq : stepT E C B 26 ZC ZC3 (φ, H) = some ((fput φ 14 (fget φ 6), H), ⟨false, [], []⟩) := Z3 rfl (Z7 rfl rfl)
theorem Z083 : stepT E C B 26 ZC ZAS (φ, H) = stpT (some 15) φ H (just (Z2 E.T 22 (fget φ 13) (fget φ 14))) := Z3 rfl (Z5 rfl rfl)
theorem Z00i : stepT E C B 26 ZC ZAm (φ, H) = stpT (some 16) φ H (just (aLoad E.T 3 (fget φ 15))) := Z3 rfl (Z5 rfl rfl)
theorem Z05i : stepT E C B 26 ZC ZAT (φ, H) = some ((fput φ 17 (fget φ 1), H), ⟨false, [], []⟩) := Z3 rfl (Z7 rfl rfl)
theorem Z05y : stepT E C B 26 ZC ZD7 (φ, H) = some ((fput φ 18 (fget φ 6), H), ⟨false, [], []⟩) := Z3 rfl (Z7 rfl rfl)
theorem Z00b : stepT E C B 26 ZC ZzJ (φ, H) = stpT (some 19) φ H (just (Z2 E.T 22 (fget φ 17) (fget φ 18))) := Z3 rfl (Z5 rfl rfl)
theorem Z06x : stepT E C B 26 ZC Zx1 (φ, H) = stpT (some 20) φ H (just (aLoad E.T 3 (fget φ 19))) := Z3 rfl (Z5 rfl rfl)
theorem ZZv : stepT E C B 26 ZC ZD2 (φ, H) = stpT (some 21) φ H (just (aBin E.T .sub 3 (fget φ 16) (fget φ 20))) := Z3 rfl (Z5 rfl rfl)
theorem ZUe : stepT E C B 26 ZC ZqE (φ, H) = stpT (some 22) φ H (Z4 E.T (B + 22) .max #[3, 3] [(fget φ 21), (.int .i64 0)]) := Z3 rfl (Z5 rfl rfl)
theorem ZPK : stepT E C B 26 ZC ZtJ (φ, H) = stpT (some 23) φ H (just (aBin E.T .add 3 (fget φ 12) (fget φ 22))) := Z3 rfl (Z5 rfl rfl)
theorem ZOY : stepT E C B 26 ZC ZlG (φ, H) = some ((fput φ 5 (fget φ 23), H), ⟨false, [], []⟩) := Z3 rfl (Z7 rfl rfl)
theorem Z0c1 : XQ 90 26 Zac ZqD ZtX := Z0 (by rfl) _
theorem Z0e6 : execA E C (fg 90) B 26 E0 N ZkG s = blockX 1 (fun s => (forget s.1 [], s.2)) (execA E C (fg 90) B 26 E0 N Zac s) := Ze (by rfl) (by rfl) s
def Zm1 := kR Z9m
def Z6K := kO Zm1
def ZCi := opN Z6K 0
def Zy3 := opN Z6K 1
theorem Z0f8 : XG 90 26 Zm1 Z6K [24] := Z1 (by rfl) (by rfl) _
theorem Z0al : Z6K.toList = [ZCi, Zy3] := nf
theorem Z05r : stepA E C B 26 Z6K ZCi (φ, H) = stp (some 24) φ H (just (aBin E.T .add 3 (fget φ 9) (.int .i64 1))) := nf
theorem Z01s : stepA E C B 26 Z6K Zy3 (φ, H) = some (fput φ 9 (fget φ 24), H) := nf
theorem Z0aQ : XQ 90 26 Z9m ZkG Zm1 := Z0 (by rfl) _
theorem Z0bT : XQ 90 26 Zag Zcm Z9m := Z0 (by rfl) _
theorem Z0lL : XQ 90 26 Zap ZnB Zag := Z0 (by rfl) _
theorem Z0l7 : execA E C (fg 90) B 26 E0 N ZDV s = iterA (execA E C (fg 90) B 26 E0 N Zap) (headA E0) N s := ZV (by rfl) s
theorem Z0kq : execA E C (fg 90) B 26 E0 N ZEd s = blockX 0 (fun s => (forget s.1 [0, 1, 8, 9, 10], s.2)) (execA E C (fg 90) B 26 E0 N ZDV s) := Ze (by rfl) (by rfl) s
theorem Z0lP : XQ 90 26 ZiD ZF3 ZEd := Z0 (by rfl) _
def ZbK := kR Zk8
def Zpq := kL ZbK
def Z7L := kO Zpq
def ZBO := opN Z7L 0
def ZC8 := opN Z7L 1
theorem Z0cW : XG 90 26 Zpq Z7L [5, 25] := Z1 (by rfl) (by rfl) _
theorem ZZb : Z7L.toList = [ZBO, ZC8] := nf
theorem Z04S : stepA E C B 26 Z7L ZBO (φ, H) = some (fput φ 25 (fget φ 5), H) := nf
theorem Z0ap : stepA E C B 26 Z7L ZC8 (φ, H) = some (fput φ 4 (fget φ 25), H) := nf
def ZKQ := kR ZbK
theorem Z0aR : execA E C (fg 90) B 26 E0 N ZKQ s = some (.ret, s) := Zq (by rfl) s
theorem Z0bc : XQ 90 26 ZbK Zpq ZKQ := Z0 (by rfl) _
theorem Z0kK : XQ 90 26 Zk8 ZiD ZbK := Z0 (by rfl) _
theorem Z0lT : XQ 90 26 ZjU ZEZ Zk8 := Z0 (by rfl) _
theorem Z0jU : XQ 90 26 Zb6 ZEI ZjU := Z0 (by rfl) _
theorem Z0jP : fInfo E 90 = some ⟨26, #[.tmp 4], Zb6⟩ := nf
theorem b_90 (args : List AV) : bodyA E C fg N 90 args H B = bodyX E [.tmp 4] (execA E C (fg 90) B 26 H N Zb6 (Z8 args 0 [], H)) := Zt Z0jP args H
abbrev F_90 := And.intro (And.intro (And.intro (And.intro (And.intro @Z0mI (And.intro @Z09B @Z000)) (And.intro (And.intro @Z0la @Z07s) (And.intro @Z051 @Z0ji))) (And.intro (And.intro (And.intro @Z02z @Z05Q) (And.intro @Z036 @Z03F)) (And.intro (And.intro @Z0f2 @Z06h) (And.intro @Z03k @Z0aS)))) (And.intro (And.intro (And.intro @Z0gr (And.intro @Z0dO @Z0aX)) (And.intro (And.intro @Z09O @ZZW) (And.intro @Z052 @Z0dD))) (And.intro (And.intro (And.intro @Z09y @ZSE) (And.intro @ZU6 @Z0an)) (And.intro (And.intro @Z062 @ZXq) (And.intro @Z083 @Z00i))))) (And.intro (And.intro (And.intro (And.intro @Z05i (And.intro @Z05y @Z00b)) (And.intro (And.intro @Z06x @ZZv) (And.intro @ZUe @ZPK))) (And.intro (And.intro (And.intro @ZOY @Z0c1) (And.intro @Z0e6 @Z0f8)) (And.intro (And.intro @Z0al @Z05r) (And.intro @Z01s @Z0aQ)))) (And.intro (And.intro (And.intro @Z0bT (And.intro @Z0lL @Z0l7)) (And.intro (And.intro @Z0kq @Z0lP) (And.intro @Z0cW @ZZb))) (And.intro (And.intro (And.intro @Z04S @Z0ap) (And.intro @Z0aR @Z0bc)) (And.intro (And.intro @Z0kK @Z0lT) (And.intro @Z0jU @b_90)))))
def Zae := kBody Proofs.Try.f89
def ZEr := kL Zae
def Zjn := kO ZEr
def ZCJ := opN Zjn 0
theorem Z0js : XG 89 24 ZEr Zjn [4] := Z1 (by rfl) (by rfl) _
theorem ZXG : Zjn.toList = [ZCJ] := nf
theorem ZYO : stepA E C B 24 Zjn ZCJ (φ, H) = some (fput φ 4 (.int .i64 0), H) := nf
def ZjA := kR Zae
def ZDQ := kL ZjA
def Z0w := kO ZDQ
def ZzY := opN Z0w 0
def ZCE := opN Z0w 1
def Zy7 := opN Z0w 2
def Zwq := opN Z0w 3
def Zw9 := opN Z0w 4
def ZDp := opN Z0w 5
def Zya := opN Z0w 6
def ZwS := opN Z0w 7
def ZCY := opN Z0w 8
def Zyg := opN Z0w 9
theorem Z0jJ : XG 89 24 ZDQ Z0w [0, 1, 8, 9, 10, 11, 12, 13, 14] := Z1 (by rfl) (by rfl) _
theorem Z06P : Z0w.toList = [ZzY, ZCE, Zy7, Zwq, Zw9, ZDp, Zya, ZwS, ZCY, Zyg] := nf
theorem ZYf : stepA E C B 24 Z0w ZzY (φ, H) = some (fput φ 9 (fget φ 0), H) := nf
theorem ZYU : stepA E C B 24 Z0w ZCE (φ, H) = some (fput φ 10 (fget φ 1), H) := nf
theorem Z0a2 : stepA E C B 24 Z0w Zy7 (φ, H) = stp (some 11) φ H (aCall C (fun j => B + j * 24 + 11) true 85 [(fget φ 9), (fget φ 10)]) := nf
theorem Z0ah : stepA E C B 24 Z0w Zwq (φ, H) = some (fput φ 8 (fget φ 11), H) := nf
theorem Z03n : stepA E C B 24 Z0w Zw9 (φ, H) = stp (some 12) φ H (Zs (fget φ 8) 0) := nf
theorem Z04p : stepA E C B 24 Z0w ZDp (φ, H) = stp (some 13) φ H (Zs (fget φ 8) 1) := nf
theorem Z00g : stepA E C B 24 Z0w Zya (φ, H) = stp (some 14) φ H (Zs (fget φ 8) 2) := nf
theorem ZZB : stepA E C B 24 Z0w ZwS (φ, H) = some (fput φ 5 (fget φ 12), H) := nf
theorem Z04w : stepA E C B 24 Z0w ZCY (φ, H) = some (fput φ 6 (fget φ 13), H) := nf
theorem Z05T : stepA E C B 24 Z0w Zyg (φ, H) = some (fput φ 7 (fget φ 14), H) := nf
def Zjr := kR ZjA
def Zk1 := kL Zjr
def ZEf := kL Zk1
def Z0P := kO ZEf
def Zyc := opN Z0P 0
def ZxI := opN Z0P 1
def Z3q := opN Z0P 2
def Zwv := opN Z0P 3
def ZzA := opN Z0P 4
def ZDh := opN Z0P 5
def ZA3 := opN Z0P 6
def ZDo := opN Z0P 7
theorem Z0nr : XG 89 24 ZEf Z0P [5, 6, 15, 16, 17, 18, 19, 20, 21] := Z1 (by rfl) (by rfl) _
theorem ZX5 : Z0P.toList = [Zyc, ZxI, Z3q, Zwv, ZzA, ZDh, ZA3, ZDo] := nf
theorem Z09k : stepA E C B 24 Z0P Zyc (φ, H) = some (fput φ 15 (fget φ 7), H) := nf
theorem Z018 : stepA E C B 24 Z0P ZxI (φ, H) = stp (some 16) φ H (just (aBin E.T .eql 24 (fget φ 15) (.int .i64 0))) := nf
theorem Z09n : stepA E C B 24 Z0P Z3q (φ, H) = some (fput φ 17 (fget φ 16), H) := nf
theorem ZX7 : stepA E C B 24 Z0P Zwv (φ, H) = gd φ 17 true (fun φ => some (fput φ 18 (.tup []), H)) (fun φ => some (fput φ 18 (fget φ 5), H)) := s_gd (j := 2) (oj := Z3q) rfl rfl rfl (fun _ => rfl) (fun _ => rfl)
theorem ZY6 : stepA E C B 24 Z0P ZzA (φ, H) = gd φ 17 true (fun φ => some (fput φ 19 (.tup []), H)) (fun φ => some (fput φ 19 (fget φ 6), H)) := s_gd (j := 2) (oj := Z3q) rfl rfl rfl (fun _ => rfl) (fun _ => rfl)
theorem Z010 : stepA E C B 24 Z0P ZDh (φ, H) = gd φ 17 true (fun φ => some (fput φ 20 (.tup []), H)) (fun φ => stp (some 20) φ H (aCall C (fun j => B + j * 24 + 20) true 86 [(fget φ 18), (fget φ 19)])) := s_gd (j := 2) (oj := Z3q) rfl rfl rfl (fun _ => rfl) (fun _ => rfl)
theorem Z04k : stepA E C B 24 Z0P ZA3 (φ, H) = gd φ 17 true (fun φ => some (fput φ 21 (.tup []), H)) (fun φ => stp (some 21) φ H (just (aBin E.T .geq 3 (fget φ 20) (.int .i64 0)))) := s_gd (j := 2) (oj := Z3q) rfl rfl rfl (fun _ => rfl) (fun _ => rfl)
theorem Z01R : stepA E C B 24 Z0P ZDo (φ, H) = stp (some 22) φ H (opPick (fget φ 17) (fget φ 21) (.bool false)) := nf
def ZiJ := kR Zk1
def ZFp := kT ZiJ
def Zj4 := kO ZFp
def ZC6 := opN Zj4 0
theorem Z0jk : XG 89 24 ZFp Zj4 [22] := Z1 (by rfl) (by rfl) _
theorem ZWE : Zj4.toList = [ZC6] := nf
theorem Z06U : stepA E C B 24 Zj4 ZC6 (φ, H) = some (fput φ 7 (.int .i64 12), H) := nf
def ZWy := kE ZiJ
theorem Z0jG : execA E C (fg 89) B 24 E0 N ZWy s = some (.normal, s) := Zh (by rfl) s
theorem Z0kv : XC 89 24 ZiJ 22 ZFp ZWy := Zf (by rfl) _
theorem Z0ku : XQ 89 24 Zk1 ZEf ZiJ := Z0 (by rfl) _
def Zaa := kR Zjr
def Zpm := kL Zaa
def Z71 := kO Zpm
def ZAd := opN Z71 0
def ZwP := opN Z71 1
theorem Z0dS : XG 89 24 Zpm Z71 [7, 22, 23] := Z1 (by rfl) (by rfl) _
theorem Z01a : Z71.toList = [ZAd, ZwP] := nf
theorem Z05f : stepA E C B 24 Z71 ZAd (φ, H) = some (fput φ 23 (fget φ 7), H) := nf
theorem Z004 : stepA E C B 24 Z71 ZwP (φ, H) = some (fput φ 4 (fget φ 23), H) := nf
def ZG8 := kR Zaa
theorem Z0eW : execA E C (fg 89) B 24 E0 N ZG8 s = some (.ret, s) := Zq (by rfl) s
theorem Z0dP : XQ 89 24 Zaa Zpm ZG8 := Z0 (by rfl) _
theorem Z0lN : XQ 89 24 Zjr Zk1 Zaa := Z0 (by rfl) _
theorem Z0jH : XQ 89 24 ZjA ZDQ Zjr := Z0 (by rfl) _
theorem Z0kf : XQ 89 24 Zae ZEr ZjA := Z0 (by rfl) _
theorem Z0kg : fInfo E 89 = some ⟨24, #[.tmp 4], Zae⟩ := nf
theorem b_89 (args : List AV) : bodyA E C fg N 89 args H B = bodyX E [.tmp 4] (execA E C (fg 89) B 24 H N Zae (Z8 args 0 [], H)) := Zt Z0kg args H
abbrev F_89 := And.intro (And.intro (And.intro (And.intro (And.intro @Z0js @ZXG) (And.intro @ZYO (And.intro @Z0jJ @Z06P))) (And.intro (And.intro @ZYf @ZYU) (And.intro @Z0a2 (And.intro @Z0ah @Z03n)))) (And.intro (And.intro (And.intro @Z04p @Z00g) (And.intro @ZZB (And.intro @Z04w @Z05T))) (And.intro (And.intro @Z0nr @ZX5) (And.intro @Z09k (And.intro @Z018 @Z09n))))) (And.intro (And.intro (And.intro (And.intro @ZX7 @ZY6) (And.intro @Z010 (And.intro @Z04k @Z01R))) (And.intro (And.intro @Z0jk @ZWE) (And.intro @Z06U (And.intro @Z0jG @Z0kv)))) (And.intro (And.intro (And.intro @Z0ku @Z0dS) (And.intro @Z01a (And.intro @Z05f @Z004))) (And.intro (And.intro @Z0eW (And.intro @Z0dP @Z0lN)) (And.intro @Z0jH (And.intro @Z0kf @b_89)))))
end Go.AM.Ytfmnoohhhokicaa
end
noncomputable section
namespace Go.AM.Rub
def ps (f : Nat → Int) : Nat → Int
 | 0 => 0
 | k + 1 => ps f k + f k
theorem Z1A {f g : Nat → Int} : ∀ n, (∀ i, i < n → f i = g i) → ps f n = ps g n
 | 0, _ => rfl
 | n + 1, h => by simp only [ps]; rw [Z1A n fun i hi => h i (by omega), h n (by omega)]
def ap (a b : Nat → Int) (n : Nat) : Int := ps (fun i => max (a i - b i) 0) n
def DescF (a : Nat → Int) (n : Nat) : Prop := ∀ i, i + 1 < n → a (i + 1) ≤ a i
theorem Zyx {a : Nat → Int} {n : Nat} (h : DescF a n) : ∀ m i, i + m < n → a (i + m) ≤ a i
 | 0, i, _ => Int.le_refl _
 | m + 1, i, hi => by
   have := Zyx h m i (by omega)
   have := h (i + m) (by omega)
   rw [show i + (m + 1) = i + m + 1 by omega]; omega
theorem Z1F {a : Nat → Int} {n : Nat} (h : DescF a n) {i j : Nat} (hij : i ≤ j) (hj : j < n) : a j ≤ a i := by
 have := Zyx h (j - i) i (by omega)
 rwa [show i + (j - i) = j by omega] at this
structure Maj (a b : Nat → Int) (n : Nat) : Prop where
 eq : ps a n = ps b n
 le : ∀ k, k ≤ n → ps b k ≤ ps a k
theorem Maj.refl (a : Nat → Int) (n : Nat) : Maj a a n := ⟨rfl, fun _ _ => Int.le_refl _⟩
theorem Maj.trans {a b c : Nat → Int} {n : Nat} (h1 : Maj a b n) (h2 : Maj b c n) : Maj a c n :=
 ⟨h1.eq.trans h2.eq, fun k hk => Int.le_trans (h2.le k hk) (h1.le k hk)⟩
def mvF (a : Nat → Int) (i j : Nat) (m : Nat) : Int := if m = i then a m - 1 else if m = j then a m + 1 else a m
theorem Zc8 {a : Nat → Int} {i j : Nat} (hij : i < j) : ∀ k, ps (mvF a i j) k = ps a k - (if i < k ∧ k ≤ j then 1 else 0)
 | 0 => by simp [ps]
 | k + 1 => by
   simp only [ps, Zc8 hij k, mvF]
   by_cases h1 : k = i
   · subst h1
     rw [if_pos rfl, if_neg (by omega), if_pos (by omega)]; omega
   · rw [if_neg h1]
     by_cases h2 : k = j
     · subst h2
       rw [if_pos rfl, if_pos (by omega), if_neg (by omega)]; omega
     · rw [if_neg h2]
       by_cases h3 : i < k ∧ k ≤ j
       · rw [if_pos h3, if_pos (by omega)]; omega
       · rw [if_neg h3, if_neg (by omega)]; omega
theorem Z0g1 {a : Nat → Int} {i j n : Nat} (hij : i < j) (hj : j < n) : Maj a (mvF a i j) n := by
 refine ⟨?_, fun k _ => ?_⟩
 · rw [Zc8 hij, if_neg (by omega)]; omega
 · rw [Zc8 hij]; split <;> omega
theorem Z5o {a b : Nat → Int} {i j : Nat} (hij : i < j) : ∀ n, ap a b n - 1 ≤ ap (mvF a i j) b n ∧ (n ≤ j → ap (mvF a i j) b n ≤ ap a b n) ∧ ap (mvF a i j) b n ≤ ap a b n + 1
 | 0 => by simp [ap, ps]
 | n + 1 => by
   obtain ⟨h1, h2, h3⟩ := Z5o (a := a) (b := b) hij n
   simp only [ap, ps] at *
   have key : (n ≤ i → ps (fun i_1 => max (mvF a i j i_1 - b i_1) 0) n = ps (fun i => max (a i - b i) 0) n) := fun hn => Z1A n fun m hm => by
     simp only [mvF]; rw [if_neg (by omega), if_neg (by omega)]
   have e : mvF a i j n = (if n = i then a n - 1 else if n = j then a n + 1 else a n) := rfl
   rw [e]
   by_cases hi : n = i
   · have := key (by omega)
     rw [if_pos hi]; omega
   · rw [if_neg hi]
     by_cases hj : n = j
     · have := h2 (by omega)
       rw [if_pos hj]; omega
     · rw [if_neg hj]; omega
theorem Zq7 {P : Nat → Prop} [DecidablePred P] : ∀ n, (∃ k, k < n ∧ P k) → ∃ k, k < n ∧ P k ∧ ∀ m, m < k → ¬ P m
 | 0, h => by obtain ⟨k, hk, _⟩ := h; omega
 | n + 1, h => by
   by_cases hx : ∃ k, k < n ∧ P k
   · obtain ⟨k, h1, h2, h3⟩ := Zq7 n hx
     exact ⟨k, by omega, h2, h3⟩
   · obtain ⟨k, hk, hp⟩ := h
     have : k = n := by
       by_cases e : k = n
       · exact e
       · exact absurd ⟨k, by omega, hp⟩ hx
     subst this
     exact ⟨k, by omega, hp, fun m hm hpm => hx ⟨m, hm, hpm⟩⟩
theorem Zy4 {P : Nat → Prop} [DecidablePred P] : ∀ n, (∃ k, k < n ∧ P k) → ∃ k, k < n ∧ P k ∧ ∀ m, k < m → m < n → ¬ P m
 | 0, h => by obtain ⟨k, hk, _⟩ := h; omega
 | n + 1, h => by
   by_cases hp : P n
   · exact ⟨n, by omega, hp, fun m h1 h2 => by omega⟩
   · obtain ⟨k, hk, hpk⟩ := h
     have hkn : k ≠ n := fun e => hp (e ▸ hpk)
     obtain ⟨k', h1, h2, h3⟩ := Zy4 n ⟨k, by omega, hpk⟩
     refine ⟨k', by omega, h2, fun m hm1 hm2 => ?_⟩
     by_cases e : m = n
     · subst e; exact hp
     · exact h3 m hm1 (by omega)
theorem ZFh {a b : Nat → Int} : ∀ n, (∀ i, i < n → b i ≤ a i) → ps b n ≤ ps a n
 | 0, _ => by simp [ps]
 | n + 1, h => by
   have := ZFh n fun i hi => h i (by omega)
   have := h n (by omega)
   simp only [ps]; omega
theorem Z5i {a b : Nat → Int} {i : Nat} : ∀ n, i < n → (∀ m, m < n → b m ≤ a m) → ps b n + (a i - b i) ≤ ps a n
 | 0, hi, _ => by omega
 | n + 1, hi, h => by
   simp only [ps]
   by_cases e : i = n
   · subst e
     have := ZFh i fun m hm => h m (by omega)
     omega
   · have := Z5i (i := i) n (by omega) fun m hm => h m (by omega)
     have := h n (by omega)
     omega
theorem ZRO {a b : Nat → Int} {n : Nat} (ha : DescF a n) (hb : DescF b n) (h : Maj a b n) (hne : ∃ k, k < n ∧ a k ≠ b k) :
   ∃ i j, i < j ∧ j < n ∧ a i - a j ≥ 2 ∧ DescF (mvF a i j) n ∧ Maj (mvF a i j) b n ∧ ap (mvF a i j) b n = ap a b n - 1 ∧ (∀ m, i < m → m < n → a m < a i) ∧ (∀ m, m < j → a j < a m) := by
 have hlt : ∃ k, k < n ∧ a k < b k := by
   by_cases hx : ∃ k, k < n ∧ a k < b k
   · exact hx
   · have hge : ∀ m, m < n → b m ≤ a m := fun m hm => by
       by_cases e : a m < b m
       · exact absurd ⟨m, hm, e⟩ hx
       · omega
     obtain ⟨k, hk, hk2⟩ := hne
     have := Z5i (i := k) n hk hge
     have := hge k hk
     have := h.eq
     omega
 obtain ⟨j, hj, hjl, hjf⟩ := Zq7 n hlt
 have hgt : ∃ k, k < j ∧ b k < a k := by
   by_cases hx : ∃ k, k < j ∧ b k < a k
   · exact hx
   · have hle : ∀ m, m < j → a m ≤ b m := fun m hm => by
       by_cases e : b m < a m
       · exact absurd ⟨m, hm, e⟩ hx
       · omega
     have := ZFh (a := b) (b := a) j hle
     have := h.le (j + 1) (by omega)
     simp only [ps] at this
     omega
 obtain ⟨i, hi, hig, hil⟩ := Zy4 j hgt
 have mid : ∀ m, i < m → m < j → a m = b m := fun m h1 h2 => by
   have := hil m h1 h2
   have := hjf m h2
   omega
 have before : ∀ m, m < j → b m ≤ a m := fun m hm => by have := hjf m hm; omega
 have bij : b j ≤ b i := Z1F hb (by omega) hj
 have h2 : a i - a j ≥ 2 := by omega
 have li : ∀ m, i < m → m < n → a m < a i := fun m h1 hm => by
   by_cases e : m < j
   · have := mid m h1 e
     have := Z1F hb (show i ≤ m by omega) hm
     omega
   · have := Z1F ha (show j ≤ m by omega) hm
     omega
 have fj : ∀ m, m < j → a j < a m := fun m hm => by
   by_cases e : i < m
   · have := mid m e hm
     have := Z1F hb (show m ≤ j by omega) hj
     omega
   · have := Z1F ha (show m ≤ i by omega) (by omega)
     omega
 refine ⟨i, j, hi, hj, h2, ?_, ?_, ?_, li, fj⟩
 · intro m hm
   have d := ha m hm
   simp only [mvF]
   by_cases e1 : m + 1 = i
   · rw [if_pos e1, if_neg (by omega), if_neg (by omega)]; omega
   · rw [if_neg e1]
     by_cases e2 : m + 1 = j
     · rw [if_pos e2]
       have := fj m (by omega)
       subst e2
       by_cases e3 : m = i
       · subst e3; rw [if_pos rfl]; omega
       · rw [if_neg e3, if_neg (by omega)]; omega
     · rw [if_neg e2]
       by_cases e3 : m = i
       · subst e3; rw [if_pos rfl]
         have := li (m + 1) (by omega) hm
         omega
       · rw [if_neg e3]
         by_cases e4 : m = j
         · rw [if_pos e4]; omega
         · rw [if_neg e4]; exact d
 · refine ⟨?_, fun k hk => ?_⟩
   · rw [Zc8 hi, if_neg (by omega)]; have := h.eq; omega
   · rw [Zc8 hi]
     have := h.le k hk
     split
     · rename_i hc
       have := Z5i (a := a) (b := b) (i := i) k (by omega) fun m hm => before m (by omega)
       omega
     · omega
 · have key : ∀ k, k ≤ n → ap (mvF a i j) b k = ap a b k - (if i < k then 1 else 0) := by
     intro k
     induction k with
     | zero => intro _; simp [ap, ps]
     | succ k ih =>
       intro hk
       have ih := ih (by omega)
       simp only [ap, ps] at ih ⊢
       rw [ih]
       have e : mvF a i j k = (if k = i then a k - 1 else if k = j then a k + 1 else a k) := rfl
       rw [e]
       by_cases e1 : k = i
       · subst e1; rw [if_pos rfl, if_neg (by omega), if_pos (by omega)]; omega
       · rw [if_neg e1]
         by_cases e2 : k = j
         · subst e2; rw [if_pos rfl, if_pos (by omega), if_pos (by omega)]; omega
         · rw [if_neg e2]
           by_cases e3 : i < k
           · rw [if_pos e3, if_pos (by omega)]; omega
           · rw [if_neg e3, if_neg (by omega)]; omega
   have := key n (Nat.le_refl _)
   rwa [if_pos (by omega)] at this
theorem Z5X (a b : Nat → Int) : ∀ n, 0 ≤ ap a b n
 | 0 => by simp [ap, ps]
 | n + 1 => by
   have := Z5X a b n
   simp only [ap, ps] at *; omega
theorem Z1C {a b : Nat → Int} : ∀ n, ap a b n = 0 ↔ ∀ k, k < n → a k ≤ b k
 | 0 => by simp [ap, ps]
 | n + 1 => by
   have ih := Z1C (a := a) (b := b) n
   have := Z5X a b n
   simp only [ap, ps] at *
   constructor
   · intro h k hk
     by_cases e : k = n
     · subst e; omega
     · exact ih.1 (by omega) k (by omega)
   · intro h
     have := ih.2 fun k hk => h k (by omega)
     have := h n (by omega)
     omega
theorem Z8u {a b : Nat → Int} {n : Nat} (h : ∀ k, k < n → a k ≤ b k) (he : ps a n = ps b n) : ∀ k, k < n → a k = b k := fun k hk => by
 have := Z5i (a := b) (b := a) (i := k) n hk h
 have := h k hk
 omega
end Go.AM.Rub
end
noncomputable section
namespace Go.AM.Rub
def IsRow : Int → List Int → Prop
 | _, [] => True
 | m, x :: l => 0 ≤ x ∧ x ≤ m ∧ IsRow x l
def totL : List Int → Int
 | [] => 0
 | x :: l => x + totL l
def dnN : Nat → List Int
 | 0 => [0]
 | n + 1 => ((n + 1 : Nat) : Int) :: dnN n
def dn (k : Int) : List Int := if k < 0 then [] else dnN k.toNat
theorem ZAg : ∀ (n : Nat) (x : Int), x ∈ dnN n ↔ 0 ≤ x ∧ x ≤ n
 | 0, x => by simp [dnN]; omega
 | n + 1, x => by
   simp only [dnN, List.mem_cons, ZAg n x]
   omega
theorem ZMw (k x : Int) : x ∈ dn k ↔ 0 ≤ x ∧ x ≤ k := by
 unfold dn
 split
 · simp; omega
 · rw [ZAg]; omega
theorem Zb8 : ∀ n, (dnN n).length = n + 1
 | 0 => rfl
 | n + 1 => by simp [dnN, Zb8 n]
def rowsL : Nat → Int → Int → List (List Int)
 | 0, s, _ => if s = 0 then [[]] else []
 | n + 1, s, m => (dn (min m s)).flatMap fun t => (rowsL n (s - t) t).map (t :: ·)
theorem Z8e : ∀ {m : Int} {l : List Int}, IsRow m l → 0 ≤ totL l
 | _, [], _ => by simp [totL]
 | m, x :: l, ⟨h1, h2, h3⟩ => by have := Z8e h3; simp only [totL]; omega
theorem Z5V : ∀ (n : Nat) (s m : Int) (l : List Int), l ∈ rowsL n s m ↔ l.length = n ∧ totL l = s ∧ IsRow m l
 | 0, s, m, l => by
   simp only [rowsL]
   constructor
   · intro h
     split at h
     · rename_i hs
       have h : l = [] := by simpa using h
       subst h; exact ⟨rfl, by simp [totL, hs], trivial⟩
     · simp at h
   · rintro ⟨h1, h2, h3⟩
     obtain rfl := List.length_eq_zero_iff.1 h1
     simp only [totL] at h2
     rw [if_pos h2.symm]; simp
 | n + 1, s, m, l => by
   simp only [rowsL, List.mem_flatMap, List.mem_map, ZMw]
   constructor
   · rintro ⟨t, ⟨t0, t1⟩, r, hr, rfl⟩
     obtain ⟨h1, h2, h3⟩ := (Z5V n (s - t) t r).1 hr
     exact ⟨by simp [h1], by simp only [totL]; omega, t0, by omega, h3⟩
   · rintro ⟨h1, h2, h3⟩
     match l, h1, h2, h3 with
     | x :: r, h1, h2, ⟨a, b, c⟩ =>
       have := Z8e c
       simp only [totL] at h2
       exact ⟨x, ⟨a, by omega⟩, r, (Z5V n (s - x) x r).2 ⟨by simpa using h1, by omega, c⟩, rfl⟩
theorem Zp6 {β : Type} {f : Int → List β} {M : Nat} : ∀ {ts : List Int}, (∀ t ∈ ts, (f t).length ≤ M) → (ts.flatMap f).length ≤ ts.length * M
 | [], _ => by simp
 | t :: ts, h => by
   have := Zp6 (f := f) (M := M) (ts := ts) fun u hu => h u (by simp [hu])
   have := h t (by simp)
   simp only [List.flatMap_cons, List.length_append, List.length_cons, Nat.add_mul, Nat.one_mul]
   omega
theorem Zer : ∀ (n : Nat) (s m : Int), m ≤ 8 → (rowsL n s m).length ≤ 9 ^ n
 | 0, s, m, _ => by simp only [rowsL]; split <;> simp
 | n + 1, s, m, hm => by
   simp only [rowsL]
   refine Nat.le_trans (Zp6 (M := 9 ^ n) fun t ht => ?_) ?_
   · rw [List.length_map]
     have := (ZMw _ _).1 ht
     exact Zer n (s - t) t (by omega)
   · rw [Nat.pow_succ, Nat.mul_comm (9 ^ n)]
     refine Nat.mul_le_mul_right _ ?_
     unfold dn
     split
     · simp
     · rw [Zb8]; omega
def rowF (l : List Int) (i : Nat) : Int := l.getD i 0
theorem ZzE (x : Int) (l : List Int) : ∀ k, ps (rowF (x :: l)) (k + 1) = x + ps (rowF l) k
 | 0 => by simp [ps, rowF]
 | k + 1 => by rw [ps, ZzE x l k, ps]; simp [rowF]; omega
theorem Zo3 : ∀ l : List Int, ps (rowF l) l.length = totL l
 | [] => rfl
 | x :: l => by rw [List.length_cons, ZzE, Zo3 l]; rfl
theorem Z1b : ∀ {m : Int} {l : List Int}, IsRow m l → DescF (rowF l) l.length
 | _, [], _ => fun i hi => by simp at hi
 | m, x :: l, ⟨h1, h2, h3⟩ => fun i hi => by
   cases i with
   | zero =>
     cases l with
     | nil => simp at hi
     | cons y l => simp only [rowF]; simp; exact h3.2.1
   | succ i =>
     have := Z1b h3 i (by simpa using hi)
     simpa [rowF] using this
end Go.AM.Rub
end
noncomputable section
namespace Go.AM.Rub
noncomputable section
variable {α : Type}
def addN [DecidableEq α] (all : List α) : List α → List α
 | [] => all
 | l :: ls => if l ∈ all then addN all ls else addN (all ++ [l]) ls
theorem Z3c [DecidableEq α] : ∀ (ls all : List α), ∃ new, addN all ls = all ++ new ∧ (∀ l ∈ new, l ∈ ls ∧ l ∉ all) ∧ (all.Nodup → (all ++ new).Nodup) ∧ ∀ l ∈ ls, l ∈ all ++ new
 | [], all => ⟨[], by simp [addN], by simp, by simp, by simp⟩
 | l :: ls, all => by
   by_cases h : l ∈ all
   · obtain ⟨new, e, a, b, c⟩ := Z3c ls all
     refine ⟨new, by rw [addN, if_pos h, e], fun x hx => ⟨by simp [(a x hx).1], (a x hx).2⟩, b, fun x hx => ?_⟩
     rcases List.mem_cons.1 hx with rfl | hx
     · simp [h]
     · exact c x hx
   · obtain ⟨new, e, a, b, c⟩ := Z3c ls (all ++ [l])
     refine ⟨l :: new, by rw [addN, if_neg h, e]; simp, fun x hx => ?_, fun hn => ?_, fun x hx => ?_⟩
     · rcases List.mem_cons.1 hx with rfl | hx
       · exact ⟨by simp, h⟩
       · obtain ⟨p, q⟩ := a x hx
         exact ⟨by simp [p], fun hm => q (by simp [hm])⟩
     · have : (all ++ [l]).Nodup := by
         rw [List.nodup_append]
         refine ⟨hn, by simp, fun x hx y hy => ?_⟩
         intro e
         simp at hy
         rw [e, hy] at hx
         exact h hx
       have := b this
       simpa using this
     · rcases List.mem_cons.1 hx with rfl | hx
       · simp
       · have := c x hx; simpa using this
structure Lev (S : α → Prop) (nb : α → List α) (D : α → Nat) (row : α) : Prop where
 s0 : S row
 d0 : D row = 0
 one : ∀ y, S y → D y = 0 → y = row
 fw : ∀ x, S x → ∀ y ∈ nb x, S y ∧ D y ≤ D x + 1
 bw : ∀ y, S y → ∀ d, D y = d + 1 → ∃ x, S x ∧ D x = d ∧ y ∈ nb x
structure BInv (S : α → Prop) (nb : α → List α) (D : α → Nat) (row : α) (all : List α) (i : Nat) : Prop where
 nd : all.Nodup
 sub : ∀ x ∈ all, S x
 hd : all[0]? = some row
 srt : ∀ (k m : Nat) (x y : α), k ≤ m → all[k]? = some x → all[m]? = some y → D x ≤ D y
 pr : ∀ (k : Nat) (x : α), k < i → all[k]? = some x → ∀ y ∈ nb x, y ∈ all
 cmp : ∀ x : α, all[i]? = some x → (∀ y, S y → D y ≤ D x → y ∈ all) ∧ ∀ y ∈ all, D y ≤ D x + 1
 le : i ≤ all.length
variable {S : α → Prop} {nb : α → List α} {D : α → Nat} {row : α}
theorem ZG3 (h : Lev S nb D row) : BInv S nb D row [row] 0 := by
 refine ⟨by simp, fun x hx => by simp at hx; subst hx; exact h.s0, rfl, fun k m x y hkm hx hy => ?_, fun k x hk => by omega, fun x hx => ?_, by simp⟩
 · have : m = 0 := by have := (List.getElem?_eq_some_iff.1 hy).1; simp at this; omega
   have : k = 0 := by omega
   subst_vars
   rw [hx] at hy; simp at hy; subst hy; exact Nat.le_refl _
 · simp at hx; subst hx
   refine ⟨fun y hy hd => ?_, fun y hy => ?_⟩
   · have := h.one y hy (by have := h.d0; omega)
     simp [this]
   · simp at hy; subst hy; omega
theorem Znm [DecidableEq α] (h : Lev S nb D row) {all : List α} {i : Nat} (hi : BInv S nb D row all i) {x : α} (hx : all[i]? = some x) :
   BInv S nb D row (addN all (nb x)) (i + 1) ∧ ∀ new, addN all (nb x) = all ++ new → ∀ l ∈ new, D l = D x + 1 := by
 obtain ⟨nd, sub, hd, srt, pr, cmp, le⟩ := hi
 obtain ⟨c1, c2⟩ := cmp x hx
 obtain ⟨new, e, a, b, c⟩ := Z3c (nb x) all
 have sx := sub x (List.mem_of_getElem? hx)
 have hnew : ∀ l ∈ new, D l = D x + 1 := by
   intro l hl
   obtain ⟨p, q⟩ := a l hl
   obtain ⟨s1, s2⟩ := h.fw x sx l p
   by_cases e : D l ≤ D x
   · exact absurd (c1 l s1 e) q
   · omega
 refine ⟨?_, fun new' e' => ?_⟩
 · rw [e]
   have hlt := (List.getElem?_eq_some_iff.1 hx).1
   have old : ∀ (k : Nat) (y : α), k < all.length → (all ++ new)[k]? = some y → all[k]? = some y := fun k y hk hy => by rwa [List.getElem?_append_left hk] at hy
   have new' : ∀ (k : Nat) (y : α), all.length ≤ k → (all ++ new)[k]? = some y → y ∈ new := fun k y hk hy => by
     rw [List.getElem?_append_right hk] at hy; exact List.mem_of_getElem? hy
   have hsub : ∀ y ∈ all ++ new, S y := fun y hy => by
     rcases List.mem_append.1 hy with hy | hy
     · exact sub y hy
     · exact (h.fw x sx y (a y hy).1).1
   have hsrt : ∀ (k m : Nat) (y z : α), k ≤ m → (all ++ new)[k]? = some y → (all ++ new)[m]? = some z → D y ≤ D z := by
     intro k m y z hkm hy hz
     by_cases h1 : m < all.length
     · exact srt k m y z hkm (old k y (by omega) hy) (old m z h1 hz)
     · have dz := hnew z (new' m z (by omega) hz)
       by_cases h2 : k < all.length
       · have := c2 y (List.mem_of_getElem? (old k y h2 hy)); omega
       · have := hnew y (new' k y (by omega) hy); omega
   have hpr : ∀ (k : Nat) (y : α), k < i + 1 → (all ++ new)[k]? = some y → ∀ z ∈ nb y, z ∈ all ++ new := by
     intro k y hk hy z hz
     by_cases e : k = i
     · subst e
       have := old k y hlt hy
       rw [hx] at this; obtain rfl := Option.some.inj this
       exact c z hz
     · exact List.mem_append.2 (.inl (pr k y (by omega) (old k y (by omega) hy) z hz))
   refine ⟨b nd, hsub, by rw [List.getElem?_append_left (by omega)]; exact hd, hsrt, hpr, fun y hy => ?_, by simp; omega⟩
   have hxx : (all ++ new)[i]? = some x := by rw [List.getElem?_append_left hlt]; exact hx
   have dxy := hsrt i (i + 1) x y (by omega) hxx hy
   have dy : D y = D x ∨ D y = D x + 1 := by
     by_cases h1 : i + 1 < all.length
     · have := c2 y (List.mem_of_getElem? (old _ y h1 hy)); omega
     · have := hnew y (new' _ y (by omega) hy); omega
   refine ⟨fun z hz hdz => ?_, fun z hz => ?_⟩
   · by_cases h1 : D z ≤ D x
     · exact List.mem_append.2 (.inl (c1 z hz h1))
     · -- one level on: the step before it has been seen
       obtain ⟨w, sw, dw, hw⟩ := h.bw z hz (D x) (by omega)
       have hwm := c1 w sw (by omega)
       obtain ⟨k, hk⟩ := List.mem_iff_getElem?.1 hwm
       by_cases h2 : k < i + 1
       · exact hpr k w h2 (by rw [List.getElem?_append_left (List.getElem?_eq_some_iff.1 hk).1]; exact hk) z hw
       · have h3 := hsrt (i + 1) k y w (by omega) hy (by rw [List.getElem?_append_left (List.getElem?_eq_some_iff.1 hk).1]; exact hk)
         omega
   · rcases List.mem_append.1 hz with hz | hz
     · have := c2 z hz; omega
     · have := hnew z hz; omega
 · have : new' = new := List.append_cancel_left (e'.symm.trans e)
   subst this; exact hnew
theorem ZYZ (h : Lev S nb D row) {all : List α} (hi : BInv S nb D row all all.length) : ∀ d y, S y → D y = d → y ∈ all := by
 intro d
 induction d with
 | zero => intro y hy hd; rw [h.one y hy hd]; exact List.mem_of_getElem? hi.hd
 | succ d ih =>
   intro y hy hd
   obtain ⟨x, sx, dx, hx⟩ := h.bw y hy d hd
   obtain ⟨k, hk⟩ := List.mem_iff_getElem?.1 (ih x sx dx)
   exact hi.pr k x (List.getElem?_eq_some_iff.1 hk).1 hk y hx
theorem Z01z (h : Lev S nb D row) {all : List α} (hi : BInv S nb D row all all.length) (y : α) : y ∈ all ↔ S y := ⟨hi.sub y, fun hy => ZYZ h hi _ y hy rfl⟩
theorem ZgU [DecidableEq α] : ∀ (l u : List α), l.Nodup → (∀ x ∈ l, x ∈ u) → l.length ≤ u.length
 | [], u, _, _ => by simp
 | x :: l, u, hn, hs => by
   have hx := hs x (by simp)
   have hn' := List.nodup_cons.1 hn
   have : l.length ≤ (u.erase x).length := ZgU l (u.erase x) hn'.2 fun y hy => by
     have hne : y ≠ x := fun e => hn'.1 (e ▸ hy)
     rw [List.mem_erase_of_ne hne]
     exact hs y (by simp [hy])
   have hl := List.length_erase_of_mem hx
   have : 0 < u.length := List.length_pos_of_mem hx
   simp only [List.length_cons]
   omega
end
end Go.AM.Rub
end
noncomputable section
namespace Go.AM.Rub
theorem Z8t : ∀ {m : Int} {l : List Int}, (∀ i, i < l.length → 0 ≤ rowF l i) → (0 < l.length → rowF l 0 ≤ m) → DescF (rowF l) l.length → IsRow m l
 | _, [], _, _, _ => trivial
 | m, x :: l, h1, h2, h3 => by
   refine ⟨h1 0 (by simp), h2 (by simp), Z8t (fun i hi => ?_) (fun hl => ?_) (fun i hi => ?_)⟩
   · have := h1 (i + 1) (by simpa using hi); simpa [rowF] using this
   · have := h3 0 (by simpa using hl); simpa [rowF] using this
   · have := h3 (i + 1) (by simpa using hi); simpa [rowF] using this
theorem Z1B : ∀ {m : Int} {l : List Int}, IsRow m l → ∀ i, i < l.length → 0 ≤ rowF l i ∧ rowF l i ≤ m
 | _, [], _, i, hi => by simp at hi
 | m, x :: l, ⟨h1, h2, h3⟩, i, hi => by
   cases i with
   | zero => simp only [rowF]; simp; exact ⟨h1, h2⟩
   | succ i =>
     have := Z1B h3 i (by simpa using hi)
     have e : rowF (x :: l) (i + 1) = rowF l i := by simp [rowF]
     rw [e]; omega
theorem Z4P {a b : List Int} (hl : a.length = b.length) (h : ∀ i, i < a.length → rowF a i = rowF b i) : a = b := by
 apply List.ext_getElem hl
 intro i h1 h2
 have := h i h1
 simpa [rowF, h1, h2] using this
def mvL (l : List Int) (i j : Nat) : List Int := (l.set i (rowF l i - 1)).set j (rowF l j + 1)
theorem Zw (l : List Int) (i j : Nat) : (mvL l i j).length = l.length := by simp [mvL]
theorem Z0M {l : List Int} {i j : Nat} (hij : i < j) (hj : j < l.length) (m : Nat) : rowF (mvL l i j) m = mvF (rowF l) i j m := by
 simp only [mvL, mvF]
 have e : ∀ (l : List Int) (k m : Nat) (v : Int), k < l.length → rowF (l.set k v) m = if m = k then v else rowF l m := by
   intro l k m v hk
   simp only [rowF, List.getD_eq_getElem?_getD, List.getElem?_set]
   by_cases h : k = m
   · subst h; simp [hk]
   · rw [if_neg h, if_neg (by omega)]
 rw [e _ _ _ _ (by simp; omega), e _ _ _ _ (by omega)]
 by_cases h1 : m = j
 · rw [if_pos h1, if_neg (by omega), if_pos h1, h1]
 · rw [if_neg h1, if_neg h1]
   by_cases h2 : m = i
   · rw [if_pos h2, if_pos h2, h2]
   · rw [if_neg h2, if_neg h2]
def lastEq (l : List Int) : Nat → Nat → Nat
 | i, 0 => i
 | i, m + 1 => if i + 1 < l.length ∧ rowF l (i + 1) = rowF l i then lastEq l (i + 1) m else i
def firstEq (l : List Int) : Nat → Nat
 | 0 => 0
 | j + 1 => if rowF l j = rowF l (j + 1) then firstEq l j else j + 1
theorem Z2Q {l : List Int} (hd : DescF (rowF l) l.length) : ∀ (m i : Nat), i + m + 1 ≥ l.length → i < l.length → i ≤ lastEq l i m ∧ lastEq l i m < l.length ∧ rowF l (lastEq l i m) = rowF l i ∧ ∀ k, lastEq l i m < k → k < l.length → rowF l k < rowF l i
 | 0, i, h1, h2 => ⟨Nat.le_refl _, h2, rfl, fun k hk hk2 => by simp only [lastEq] at hk; omega⟩
 | m + 1, i, h1, h2 => by
   simp only [lastEq]
   by_cases h : i + 1 < l.length ∧ rowF l (i + 1) = rowF l i
   · rw [if_pos h]
     obtain ⟨a, b, c, d⟩ := Z2Q hd m (i + 1) (by omega) h.1
     exact ⟨by omega, b, by rw [c, h.2], fun k hk hk2 => by rw [← h.2]; exact d k hk hk2⟩
   · rw [if_neg h]
     refine ⟨Nat.le_refl _, h2, rfl, fun k hk hk2 => ?_⟩
     have h3 : ¬ rowF l (i + 1) = rowF l i := fun e => h ⟨by omega, e⟩
     have h4 := hd i (by omega)
     have h5 := Z1F hd (show i + 1 ≤ k by omega) hk2
     omega
theorem Z2i {l : List Int} (hd : DescF (rowF l) l.length) : ∀ j, j < l.length → firstEq l j ≤ j ∧ rowF l (firstEq l j) = rowF l j ∧ ∀ k, k < firstEq l j → rowF l j < rowF l k
 | 0, _ => ⟨Nat.le_refl _, rfl, fun k hk => by simp only [firstEq] at hk; omega⟩
 | j + 1, hj => by
   simp only [firstEq]
   by_cases h : rowF l j = rowF l (j + 1)
   · rw [if_pos h]
     obtain ⟨a, b, c⟩ := Z2i hd j (by omega)
     exact ⟨by omega, by rw [b, h], fun k hk => by rw [← h]; exact c k hk⟩
   · rw [if_neg h]
     refine ⟨Nat.le_refl _, rfl, fun k hk => ?_⟩
     have h4 := hd j hj
     have h5 := Z1F hd (show k ≤ j by omega) (by omega)
     omega
def rubL (l : List Int) (i j : Nat) : List Int := mvL l (lastEq l i l.length) (firstEq l j)
structure Rw (n : Nat) (l : List Int) : Prop where
 len : l.length = n
 row : IsRow 8 l
theorem ZJ4 {n : Nat} {l : List Int} (h : Rw n l) {i j : Nat} (hij : i < j) (hj : j < n) (h2 : rowF l i - rowF l j ≥ 2) (hd : DescF (mvF (rowF l) i j) n) : Rw n (mvL l i j) := by
 have hl := h.len
 refine ⟨by rw [Zw, hl], Z8t (fun k hk => ?_) (fun hk => ?_) (fun k hk => ?_)⟩
 · rw [Zw] at hk
   rw [Z0M hij (by omega)]
   have a := Z1B h.row k hk
   have b := Z1B h.row j (by omega)
   simp only [mvF]
   by_cases e1 : k = i
   · rw [if_pos e1, e1]; omega
   · rw [if_neg e1]; split <;> omega
 · rw [Z0M hij (by omega)]
   have a := Z1B h.row 0 (by omega)
   have b := Z1B h.row i (by omega)
   simp only [mvF]
   by_cases e1 : 0 = i
   · rw [if_pos e1]; omega
   · rw [if_neg e1, if_neg (by omega)]; omega
 · rw [Zw, hl] at hk
   rw [Z0M hij (by omega), Z0M hij (by omega)]
   exact hd k hk
structure Rb (n : Nat) (l : List Int) (i j : Nat) : Prop where
 lt : i < j
 lj : j < n
 df : rowF l i - rowF l j ≥ 2
theorem Z3L {n : Nat} {l : List Int} (h : Rw n l) {i j : Nat} (r : Rb n l i j) : Rb n l (lastEq l i l.length) (firstEq l j) ∧ DescF (mvF (rowF l) (lastEq l i l.length) (firstEq l j)) n := by
 have hl := h.len
 have hd := Z1b h.row
 obtain ⟨a1, a2, a3, a4⟩ := Z2Q hd l.length i (by omega) (by have := r.lt; have := r.lj; omega)
 obtain ⟨b1, b2, b3⟩ := Z2i hd j (by have := r.lj; omega)
 have rd := r.df
 have rj := r.lj
 have hij : lastEq l i l.length < firstEq l j := by
   by_cases e : lastEq l i l.length < firstEq l j
   · exact e
   · have := Z1F hd (show firstEq l j ≤ lastEq l i l.length by omega) a2
     omega
 refine ⟨⟨hij, by omega, by omega⟩, fun m hm => ?_⟩
 have dm := hd m (by omega)
 simp only [mvF]
 generalize lastEq l i l.length = i' at *
 generalize firstEq l j = j' at *
 by_cases e1 : m + 1 = i'
 · rw [if_pos e1, if_neg (by omega), if_neg (by omega)]; omega
 · rw [if_neg e1]
   by_cases e2 : m + 1 = j'
   · rw [if_pos e2]
     have := b3 m (by omega)
     by_cases e3 : m = i'
     · rw [if_pos e3, e2, e3]; omega
     · rw [if_neg e3, if_neg (by omega), e2]; omega
   · rw [if_neg e2]
     by_cases e3 : m = i'
     · rw [if_pos e3]
       have := a4 (m + 1) (by omega) (by omega)
       rw [e3] at this ⊢; omega
     · rw [if_neg e3]
       by_cases e4 : m = j'
       · rw [if_pos e4]; omega
       · rw [if_neg e4]; exact dm
theorem Z0N {n : Nat} {l : List Int} (h : Rw n l) {i j : Nat} (r : Rb n l i j) : Rw n (rubL l i j) ∧ ∃ i' j', Rb n l i' j' ∧ rubL l i j = mvL l i' j' := by
 obtain ⟨a, b⟩ := Z3L h r
 exact ⟨ZJ4 h a.lt a.lj a.df b, _, _, a, rfl⟩
theorem Z6M {a b : Nat → Int} : ∀ n, ap a b n - ap b a n = ps a n - ps b n
 | 0 => by simp [ap, ps]
 | n + 1 => by
   have := Z6M (a := a) (b := b) n
   simp only [ap, ps] at *; omega
theorem ZhE {a a' b b' : Nat → Int} {n : Nat} (ha : ∀ i, i < n → a i = a' i) (hb : ∀ i, i < n → b i = b' i) (h : Maj a b n) : Maj a' b' n := by
 refine ⟨?_, fun k hk => ?_⟩
 · rw [← Z1A n ha, ← Z1A n hb]; exact h.eq
 · rw [← Z1A k fun i hi => ha i (by omega), ← Z1A k fun i hi => hb i (by omega)]; exact h.le k hk
theorem Z5g {a a' b b' : Nat → Int} {n : Nat} (ha : ∀ i, i < n → a i = a' i) (hb : ∀ i, i < n → b i = b' i) : ap a b n = ap a' b' n :=
 Z1A n fun i hi => by rw [ha i hi, hb i hi]
def MajL (a b : List Int) : Prop := Maj (rowF a) (rowF b) a.length
def apL (a b : List Int) : Nat := (ap (rowF a) (rowF b) a.length).toNat
theorem Z0k (a b : List Int) : (apL a b : Int) = ap (rowF a) (rowF b) a.length := by
 have := Z5X (rowF a) (rowF b) a.length
 unfold apL; omega
theorem Z5j {a b c : List Int} (hl : a.length = b.length) (h1 : MajL a b) (h2 : MajL b c) : MajL a c := by
 unfold MajL at *
 rw [← hl] at h2
 exact h1.trans h2
theorem Z6f {n : Nat} {l : List Int} (h : Rw n l) {i j : Nat} (r : Rb n l i j) : MajL l (mvL l i j) := by
 have hl := h.len
 exact ZhE (fun _ _ => rfl) (fun k _ => (Z0M r.lt (by have := r.lj; omega) k).symm) (Z0g1 r.lt (by have := r.lj; omega))
theorem Zz7 {n : Nat} {a l : List Int} (ha : a.length = n) (h : Rw n l) (hm : MajL a l) {i j : Nat} (r : Rb n l i j) : apL a (mvL l i j) ≤ apL a l + 1 ∧ apL a l ≤ apL a (mvL l i j) + 1 := by
 have hl := h.len
 have hj : j < l.length := by have := r.lj; omega
 have c1 := Z0k a l
 have c2 := Z0k a (mvL l i j)
 have m2 := Z5j (by omega) hm (Z6f h r)
 have s1 := Z6M (a := rowF a) (b := rowF l) a.length
 have s2 := Z6M (a := rowF a) (b := rowF (mvL l i j)) a.length
 have e1 := hm.eq
 have e2 := m2.eq
 have e3 : ap (rowF (mvL l i j)) (rowF a) a.length = ap (mvF (rowF l) i j) (rowF a) a.length := Z5g (fun k _ => Z0M r.lt hj k) (fun _ _ => rfl)
 obtain ⟨x1, _, x2⟩ := Z5o (a := rowF l) (b := rowF a) r.lt a.length
 omega
theorem Z5C {n : Nat} {a b : List Int} (ha : Rw n a) (hb : Rw n b) (h : MajL a b) (hne : a ≠ b) :
   ∃ i j, Rb n a i j ∧ Rw n (mvL a i j) ∧ MajL (mvL a i j) b ∧ apL a b = apL (mvL a i j) b + 1 ∧ rubL a i j = mvL a i j := by
 have la := ha.len
 have lb := hb.len
 have hx : ∃ k, k < n ∧ rowF a k ≠ rowF b k := by
   by_cases e : ∃ k, k < n ∧ rowF a k ≠ rowF b k
   · exact e
   · refine absurd (Z4P (by omega) fun i hi => ?_) hne
     by_cases e2 : rowF a i = rowF b i
     · exact e2
     · exact absurd ⟨i, by omega, e2⟩ e
 have da := Z1b ha.row
 have db := Z1b hb.row
 unfold MajL at h
 rw [la] at da h
 rw [lb] at db
 obtain ⟨i, j, h1, h2, h3, h4, h5, h6, h7, h8⟩ := ZRO da db h hx
 have r : Rb n a i j := ⟨h1, h2, h3⟩
 have hj : j < a.length := by omega
 refine ⟨i, j, r, ZJ4 ha h1 h2 h3 h4, ?_, ?_, ?_⟩
 · unfold MajL
   rw [Zw, la]
   exact ZhE (fun k _ => (Z0M h1 hj k).symm) (fun _ _ => rfl) h5
 · have c1 := Z0k a b
   have c2 := Z0k (mvL a i j) b
   rw [Zw] at c2
   have e : ap (rowF (mvL a i j)) (rowF b) a.length = ap (mvF (rowF a) i j) (rowF b) n := by rw [la]; exact Z5g (fun k _ => Z0M h1 hj k) (fun _ _ => rfl)
   rw [la] at c1 c2 e
   omega
 · obtain ⟨a1, a2, a3, a4⟩ := Z2Q (Z1b ha.row) a.length i (by omega) (by omega)
   obtain ⟨b1, b2, b3⟩ := Z2i (Z1b ha.row) j (by omega)
   have e1 : lastEq a i a.length = i := by
     by_cases e : lastEq a i a.length = i
     · exact e
     · have := h7 (lastEq a i a.length) (by omega) (by omega); omega
   have e2 : firstEq a j = j := by
     by_cases e : firstEq a j = j
     · exact e
     · have := h8 (firstEq a j) (by omega); omega
   rw [rubL, e1, e2]
theorem ZI9 {n : Nat} {b : List Int} (hb : Rw n b) : ∀ (d : Nat) (a : List Int), Rw n a → MajL a b → apL a b = d + 1 → ∃ x, Rw n x ∧ MajL a x ∧ apL a x = d ∧ ∃ i j, Rb n x i j ∧ rubL x i j = b := by
 intro d
 induction d with
 | zero =>
   intro a ha h hd
   have hne : a ≠ b := fun e => by
     subst e
     have := (Z1C (a := rowF a) (b := rowF a) a.length).2 fun k _ => Int.le_refl _
     unfold apL at hd; omega
   obtain ⟨i, j, r, h1, h2, h3, h4⟩ := Z5C ha hb h hne
   refine ⟨a, ha, Maj.refl _ _, ?_, i, j, r, ?_⟩
   · have := (Z1C (a := rowF a) (b := rowF a) a.length).2 fun k _ => Int.le_refl _
     unfold apL; omega
   · rw [h4]
     have c := Z0k (mvL a i j) b
     have z := (Z1C (a := rowF (mvL a i j)) (b := rowF b) (mvL a i j).length).1 (by omega)
     exact Z4P (by rw [h1.len, hb.len]) (Z8u z h2.eq)
 | succ d ih =>
   intro a ha h hd
   have hne : a ≠ b := fun e => by
     subst e
     have := (Z1C (a := rowF a) (b := rowF a) a.length).2 fun k _ => Int.le_refl _
     unfold apL at hd; omega
   obtain ⟨i, j, r, h1, h2, h3, h4⟩ := Z5C ha hb h hne
   obtain ⟨x, x1, x2, x3, i', j', x4, x5⟩ := ih (mvL a i j) h1 h2 (by omega)
   have ax := Z5j (by rw [Zw]) (Z6f ha r) x2
   refine ⟨x, x1, ax, ?_, i', j', x4, x5⟩
   have la := ha.len
   have up : apL a x ≤ apL (mvL a i j) x + 1 := by
     have c1 := Z0k a x
     have c2 := Z0k (mvL a i j) x
     rw [Zw] at c2
     have e : ap (rowF (mvL a i j)) (rowF x) a.length = ap (mvF (rowF a) i j) (rowF x) a.length := Z5g (fun k _ => Z0M r.lt (by have := r.lj; omega) k) (fun _ _ => rfl)
     obtain ⟨y1, _, _⟩ := Z5o (a := rowF a) (b := rowF x) r.lt a.length
     omega
   obtain ⟨p, q⟩ := Z3L x1 x4
   have := (Zz7 la x1 ax p).1
   rw [show mvL x (lastEq x i' x.length) (firstEq x j') = b from x5] at this
   omega
theorem Z090 {n : Nat} {a : List Int} (ha : Rw n a) (nb : List Int → List (List Int)) (hnb : ∀ x, Rw n x → ∀ y, y ∈ nb x ↔ ∃ i j, Rb n x i j ∧ y = rubL x i j) :
   Lev (fun b => Rw n b ∧ MajL a b) nb (apL a) a := by
 have la := ha.len
 refine ⟨⟨ha, Maj.refl _ _⟩, ?_, fun y hy h0 => ?_, fun x hx y hy => ?_, fun y hy d hd => ?_⟩
 · have := (Z1C (a := rowF a) (b := rowF a) a.length).2 fun k _ => Int.le_refl _
   unfold apL; omega
 · have c := Z0k a y
   have z := (Z1C (a := rowF a) (b := rowF y) a.length).1 (by omega)
   exact (Z4P (by rw [la, hy.1.len]) (Z8u z hy.2.eq)).symm
 · obtain ⟨i, j, r, rfl⟩ := (hnb x hx.1 y).1 hy
   obtain ⟨p, q⟩ := Z3L hx.1 r
   refine ⟨⟨(Z0N hx.1 r).1, Z5j (by rw [la, hx.1.len]) hx.2 (Z6f hx.1 p)⟩, (Zz7 la hx.1 hx.2 p).1⟩
 · obtain ⟨x, x1, x2, x3, i, j, r, e⟩ := ZI9 hy.1 d a ha hy.2 hd
   exact ⟨x, ⟨x1, x2⟩, x3, (hnb x x1 y).2 ⟨i, j, r, e.symm⟩⟩
end Go.AM.Rub
end
noncomputable section
namespace Go.AM.Rub
def swpI (l : List Int) (j : Nat) : List Int := (l.set (j + 1) (l.getD j 0)).set j (l.getD (j + 1) 0)
def insI (l : List Int) : Nat → List Int
 | 0 => l
 | j + 1 => if l.getD (j + 1) 0 > l.getD j 0 then insI (swpI l j) j else l
def srtN (l : List Int) : Nat → List Int
 | 0 => l
 | i + 1 => insI (srtN l i) (i + 1)
def srtI (l : List Int) : List Int := srtN l (l.length - 1)
theorem Z2z (l : List Int) (j : Nat) : (swpI l j).length = l.length := by simp [swpI]
theorem Z8d : ∀ (j : Nat) (l : List Int), (insI l j).length = l.length
 | 0, l => rfl
 | j + 1, l => by
   rw [insI]
   split
   · rw [Z8d j, Z2z]
   · rfl
theorem Z2O (l : List Int) : ∀ i, (srtN l i).length = l.length
 | 0 => rfl
 | i + 1 => by rw [srtN, Z8d, Z2O l i]
theorem ZLE (x : Int) (l : List Int) (j : Nat) : swpI (x :: l) (j + 1) = x :: swpI l j := by simp [swpI]
theorem Zur : ∀ (p : List Int) (a b : Int) (r : List Int), swpI (p ++ a :: b :: r) p.length = p ++ b :: a :: r
 | [], a, b, r => by simp [swpI]
 | x :: p, a, b, r => by rw [List.cons_append, List.length_cons, ZLE, Zur p a b r, List.cons_append]
theorem Zhs (p : List Int) (a : Int) (r : List Int) : (p ++ a :: r).getD p.length 0 = a := by simp
theorem Zb7 : ∀ (n : Nat) (p : List Int) (x : Int) (r : List Int), p.length = n →
   ∃ a b, p = a ++ b ∧ insI (p ++ x :: r) p.length = a ++ x :: b ++ r ∧ (∀ t ∈ b, x > t) ∧ (∀ t q, a = q ++ [t] → ¬ x > t)
 | 0, p, x, r, hp => by
   obtain rfl := List.length_eq_zero_iff.1 hp
   exact ⟨[], [], rfl, by simp [insI], by simp, by simp⟩
 | n + 1, p, x, r, hp => by
   obtain ⟨q, y, rfl⟩ : ∃ q y, p = q ++ [y] := by
     rcases List.eq_nil_or_concat p with h | ⟨q, y, h⟩
     · rw [h] at hp; simp at hp
     · exact ⟨q, y, by simpa using h⟩
   have hq : q.length = n := by simpa using hp
   have e0 : (q ++ [y] ++ x :: r) = q ++ y :: x :: r := by simp
   have gx : (q ++ [y] ++ x :: r).getD (q.length + 1) 0 = x := by
     have := Zhs (q ++ [y]) x r
     rwa [show (q ++ [y]).length = q.length + 1 by simp] at this
   have gy : (q ++ [y] ++ x :: r).getD q.length 0 = y := by rw [e0]; exact Zhs q y _
   rw [show (q ++ [y]).length = q.length + 1 by simp, insI, gx, gy]
   by_cases h : x > y
   · obtain ⟨a, b, e1, e2, e3, e4⟩ := Zb7 n q x (y :: r) hq
     refine ⟨a, b ++ [y], by rw [e1]; simp, ?_, ?_, e4⟩
     · rw [if_pos h, e0, Zur, e2]; simp
     · intro t ht
       rcases List.mem_append.1 ht with ht | ht
       · exact e3 t ht
       · obtain rfl : t = y := by simpa using ht
         exact h
   · refine ⟨q ++ [y], [], by simp, by rw [if_neg h]; simp, by simp, ?_⟩
     intro t q' e
     have := List.append_inj_right' e rfl
     obtain rfl : y = t := by simpa using this
     exact h
def DescP (l : List Int) : Prop := l.Pairwise (fun t s => s ≤ t)
theorem ZIX {a b : List Int} {x : Int} (h : DescP (a ++ b)) (h1 : ∀ t ∈ b, x > t) (h2 : ∀ t q, a = q ++ [t] → ¬ x > t) : DescP (a ++ x :: b) := by
 obtain ⟨ha, hb, hab⟩ := List.pairwise_append.1 h
 have hax : ∀ t ∈ a, x ≤ t := by
   rcases List.eq_nil_or_concat a with e | ⟨q, y, e⟩
   · subst e; simp
   · have e : a = q ++ [y] := by simpa using e
     have hy := h2 y q e
     intro t ht
     rw [e] at ht ha
     obtain ⟨_, _, hqy⟩ := List.pairwise_append.1 ha
     rcases List.mem_append.1 ht with ht | ht
     · have := hqy t ht y (by simp); omega
     · obtain rfl : t = y := by simpa using ht
       omega
 refine List.pairwise_append.2 ⟨ha, List.pairwise_cons.2 ⟨fun t ht => ?_, hb⟩, fun t ht s hs => ?_⟩
 · have := h1 t ht; omega
 · rcases List.mem_cons.1 hs with rfl | hs
   · exact hax t ht
   · exact hab t ht s hs
theorem Z9s (l : List Int) : ∀ i, i < l.length → ∃ p, p.length = i + 1 ∧ srtN l i = p ++ l.drop (i + 1) ∧ p.Perm (l.take (i + 1)) ∧ DescP p
 | 0, h => by
   match l, h with
   | a :: l, _ => exact ⟨[a], rfl, by simp [srtN], by simp, List.pairwise_singleton ..⟩
 | i + 1, h => by
   obtain ⟨p, e1, e2, e3, e4⟩ := Z9s l i (by omega)
   have hd : l.drop (i + 1) = l[i + 1] :: l.drop (i + 1 + 1) := List.drop_eq_getElem_cons h
   obtain ⟨a, b, f1, f2, f3, f4⟩ := Zb7 p.length p l[i + 1] (l.drop (i + 1 + 1)) rfl
   refine ⟨a ++ l[i + 1] :: b, ?_, ?_, ?_, ?_⟩
   · have := congrArg List.length f1
     simp at this ⊢; omega
   · rw [e1] at f2
     rw [srtN, e2, hd, f2]
   · have ht : l.take (i + 1 + 1) = l.take (i + 1) ++ [l[i + 1]] := by rw [List.take_succ_eq_append_getElem h]
     rw [ht]
     refine List.perm_middle.trans ?_
     refine (List.Perm.cons _ (f1 ▸ e3 : (a ++ b).Perm (l.take (i + 1)))).trans ?_
     exact (List.perm_append_singleton _ _).symm
   · rw [f1] at e4
     exact ZIX e4 f3 f4
theorem ZhJ {l : List Int} (h : 0 < l.length) : (srtI l).Perm l ∧ DescP (srtI l) := by
 obtain ⟨p, e1, e2, e3, e4⟩ := Z9s l (l.length - 1) (by omega)
 have hd : l.drop (l.length - 1 + 1) = [] := List.drop_eq_nil_of_le (by omega)
 have ht : l.take (l.length - 1 + 1) = l := List.take_of_length_le (by omega)
 rw [hd, List.append_nil] at e2
 rw [ht] at e3
 unfold srtI
 rw [e2]
 exact ⟨e3, e4⟩
theorem Z8g : ∀ {a b : List Int}, DescP a → DescP b → a.Perm b → a = b
 | [], b, _, _, h => (List.Perm.nil_eq h)
 | x :: a, [], _, _, h => absurd (List.Perm.eq_nil h) (by simp)
 | x :: a, y :: b, ha, hb, h => by
   obtain ⟨ha1, ha2⟩ := List.pairwise_cons.1 ha
   obtain ⟨hb1, hb2⟩ := List.pairwise_cons.1 hb
   have hxy : x = y := by
     have h1 : x ∈ y :: b := h.mem_iff.1 (by simp)
     have h2 : y ∈ x :: a := h.mem_iff.2 (by simp)
     have l1 : x ≤ y := by
       rcases List.mem_cons.1 h1 with e | e
       · omega
       · exact hb1 x e
     have l2 : y ≤ x := by
       rcases List.mem_cons.1 h2 with e | e
       · omega
       · exact ha1 y e
     omega
   subst hxy
   rw [Z8g ha2 hb2 (List.Perm.cons_inv h)]
theorem ZhV : ∀ {m : Int} {l : List Int}, IsRow m l → DescP l
 | _, [], _ => List.Pairwise.nil
 | m, x :: l, ⟨h1, h2, h3⟩ => List.pairwise_cons.2 ⟨fun y hy => (row_memI h3 hy), ZhV h3⟩
where row_memI : ∀ {m : Int} {l : List Int} {y : Int}, IsRow m l → y ∈ l → y ≤ m
 | m, x :: l, y, ⟨h1, h2, h3⟩, hy => by
   rcases List.mem_cons.1 hy with rfl | hy
   · exact h2
   · have := row_memI h3 hy; omega
 | _, [], _, _, hy => by simp at hy
theorem ZeQ : ∀ {m : Int} {l : List Int}, (∀ x ∈ l, 0 ≤ x ∧ x ≤ m) → DescP l → IsRow m l
 | _, [], _, _ => trivial
 | m, x :: l, h, hd => by
   obtain ⟨h1, h2⟩ := List.pairwise_cons.1 hd
   exact ⟨(h x (by simp)).1, (h x (by simp)).2, ZeQ (fun y hy => ⟨(h y (by simp [hy])).1, h1 y hy⟩) h2⟩
end Go.AM.Rub
end
noncomputable section
namespace Go.AM.Ytfmnoohhhokicaa
open Go Go.AM Go.AM.Rub
def pF (d : Nat) : Callee := callF E fr fg 1000000 d
def kF (d : Nat) : Callee := frC fr (pF d)
theorem pF_s (d : Nat) : pF (d + 1) = bodyA E (kF d) fg 1000000 := nf
theorem Z11 {d : Nat} {f : FuncId} (hf : fr f = false) (args : List AV) (H : AHeap) (B : Nat) : kF (d + 1) f args H B = bodyA E (kF d) fg 1000000 f args H B := by
 unfold kF frC
 rw [hf]
 rfl
theorem Z0n9 {d : Nat} {f : FuncId} (hf : fr f = true) (args : List AV) (H : AHeap) (B : Nat) : kF d f args H B = focus (pF d) f args H B (mark H 1000 (refsL args) []).reverse := by
 unfold kF frC
 rw [hf]
theorem Z1u {d : Nat} {f : FuncId} {args : List AV} {v : AV} (hf : fr f = false) (h : rsOf (bodyA E (kF d) fg 1000000 f args [] 0) = some v) : ∃ H', kF (d + 1) f args [] 0 = some (v, H') := by
 rw [Z11 hf]; exact ZWn h
theorem loopM {E0 : AHeap} {f : St → XR} (st : Nat → St) (n : Nat) (h : ∀ i, i < n → ∃ s', f (st i) = some (.normal, s') ∧ headA E0 s' = st (i + 1)) (h0 : headA E0 (st 0) = st 0) (hn : n < 1000000) {e : Ex} {se : St} (he : f (st n) = some (e, se)) (hne : e ≠ .normal) :
   iterA f (headA E0) 1000000 (st 0) = some (e, se) :=
 Z8P st n 1000000 0 (st 0) h0 hn (fun i _ h2 => h i (by omega)) (by rw [Nat.zero_add]; exact he) hne
theorem Z5E {E0 : AHeap} {f : St → XR} {s0 : St} (h0 : headA E0 s0 = s0) {e : Ex} {se : St} (he : f s0 = some (e, se)) (hne : e ≠ .normal) : iterA f (headA E0) 1000000 s0 = some (e, se) :=
 loopM (fun _ => s0) 0 (fun i hi => by omega) h0 (by omega) he hne
def IV (l : List Int) (a : AV) : Prop := (l = [] ∧ a = .nilsl) ∨ ∃ ex, a = .imm (ics l) l.length ex
theorem Z2p {l : List Int} {a : AV} (h : IV l a) (n : Nat) : snap (n + 1) a = .pure (a, []) := by
 rcases h with ⟨_, rfl⟩ | ⟨e, rfl⟩ <;> rfl
theorem Z4h {l : List Int} {a : AV} (h : IV l a) (h0 : 0 < l.length) : ∃ ex, a = .imm (ics l) l.length ex := by
 rcases h with ⟨rfl, _⟩ | h
 · simp at h0
 · exact h
theorem Zai (l : List Int) (ex : Bool) : IV l (.imm (ics l) l.length ex) := .inr ⟨ex, rfl⟩
theorem Z2y {l : List Int} {k : Nat} (h : k < l.length) : l[k]? = some (rowF l k) := by
 simp [rowF, h]
theorem Zu {l : List Int} {k : Nat} (h : k < l.length) : (ics l)[k]? = some (.int .i64 (rowF l k)) := Z1T (Z2y h)
theorem rw_b {n : Nat} {l : List Int} (h : Rw n l) {k : Nat} (hk : k < n) : 0 ≤ rowF l k ∧ rowF l k ≤ 8 := Z1B h.row k (by rw [h.len]; exact hk)
theorem Zix {C : Callee} {site : Nat → Nat} {seen : List Nat} {f : FuncId} {args : List AV} {id m c sz gl : Nat} {k : IntKind} {z : Int} {cells : List AV} {H' : AHeap} (h : C f args [] 0 = some (.tup [.ref id 0 m c gl sz false, .int k z], H')) (hg : hget H' id = some ⟨.row, cells⟩) (hl : cells.length = gl) :
   aBack site true seen (thaw C f args [] 0) = Z0m (site 0) seen (fun j => .tup [.ref j 0 m c gl sz false, .int k z]) ⟨.row, cells⟩ := by
 subst hl
 simp only [thaw, h, frzRet, aBack, sitesB, aBackAt, imp, imps, hg, List.length_nil, List.not_mem_nil, not_false_eq_true, and_true, if_true, List.map_cons, List.map_nil, AM.apart, List.elem_nil, Bool.not_false, Bool.and_true, AV.leads, AV.leads.leadsL, Bool.or_false, Z0m]
theorem Z62 {n : Nat} (h : n ≤ 1000000) : roomOk E.T 3 n = true := by
 simp only [roomOk, T_3, decide_eq_true_eq]; exact ⟨by decide, rfl, by omega⟩
theorem Z2k {k n : Nat} (h : 0 < n) : oV k 1 n = .ref k 0 n n n 1 false := by
 obtain ⟨m, rfl⟩ : ∃ m, n = m + 1 := ⟨n - 1, by omega⟩
 simp only [oV, Nat.mul_one]
theorem ZdU {k : Nat} {l : List Int} (h : 0 < l.length) : oH k (ics l) = [(k, ⟨.row, ics l⟩)] := ZWx k (by rw [Z6]; exact h)
theorem Z7M (k sz : Nat) : oV k sz 0 = .nilsl := rfl
theorem Zck {E0 : AHeap} {φ : AFr} {H : AHeap} (h : ∀ p ∈ H, (hget E0 p.1).isSome = true) : headA E0 (φ, H) = (φ, H) := by
 have key : ∀ (keep : List Nat) (H : AHeap), (∀ p ∈ H, (hget E0 p.1).isSome = true) → keepB E0 keep H = H := by
   intro keep H
   induction H with
   | nil => intro _; rfl
   | cons p t ih =>
     intro h
     obtain ⟨i, b⟩ := p
     simp only [keepB, h _ (List.mem_cons_self ..), Bool.or_true, cond_true, ih fun q hq => h q (List.mem_cons_of_mem _ hq)]
 simp only [headA, key _ H h, gcIf]
 split <;> rfl
theorem Zet : ∀ l : List Int, AV.leads.leadsL (ics l) = false
 | [] => rfl
 | a :: l => by
   have := Zet l
   simp only [ics, List.map_cons, AV.leads.leadsL, AV.leads, Bool.false_or] at this ⊢
   exact this
theorem Zn3 {Hc : AHeap} {site : Nat → Nat} {seen : List Nat} {up : List (Nat × Blk)} : ∀ (l : List Int) (d : Nat), l.length + 2 ≤ d → imps Hc site d (ics l) seen up = some (ics l, seen, up)
 | [], d + 1, _ => rfl
 | a :: l, d + 1, h => by
   have ih := Zn3 (Hc := Hc) (site := site) (seen := seen) (up := up) l d (by simp only [List.length_cons] at h; omega)
   obtain ⟨e, rfl⟩ : ∃ e, d = e + 1 := ⟨d - 1, by simp only [List.length_cons] at h; omega⟩
   have : ics (a :: l) = .int .i64 a :: ics l := rfl
   rw [this]
   simp only [imps, imp]
   rw [ih]
theorem ZmE {C : Callee} {site : Nat → Nat} {seen : List Nat} {f : FuncId} {args : List AV} {s : List Int} (h : ∃ H', C f args [] 0 = some (.agg (ics s), H')) (hs : s.length ≤ 100) : aBack site true seen (thaw C f args [] 0) = .pure (.agg (ics s), []) := by
 obtain ⟨H', h⟩ := h
 refine Z1o h rfl (fun site => ?_) (Zet s)
 have := Zn3 (Hc := H') (site := site) (seen := []) (up := []) s 199 (by omega)
 simp only [imp, this]
theorem Zl7 : ∀ n, repC [.int .i64 0] n = ics (List.replicate n 0)
 | 0 => rfl
 | n + 1 => by rw [repC, Zl7 n]; rfl
theorem Z5a : ∀ (vs cs : List Int) (o : Nat), o + vs.length ≤ cs.length → putC (ics cs) o (ics vs) = ics (cs.take o ++ vs ++ cs.drop (o + vs.length))
 | [], cs, o, _ => by simp [putC, ics]
 | v :: vs, cs, o, h => by
   rw [List.length_cons] at h
   have e : ics (v :: vs) = .int .i64 v :: ics vs := rfl
   rw [e, putC, Z15, Z5a vs (cs.set o v) (o + 1) (by rw [List.length_set]; omega)]
   congr 1
   rw [List.drop_set_of_lt (by omega), List.take_add_one, List.getElem?_set_self (by omega), List.take_set_of_le (Nat.le_refl _), List.length_cons, show o + (vs.length + 1) = o + 1 + vs.length by omega]
   simp
theorem ZfX (l : List Int) {d : Nat} (h : l.length + 2 ≤ d) : snaps d (ics l) = .pure (ics l, []) := Z3l _ _ (Z01C l) (by rw [Z6]; exact h)
def pad6 (l : List Int) : List Int := l ++ List.replicate (6 - l.length) 0
theorem Z1x {l : List Int} (h : l.length ≤ 6) : (pad6 l).length = 6 := by simp [pad6]; omega
theorem Z18 {l : List Int} {k : Nat} (h : k < l.length) : rowF (pad6 l) k = rowF l k := by
 simp [rowF, pad6, List.getElem?_append_left h]
theorem Z5Y {l : List Int} {k : Nat} (h : l.length ≤ k) : rowF (pad6 l) k = 0 := by
 simp only [rowF, pad6, List.getD_eq_getElem?_getD]
 rw [List.getElem?_append_right h, List.getElem?_replicate]
 split <;> rfl
def fe (e : Nat → Int) : Nat → Nat → Int
 | _, 0 => 0
 | k, m + 1 => if e k = 0 then fe e (k + 1) m else e k
theorem Z3u {e : Nat → Int} : ∀ (m k : Nat), fe e k m = 0 ↔ ∀ i, k ≤ i → i < k + m → e i = 0
 | 0, k => by simp only [fe, true_iff]; intro i h1 h2; omega
 | m + 1, k => by
   simp only [fe]
   split
   · rename_i h
     rw [Z3u m (k + 1)]
     exact ⟨fun hh i h1 h2 => if hi : i = k then by rw [hi]; exact h else hh i (by omega) (by omega), fun hh i h1 h2 => hh i (by omega) (by omega)⟩
   · rename_i h
     exact ⟨fun hh => absurd hh h, fun hh => absurd (hh k (Nat.le_refl _) (by omega)) h⟩
theorem loopE {E0 : AHeap} {f : St → XR} {e : Nat → Int} {R : Int → AHeap → St} {x : Ex} {se : St} (st : Nat → St) (n : Nat) (h0 : headA E0 (st 0) = st 0) (hn : n < 1000000) (hx : x ≠ .normal)
   (hgo : ∀ i, i < n → (∀ j, j < i → e j = 0) → e i = 0 → ∃ s', f (st i) = some (.normal, s') ∧ headA E0 s' = st (i + 1)) (hbad : ∀ i, i < n → (∀ j, j < i → e j = 0) → e i ≠ 0 → ∃ H, f (st i) = some (.ret, R (e i) H)) (hend : (∀ j, j < n → e j = 0) → f (st n) = some (x, se)) :
   (fe e 0 n = 0 ∧ iterA f (headA E0) 1000000 (st 0) = some (x, se)) ∨ (fe e 0 n ≠ 0 ∧ ∃ H, iterA f (headA E0) 1000000 (st 0) = some (.ret, R (fe e 0 n) H)) := by
 have key : ∀ (m k F : Nat) (s0 : St), k + m = n → (∀ j, j < k → e j = 0) → headA E0 s0 = st k → m < F → (fe e k m = 0 ∧ iterA f (headA E0) F s0 = some (x, se)) ∨ (fe e k m ≠ 0 ∧ ∃ H, iterA f (headA E0) F s0 = some (.ret, R (fe e k m) H)) := by
   intro m
   induction m with
   | zero =>
     intro k F s0 hk hz hs hF
     obtain ⟨F, rfl⟩ : ∃ G, F = G + 1 := ⟨F - 1, by omega⟩
     rw [Nat.add_zero] at hk
     subst hk
     refine .inl ⟨rfl, ?_⟩
     rw [ZP, hs, hend hz]
     cases x with
     | normal => exact absurd rfl hx
     | ret => rfl
     | exit i => rfl
   | succ m ih =>
     intro k F s0 hk hz hs hF
     obtain ⟨F, rfl⟩ : ∃ G, F = G + 1 := ⟨F - 1, by omega⟩
     simp only [fe]
     by_cases h : e k = 0
     · obtain ⟨s', h1, h2⟩ := hgo k (by omega) hz h
       rw [if_pos h, ZP, hs, h1, Z4B]
       refine ih (k + 1) F s' (by omega) (fun j hj => ?_) h2 (by omega)
       by_cases hjk : j = k
       · rw [hjk]; exact h
       · exact hz j (by omega)
     · rw [if_neg h]
       obtain ⟨H, hH⟩ := hbad k (by omega) hz h
       refine .inr ⟨h, H, ?_⟩
       rw [ZP, hs, hH]
       rfl
 exact key n 0 1000000 (st 0) (by omega) (fun j hj => by omega) h0 (by omega)
end Go.AM.Ytfmnoohhhokicaa
end
end
