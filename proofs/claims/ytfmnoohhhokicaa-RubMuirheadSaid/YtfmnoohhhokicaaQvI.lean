/- A part of the proof of rubMuirhead_holds: RnI. Own work of this project; texts printed by own programs among it. -/
import Derived.KernelRfl
import Derived.Test.YtfmnoohhhokicaaQvH
set_option maxRecDepth 1000000
set_option maxHeartbeats 16000000
noncomputable section
noncomputable section
namespace Go.AM.Ytfmnoohhhokicaa
open Go Go.AM
abbrev XQ (f n : Nat) (c a b : Code) : Prop := ∀ {C : Callee} {B N : Nat} {E0 : AHeap} {s : St}, execA E C (fg f) B n E0 N c s = seqX (execA E C (fg f) B n E0 N a s) (execA E C (fg f) B n E0 N b)
abbrev XG (f n : Nat) (c : Code) (r : Array Oper) (l : List Nat) : Prop := ∀ {C : Callee} {B N : Nat} {E0 : AHeap} {s : St}, execA E C (fg f) B n E0 N c s = regX (runA E C B n r r.toList s) (fun s => gcM E0 l (forget s.1 l, s.2))
abbrev XD (f n : Nat) (c : Code) (r : Array Oper) (l : List Nat) : Prop := ∀ {C : Callee} {B N : Nat} {E0 : AHeap} {s : St}, execA E C (fg f) B n E0 N c s = regX (drawA E C B n r s) (fun s => gcM E0 l (forget s.1 l, s.2))
abbrev XC (f n : Nat) (c : Code) (k : Nat) (t e : Code) : Prop := ∀ {C : Callee} {B N : Nat} {E0 : AHeap} {φ : AFr} {H : AHeap}, execA E C (fg f) B n E0 N c (φ, H) = condX (fget φ k) (execA E C (fg f) B n E0 N t (φ, H)) (execA E C (fg f) B n E0 N e (φ, H))
abbrev XS (n : Nat) (r : Array Oper) (o : Oper) (d : Option Nat) (x : Callee → Nat → AFr → AHeap → Rd (AV × Ups)) : Prop := ∀ {C : Callee} {B : Nat} {φ : AFr} {H : AHeap}, stepA E C B n r o (φ, H) = stp d φ H (x C B φ H)
abbrev XM (n : Nat) (r : Array Oper) (o : Oper) (d : Nat) (x : AFr → AV) : Prop := ∀ {C : Callee} {B : Nat} {φ : AFr} {H : AHeap}, stepA E C B n r o (φ, H) = some (fput φ d (x φ), H)
variable {C : Callee} {B N : Nat} {E0 : AHeap} (φ : AFr) (H : AHeap) (s : St)
theorem T_0 : E.T 0 = some ⟨.other, 1, 0, none⟩ := nf
theorem T_1 : E.T 1 = some ⟨.other, 1, 8, (some [.nilfunc])⟩ := nf
theorem T_2 : E.T 2 = some ⟨.int .i64, 1, 8, (some [.int .i64 0])⟩ := nf
theorem T_3 : E.T 3 = some ⟨.int .i64, 1, 8, (some [.int .i64 0])⟩ := nf
theorem T_4 : E.T 4 = some ⟨.bool, 1, 1, (some [.bool false])⟩ := nf
theorem T_5 : E.T 5 = some ⟨.int .u8, 1, 1, (some [.int .u8 0])⟩ := nf
theorem T_6 : E.T 6 = some ⟨.int .u8, 1, 1, (some [.int .u8 0])⟩ := nf
theorem T_7 : E.T 7 = some ⟨.struct [(0, 2, 1), (1, 3, 1), (2, 4, 1), (3, 6, 1)] false, 4, 24, (some [.int .i64 0, .int .i64 0, .bool false, .int .u8 0])⟩ := nf
theorem T_8 : E.T 8 = some ⟨.struct [(0, 2, 1), (1, 3, 1), (2, 4, 1), (3, 6, 1)] false, 4, 24, (some [.int .i64 0, .int .i64 0, .bool false, .int .u8 0])⟩ := nf
theorem T_9 : E.T 9 = some ⟨.str, 1, 16, (some [.str ⟨#[]⟩])⟩ := nf
theorem T_10 : E.T 10 = some ⟨.str, 1, 16, (some [.str ⟨#[]⟩])⟩ := nf
theorem T_11 : E.T 11 = some ⟨.str, 1, 16, (some [.str ⟨#[]⟩])⟩ := nf
theorem T_12 : E.T 12 = some ⟨.int .u64, 1, 8, (some [.int .u64 0])⟩ := nf
theorem T_13 : E.T 13 = some ⟨.struct [(0, 9, 1), (1, 12, 1)] false, 2, 24, (some [.str ⟨#[]⟩, .int .u64 0])⟩ := nf
theorem T_14 : E.T 14 = some ⟨.struct [(0, 9, 1), (1, 12, 1)] false, 2, 24, (some [.str ⟨#[]⟩, .int .u64 0])⟩ := nf
theorem T_15 : E.T 15 = some ⟨.other, 1, 8, (some [.nilptr])⟩ := nf
theorem T_16 : E.T 16 = some ⟨.other, 1, 8, (some [.nilptr])⟩ := nf
theorem T_17 : E.T 17 = some ⟨.other, 1, 8, (some [.nilptr])⟩ := nf
theorem T_18 : E.T 18 = some ⟨.struct [(0, 17, 1)] false, 1, 8, (some [.nilptr])⟩ := nf
theorem T_19 : E.T 19 = some ⟨.struct [(0, 17, 1)] false, 1, 8, (some [.nilptr])⟩ := nf
theorem T_20 : E.T 20 = some ⟨.other, 1, 16, none⟩ := nf
theorem T_21 : E.T 21 = some ⟨.int .i32, 1, 4, (some [.int .i32 0])⟩ := nf
theorem T_22 : E.T 22 = some ⟨.slice 3, 1, 24, (some [.nilsl])⟩ := nf
theorem T_23 : E.T 23 = some ⟨.other, 1, 8, (some [.nilfunc])⟩ := nf
theorem T_24 : E.T 24 = some ⟨.int .i64, 1, 8, (some [.int .i64 0])⟩ := nf
theorem T_25 : E.T 25 = some ⟨.other, 1, 0, none⟩ := nf
theorem T_26 : E.T 26 = some ⟨.other, 1, 8, (some [.nilfunc])⟩ := nf
theorem T_27 : E.T 27 = some ⟨.other, 1, 8, (some [.nilfunc])⟩ := nf
theorem T_28 : E.T 28 = some ⟨.other, 1, 8, (some [.nilfunc])⟩ := nf
theorem T_29 : E.T 29 = some ⟨.other, 1, 8, (some [.nilfunc])⟩ := nf
theorem T_30 : E.T 30 = some ⟨.other, 1, 8, (some [.nilfunc])⟩ := nf
theorem T_31 : E.T 31 = some ⟨.other, 1, 0, none⟩ := nf
theorem T_32 : E.T 32 = some ⟨.other, 1, 8, (some [.nilfunc])⟩ := nf
theorem T_33 : E.T 33 = some ⟨.other, 1, 0, none⟩ := nf
theorem T_34 : E.T 34 = some ⟨.other, 1, 8, (some [.nilfunc])⟩ := nf
theorem T_35 : E.T 35 = some ⟨.other, 1, 0, none⟩ := nf
theorem T_36 : E.T 36 = some ⟨.other, 1, 8, (some [.nilfunc])⟩ := nf
theorem T_37 : E.T 37 = some ⟨.other, 1, 8, (some [.nilfunc])⟩ := nf
theorem T_38 : E.T 38 = some ⟨.other, 1, 8, (some [.nilfunc])⟩ := nf
theorem T_39 : E.T 39 = some ⟨.slice 22, 1, 24, (some [.nilsl])⟩ := nf
theorem T_40 : E.T 40 = some ⟨.other, 1, 0, none⟩ := nf
theorem T_41 : E.T 41 = some ⟨.other, 1, 8, (some [.nilfunc])⟩ := nf
theorem T_42 : E.T 42 = some ⟨.other, 1, 8, (some [.nilfunc])⟩ := nf
theorem T_43 : E.T 43 = some ⟨.other, 1, 8, (some [.nilfunc])⟩ := nf
theorem T_44 : E.T 44 = some ⟨.other, 1, 8, (some [.nilfunc])⟩ := nf
theorem T_45 : E.T 45 = some ⟨.other, 1, 8, (some [.nilfunc])⟩ := nf
theorem T_46 : E.T 46 = some ⟨.other, 1, 8, (some [.nilfunc])⟩ := nf
theorem T_47 : E.T 47 = some ⟨.arr 6 5 true, 6, 6, (some [.int .u8 0, .int .u8 0, .int .u8 0, .int .u8 0, .int .u8 0, .int .u8 0])⟩ := nf
theorem T_48 : E.T 48 = some ⟨.struct [(0, 5, 1), (1, 5, 1), (2, 47, 6)] false, 8, 8, (some [.int .u8 0, .int .u8 0, .int .u8 0, .int .u8 0, .int .u8 0, .int .u8 0, .int .u8 0, .int .u8 0])⟩ := nf
theorem T_49 : E.T 49 = some ⟨.struct [(0, 5, 1), (1, 5, 1), (2, 47, 6)] false, 8, 8, (some [.int .u8 0, .int .u8 0, .int .u8 0, .int .u8 0, .int .u8 0, .int .u8 0, .int .u8 0, .int .u8 0])⟩ := nf
theorem T_50 : E.T 50 = some ⟨.other, 1, 8, (some [.nilfunc])⟩ := nf
theorem T_51 : E.T 51 = some ⟨.other, 1, 8, (some [.nilfunc])⟩ := nf
theorem T_52 : E.T 52 = some ⟨.other, 1, 8, (some [.nilfunc])⟩ := nf
theorem T_53 : E.T 53 = some ⟨.other, 1, 8, (some [.nilfunc])⟩ := nf
theorem T_54 : E.T 54 = some ⟨.other, 1, 8, (some [.nilfunc])⟩ := nf
theorem T_55 : E.T 55 = some ⟨.other, 1, 8, (some [.nilfunc])⟩ := nf
theorem T_56 : E.T 56 = some ⟨.other, 1, 8, (some [.nilfunc])⟩ := nf
theorem T_57 : E.T 57 = some ⟨.other, 1, 8, (some [.nilfunc])⟩ := nf
theorem T_58 : E.T 58 = some ⟨.other, 1, 8, (some [.nilfunc])⟩ := nf
theorem T_59 : E.T 59 = some ⟨.other, 1, 0, none⟩ := nf
theorem T_60 : E.T 60 = some ⟨.other, 1, 8, (some [.nilfunc])⟩ := nf
theorem T_61 : E.T 61 = some ⟨.other, 1, 8, (some [.nilfunc])⟩ := nf
theorem T_62 : E.T 62 = some ⟨.other, 1, 8, (some [.nilfunc])⟩ := nf
theorem T_63 : E.T 63 = some ⟨.other, 1, 8, (some [.nilfunc])⟩ := nf
theorem T_64 : E.T 64 = some ⟨.other, 1, 8, (some [.nilfunc])⟩ := nf
theorem T_65 : E.T 65 = some ⟨.other, 1, 8, (some [.nilfunc])⟩ := nf
theorem T_66 : E.T 66 = some ⟨.other, 1, 8, (some [.nilfunc])⟩ := nf
theorem T_67 : E.T 67 = some ⟨.other, 1, 8, (some [.nilfunc])⟩ := nf
theorem T_68 : E.T 68 = some ⟨.other, 1, 8, (some [.nilfunc])⟩ := nf
theorem T_69 : E.T 69 = some ⟨.other, 1, 8, (some [.nilfunc])⟩ := nf
theorem T_70 : E.T 70 = some ⟨.other, 1, 8, (some [.nilfunc])⟩ := nf
theorem T_71 : E.T 71 = some ⟨.other, 1, 8, (some [.nilfunc])⟩ := nf
theorem T_72 : E.T 72 = some ⟨.other, 1, 8, (some [.nilfunc])⟩ := nf
theorem T_73 : E.T 73 = some ⟨.other, 1, 8, (some [.nilfunc])⟩ := nf
theorem T_74 : E.T 74 = some ⟨.other, 1, 8, (some [.nilfunc])⟩ := nf
theorem T_75 : E.T 75 = some ⟨.arr 6 3 true, 6, 48, (some [.int .i64 0, .int .i64 0, .int .i64 0, .int .i64 0, .int .i64 0, .int .i64 0])⟩ := nf
theorem T_76 : E.T 76 = some ⟨.arr 6 3 true, 6, 48, (some [.int .i64 0, .int .i64 0, .int .i64 0, .int .i64 0, .int .i64 0, .int .i64 0])⟩ := nf
theorem T_77 : E.T 77 = some ⟨.other, 1, 8, (some [.nilfunc])⟩ := nf
theorem T_78 : E.T 78 = some ⟨.other, 1, 8, (some [.nilfunc])⟩ := nf
theorem T_79 : E.T 79 = some ⟨.other, 1, 8, (some [.nilfunc])⟩ := nf
theorem T_80 : E.T 80 = some ⟨.other, 1, 0, none⟩ := nf
theorem T_81 : E.T 81 = some ⟨.other, 1, 8, (some [.nilfunc])⟩ := nf
theorem T_82 : E.T 82 = some ⟨.other, 1, 8, (some [.nilfunc])⟩ := nf
theorem T_83 : E.T 83 = some ⟨.other, 1, 8, (some [.nilfunc])⟩ := nf
theorem T_84 : E.T 84 = some ⟨.other, 1, 8, (some [.nilfunc])⟩ := nf
theorem T_85 : E.T 85 = some ⟨.other, 1, 8, (some [.nilfunc])⟩ := nf
theorem T_86 : E.T 86 = some ⟨.other, 1, 8, (some [.nilfunc])⟩ := nf
theorem T_87 : E.T 87 = some ⟨.map 76 3 (.int .i64 0), 1, 8, (some [.nilmap])⟩ := nf
theorem T_88 : E.T 88 = some ⟨.other, 1, 0, none⟩ := nf
theorem T_89 : E.T 89 = some ⟨.other, 1, 8, (some [.nilfunc])⟩ := nf
theorem T_90 : E.T 90 = some ⟨.other, 1, 8, (some [.nilfunc])⟩ := nf
theorem T_91 : E.T 91 = some ⟨.other, 1, 8, (some [.nilfunc])⟩ := nf
theorem T_92 : E.T 92 = some ⟨.other, 1, 8, (some [.nilfunc])⟩ := nf
theorem T_93 : E.T 93 = some ⟨.slice 5, 1, 24, (some [.nilsl])⟩ := nf
theorem T_94 : E.T 94 = some ⟨.other, 1, 8, (some [.nilfunc])⟩ := nf
theorem T_95 : E.T 95 = some ⟨.other, 1, 8, (some [.nilfunc])⟩ := nf
theorem T_96 : E.T 96 = some ⟨.other, 1, 8, (some [.nilfunc])⟩ := nf
theorem T_97 : E.T 97 = some ⟨.other, 1, 8, (some [.nilfunc])⟩ := nf
theorem T_98 : E.T 98 = some ⟨.int .u64, 1, 8, (some [.int .u64 0])⟩ := nf
theorem T_99 : E.T 99 = some ⟨.other, 1, 8, (some [.nilfunc])⟩ := nf
theorem Z0px : E.T 100 = some ⟨.other, 1, 8, (some [.nilfunc])⟩ := nf
theorem Z0pt : E.T 101 = some ⟨.slice 39, 1, 24, (some [.nilsl])⟩ := nf
theorem Z0p5 : E.T 102 = some ⟨.other, 1, 8, (some [.nilfunc])⟩ := nf
theorem Z0lv : E.T 103 = some ⟨.other, 1, 8, (some [.nilfunc])⟩ := nf
theorem Z0lA : E.T 104 = some ⟨.other, 1, 8, (some [.nilfunc])⟩ := nf
theorem Z0qa : E.T 105 = some ⟨.int .i64, 1, 8, (some [.int .i64 0])⟩ := nf
theorem Z0q7 : E.T 106 = some ⟨.other, 1, 0, none⟩ := nf
theorem Z0mI : E.T 107 = some ⟨.other, 1, 8, (some [.nilfunc])⟩ := nf
theorem Z0na : E.T 108 = some ⟨.other, 1, 8, (some [.nilfunc])⟩ := nf
theorem Z0nc : E.T 109 = some ⟨.other, 1, 8, (some [.nilfunc])⟩ := nf
theorem Z0pF : E.T 110 = some ⟨.other, 1, 8, (some [.nilfunc])⟩ := nf
theorem Z0ot : E.T 111 = some ⟨.other, 1, 8, (some [.nilfunc])⟩ := nf
theorem Z0ml : E.T 112 = some ⟨.int .u32, 1, 4, (some [.int .u32 0])⟩ := nf
theorem Z0oP : E.T 113 = some ⟨.other, 1, 8, (some [.nilfunc])⟩ := nf
theorem Z0q8 : E.T 114 = some ⟨.int .u64, 1, 8, (some [.int .u64 0])⟩ := nf
theorem Z0n1 : E.T 115 = some ⟨.other, 1, 8, (some [.nilptr])⟩ := nf
theorem Z0lc : E.T 116 = some ⟨.other, 1, 8, (some [.nilfunc])⟩ := nf
theorem Z0oR : E.T 117 = some ⟨.other, 1, 8, (some [.nilfunc])⟩ := nf
theorem Z0nu : E.T 118 = some ⟨.other, 1, 8, (some [.nilfunc])⟩ := nf
theorem Z0pk : E.T 119 = some ⟨.other, 1, 8, (some [.nilfunc])⟩ := nf
theorem Z0nK : E.T 120 = some ⟨.other, 1, 8, (some [.nilfunc])⟩ := nf
theorem Z0nh : E.T 121 = some ⟨.int .u64, 1, 8, (some [.int .u64 0])⟩ := nf
theorem Z0nt : E.T 122 = some ⟨.other, 1, 8, (some [.nilfunc])⟩ := nf
theorem Z0om : E.T 123 = some ⟨.other, 1, 8, (some [.nilfunc])⟩ := nf
theorem Z0q1 : E.T 124 = some ⟨.other, 1, 8, (some [.nilfunc])⟩ := nf
theorem Z0nd : E.T 125 = some ⟨.other, 1, 8, (some [.nilptr])⟩ := nf
theorem Z0pC : E.T 126 = some ⟨.other, 1, 8, (some [.nilfunc])⟩ := nf
theorem Z0mb : E.T 127 = some ⟨.other, 1, 8, (some [.nilfunc])⟩ := nf
theorem Z0kN : E.T 128 = some ⟨.other, 1, 8, (some [.nilfunc])⟩ := nf
theorem Z0pS : E.T 129 = some ⟨.other, 1, 8, (some [.nilptr])⟩ := nf
theorem Z0pc : E.T 130 = some ⟨.other, 1, 0, none⟩ := nf
theorem Z0nj : E.T 131 = some ⟨.other, 1, 8, (some [.nilfunc])⟩ := nf
theorem Z0oc : E.T 132 = some ⟨.other, 1, 8, (some [.nilfunc])⟩ := nf
theorem Z0og : E.T 133 = some ⟨.other, 1, 8, (some [.nilfunc])⟩ := nf
theorem Z0lD : E.T 134 = some ⟨.struct [(0, 17, 1), (1, 17, 1), (2, 17, 1), (3, 9, 1)] false, 4, 40, (some [.nilptr, .nilptr, .nilptr, .str ⟨#[]⟩])⟩ := nf
theorem Z0lX : E.T 135 = some ⟨.struct [(0, 17, 1), (1, 17, 1), (2, 17, 1), (3, 9, 1)] false, 4, 40, (some [.nilptr, .nilptr, .nilptr, .str ⟨#[]⟩])⟩ := nf
theorem Z0oC : E.T 136 = some ⟨.arr 0 16 false, 0, 0, (some [])⟩ := nf
theorem Z0kR : E.T 137 = some ⟨.struct [(0, 136, 0)] false, 0, 0, (some [])⟩ := nf
theorem Z0mr : E.T 138 = some ⟨.struct [(0, 136, 0)] false, 0, 0, (some [])⟩ := nf
theorem Z0pT : E.T 139 = some ⟨.other, 1, 8, (some [.nilfunc])⟩ := nf
theorem Z0no : E.T 140 = some ⟨.int .u8, 1, 1, (some [.int .u8 0])⟩ := nf
theorem Z0pi : E.T 141 = some ⟨.int .u8, 1, 1, (some [.int .u8 0])⟩ := nf
theorem Z0lI : E.T 142 = some ⟨.other, 1, 8, (some [.nilfunc])⟩ := nf
theorem Z0nZ : E.T 143 = some ⟨.other, 1, 8, (some [.nilptr])⟩ := nf
theorem Z0lZ : E.T 144 = some ⟨.int .i32, 1, 4, (some [.int .i32 0])⟩ := nf
theorem Z0n4 : E.T 145 = some ⟨.int .i32, 1, 4, (some [.int .i32 0])⟩ := nf
theorem Z0pQ : E.T 146 = some ⟨.struct [(0, 12, 1), (1, 12, 1), (2, 112, 1), (3, 140, 1), (4, 5, 1), (5, 5, 1), (6, 141, 1), (7, 142, 1), (8, 143, 1), (9, 144, 1), (10, 145, 1)] false, 11, 48, (some [.int .u64 0, .int .u64 0, .int .u32 0, .int .u8 0, .int .u8 0, .int .u8 0, .int .u8 0, .nilfunc, .nilptr, .int .i32 0, .int .i32 0])⟩ := nf
theorem Z0m0 : E.T 147 = some ⟨.struct [(0, 12, 1), (1, 12, 1), (2, 112, 1), (3, 140, 1), (4, 5, 1), (5, 5, 1), (6, 141, 1), (7, 142, 1), (8, 143, 1), (9, 144, 1), (10, 145, 1)] false, 11, 48, (some [.int .u64 0, .int .u64 0, .int .u32 0, .int .u8 0, .int .u8 0, .int .u8 0, .int .u8 0, .nilfunc, .nilptr, .int .i32 0, .int .i32 0])⟩ := nf
theorem Z0oY : E.T 148 = some ⟨.other, 1, 8, (some [.nilptr])⟩ := nf
abbrev ZT := And.intro (And.intro (And.intro (And.intro (And.intro (And.intro (And.intro @T_0 @T_1) (And.intro @T_2 @T_3)) (And.intro (And.intro @T_4 @T_5) (And.intro @T_6 (And.intro @T_7 @T_8)))) (And.intro (And.intro (And.intro @T_9 @T_10) (And.intro @T_11 @T_12)) (And.intro (And.intro @T_13 @T_14) (And.intro @T_15 (And.intro @T_16 @T_17))))) (And.intro (And.intro (And.intro (And.intro @T_18 @T_19) (And.intro @T_20 @T_21)) (And.intro (And.intro @T_22 @T_23) (And.intro @T_24 (And.intro @T_25 @T_26)))) (And.intro (And.intro (And.intro @T_27 @T_28) (And.intro @T_29 (And.intro @T_30 @T_31))) (And.intro (And.intro @T_32 @T_33) (And.intro @T_34 (And.intro @T_35 @T_36)))))) (And.intro (And.intro (And.intro (And.intro (And.intro @T_37 @T_38) (And.intro @T_39 @T_40)) (And.intro (And.intro @T_41 @T_42) (And.intro @T_43 (And.intro @T_44 @T_45)))) (And.intro (And.intro (And.intro @T_46 @T_47) (And.intro @T_48 @T_49)) (And.intro (And.intro @T_50 @T_51) (And.intro @T_52 (And.intro @T_53 @T_54))))) (And.intro (And.intro (And.intro (And.intro @T_55 @T_56) (And.intro @T_57 @T_58)) (And.intro (And.intro @T_59 @T_60) (And.intro @T_61 (And.intro @T_62 @T_63)))) (And.intro (And.intro (And.intro @T_64 @T_65) (And.intro @T_66 (And.intro @T_67 @T_68))) (And.intro (And.intro @T_69 @T_70) (And.intro @T_71 (And.intro @T_72 @T_73))))))) (And.intro (And.intro (And.intro (And.intro (And.intro (And.intro @T_74 @T_75) (And.intro @T_76 @T_77)) (And.intro (And.intro @T_78 @T_79) (And.intro @T_80 (And.intro @T_81 @T_82)))) (And.intro (And.intro (And.intro @T_83 @T_84) (And.intro @T_85 @T_86)) (And.intro (And.intro @T_87 @T_88) (And.intro @T_89 (And.intro @T_90 @T_91))))) (And.intro (And.intro (And.intro (And.intro @T_92 @T_93) (And.intro @T_94 @T_95)) (And.intro (And.intro @T_96 @T_97) (And.intro @T_98 (And.intro @T_99 @Z0px)))) (And.intro (And.intro (And.intro @Z0pt @Z0p5) (And.intro @Z0lv (And.intro @Z0lA @Z0qa))) (And.intro (And.intro @Z0q7 @Z0mI) (And.intro @Z0na (And.intro @Z0nc @Z0pF)))))) (And.intro (And.intro (And.intro (And.intro (And.intro @Z0ot @Z0ml) (And.intro @Z0oP @Z0q8)) (And.intro (And.intro @Z0n1 @Z0lc) (And.intro @Z0oR (And.intro @Z0nu @Z0pk)))) (And.intro (And.intro (And.intro @Z0nK @Z0nh) (And.intro @Z0nt (And.intro @Z0om @Z0q1))) (And.intro (And.intro @Z0nd @Z0pC) (And.intro @Z0mb (And.intro @Z0kN @Z0pS))))) (And.intro (And.intro (And.intro (And.intro @Z0pc @Z0nj) (And.intro @Z0oc @Z0og)) (And.intro (And.intro @Z0lD @Z0lX) (And.intro @Z0oC (And.intro @Z0kR @Z0mr)))) (And.intro (And.intro (And.intro @Z0pT @Z0no) (And.intro @Z0pi (And.intro @Z0lI @Z0nZ))) (And.intro (And.intro @Z0lZ @Z0n4) (And.intro @Z0pQ (And.intro @Z0m0 @Z0oY)))))))
def Z94 := kBody Proofs.Try.f25
def ZGo := kL Z94
def ZjQ := kO ZGo
def Zwy := opN ZjQ 0
theorem Z0oA : XG 25 40 ZGo ZjQ [2] := Z1 (by rfl) (by rfl) _
theorem ZXX : ZjQ.toList = [Zwy] := nf
theorem Z07E : stepA E C B 40 ZjQ Zwy (φ, H) = some (fput φ 2 (.int .i64 0), H) := nf
def Zje := kR Z94
def ZGm := kL Zje
def Zl5 := kB ZGm
def ZGB := kL Zl5
def Z2J := kO ZGB
def ZDP := opN Z2J 0
def ZBk := opN Z2J 1
def ZvE := opN Z2J 2
def ZEc := opN Z2J 3
theorem Z0m7 : XG 25 40 ZGB Z2J [6, 7, 8] := Z1 (by rfl) (by rfl) _
theorem Z03q : Z2J.toList = [ZDP, ZBk, ZvE, ZEc] := nf
theorem Z0c4 : stepA E C B 40 Z2J ZDP (φ, H) = some (fput φ 6 (fget φ 0), H) := nf
theorem Z0bP : stepA E C B 40 Z2J ZBk (φ, H) = stp (some 7) φ H (Z3 E.T (B + 7) .len #[22] [(fget φ 6)]) := nf
theorem ZZu : stepA E C B 40 Z2J ZvE (φ, H) = stp (some 8) φ H (just (aBin E.T .eql 3 (fget φ 7) (.int .i64 0))) := nf
theorem ZXl : stepA E C B 40 Z2J ZEc (φ, H) = some (fput φ 5 (fget φ 8), H) := nf
def ZkY := kR Zl5
def ZkJ := kT ZkY
def ZGs := kL ZkJ
def ZkT := kO ZGs
def ZCS := opN ZkT 0
theorem Z0lC : XG 25 40 ZGs ZkT [0, 5] := Z1 (by rfl) (by rfl) _
theorem Z07D : ZkT.toList = [ZCS] := nf
theorem Z04w : stepA E C B 40 ZkT ZCS (φ, H) = some (fput φ 2 (.int .i64 4), H) := nf
def ZX3 := kR ZkJ
theorem Z0lw : execA E C (fg 25) B 40 E0 N ZX3 s = some (.ret, s) := Zo (by rfl) s
theorem Z0mJ : XQ 25 40 ZkJ ZGs ZX3 := Z0 (by rfl) _
def Zav := kE ZkY
def Zp6 := kL Zav
def Z2S := kO Zp6
def Zx6 := opN Z2S 0
def ZvZ := opN Z2S 1
def ZBS := opN Z2S 2
def ZxY := opN Z2S 3
theorem Z0hD : XG 25 40 Zp6 Z2S [5, 10, 11, 12] := Z1 (by rfl) (by rfl) _
theorem Z00f : Z2S.toList = [Zx6, ZvZ, ZBS, ZxY] := nf
theorem Z04o : stepA E C B 40 Z2S Zx6 (φ, H) = some (fput φ 10 (fget φ 0), H) := nf
theorem ZXP : stepA E C B 40 Z2S ZvZ (φ, H) = stp (some 11) φ H (Z3 E.T (B + 11) .len #[22] [(fget φ 10)]) := nf
theorem Z00r : stepA E C B 40 Z2S ZBS (φ, H) = stp (some 12) φ H (just (aBin E.T .gtr 3 (fget φ 11) (.int .i64 6))) := nf
theorem Z014 : stepA E C B 40 Z2S ZxY (φ, H) = some (fput φ 9 (fget φ 12), H) := nf
def Zd0 := kR Zav
def Zcj := kT Zd0
def ZmZ := kL Zcj
def Zja := kO ZmZ
def ZxP := opN Zja 0
theorem Z0d9 : XG 25 40 ZmZ Zja [0, 9] := Z1 (by rfl) (by rfl) _
theorem Z05q : Zja.toList = [ZxP] := nf
theorem Z015 : stepA E C B 40 Zja ZxP (φ, H) = some (fput φ 2 (.int .i64 3), H) := nf
def ZHb := kR Zcj
theorem Z0gg : execA E C (fg 25) B 40 E0 N ZHb s = some (.ret, s) := Zo (by rfl) s
theorem Z0jf : XQ 25 40 Zcj ZmZ ZHb := Z0 (by rfl) _
def ZHc := kE Zd0
theorem Z0dr : execA E C (fg 25) B 40 E0 N ZHc s = some (.normal, s) := Zh (by rfl) s
theorem Z0iK : XC 25 40 Zd0 9 Zcj ZHc := Zf (by rfl) _
theorem Z0eJ : XQ 25 40 Zav Zp6 Zd0 := Z0 (by rfl) _
theorem Z0lB : XC 25 40 ZkY 5 ZkJ Zav := Zf (by rfl) _
theorem Z0p3 : XQ 25 40 Zl5 ZGB ZkY := Z0 (by rfl) _
theorem Z0oG : execA E C (fg 25) B 40 E0 N ZGm s = blockX 0 (fun s => (forget s.1 [9], s.2)) (execA E C (fg 25) B 40 E0 N Zl5 s) := Zi (by rfl) (by rfl) s
def ZcK := kR Zje
def Za0 := kL ZcK
def Ztu := kL Za0
def Z4z := kO Ztu
def ZCt := opN Z4z 0
def Zzv := opN Z4z 1
def ZCv := opN Z4z 2
theorem Z0dk : XG 25 40 Ztu Z4z [] := Z1 (by rfl) (by rfl) _
theorem ZZQ : Z4z.toList = [ZCt, Zzv, ZCv] := nf
theorem Z0aG : stepA E C B 40 Z4z ZCt (φ, H) = some (fput φ 13 (fget φ 0), H) := nf
theorem ZY3 : stepA E C B 40 Z4z Zzv (φ, H) = stp (some 14) φ H (Z3 E.T (B + 14) .len #[22] [(fget φ 13)]) := nf
theorem ZXD : stepA E C B 40 Z4z ZCv (φ, H) = some (fput φ 15 (.int .i64 0), H) := nf
def ZsD := kR Za0
def Ztx := kB ZsD
def Z3Q := kB Ztx
def ZsL := kL Z3Q
def ZkN := kO ZsL
def Zw2 := opN ZkN 0
theorem Z0gj : XG 25 40 ZsL ZkN [] := Z1 (by rfl) (by rfl) _
theorem Z035 : ZkN.toList = [Zw2] := nf
theorem ZYi : stepA E C B 40 ZkN Zw2 (φ, H) = stp (some 16) φ H (just (aBin E.T .lss 3 (fget φ 15) (fget φ 14))) := nf
def ZbA := kR Z3Q
def Zaf := kL ZbA
def ZIg := kT Zaf
theorem Z0hB : execA E C (fg 25) B 40 E0 N ZIg s = some (.normal, s) := Zh (by rfl) s
def ZLJ := kE Zaf
theorem Z0il : execA E C (fg 25) B 40 E0 N ZLJ s = some (.exit 1, s) := ZW (by rfl) s
theorem Z0ev : XC 25 40 Zaf 16 ZIg ZLJ := Zf (by rfl) _
def Z9a := kR ZbA
def ZlD := kL Z9a
def ZcN := kB ZlD
def Zn4 := kL ZcN
def Z2a := kO Zn4
def ZyX := opN Z2a 0
def Zuv := opN Z2a 1
def ZCH := opN Z2a 2
def ZzE := opN Z2a 3
def ZvV := opN Z2a 4
theorem Z0cM : XG 25 40 Zn4 Z2a [16, 17, 18, 19] := Z1 (by rfl) (by rfl) _
theorem Z03k : Z2a.toList = [ZyX, Zuv, ZCH, ZzE, ZvV] := nf
theorem Z09i : stepA E C B 40 Z2a ZyX (φ, H) = some (fput φ 17 (fget φ 15), H) := nf
theorem Z068 : stepA E C B 40 Z2a Zuv (φ, H) = stp (some 18) φ H (just (Z4 E.T 22 (fget φ 13) (fget φ 15))) := nf
theorem Z079 : stepA E C B 40 Z2a ZCH (φ, H) = stp (some 19) φ H (just (aLoad E.T 3 (fget φ 18))) := nf
theorem Z0a5 : stepA E C B 40 Z2a ZzE (φ, H) = some (fput φ 3 (fget φ 17), H) := nf
theorem ZYh : stepA E C B 40 Z2a ZvV (φ, H) = some (fput φ 4 (fget φ 19), H) := nf
def ZmX := kR ZcN
def ZbE := kB ZmX
def Zt8 := kL ZbE
def Z1a := kO Zt8
def Zzl := opN Z1a 0
def ZDM := opN Z1a 1
def Z7M := opN Z1a 2
def ZBp := opN Z1a 3
def ZCf := opN Z1a 4
def ZAz := opN Z1a 5
def Zvn := opN Z1a 6
theorem Z0dc : XG 25 40 Zt8 Z1a [21, 22, 23, 24, 25, 26] := Z1 (by rfl) (by rfl) _
theorem Z02J : Z1a.toList = [Zzl, ZDM, Z7M, ZBp, ZCf, ZAz, Zvn] := nf
theorem Z01F : stepA E C B 40 Z1a Zzl (φ, H) = some (fput φ 21 (fget φ 4), H) := nf
theorem Z04V : stepA E C B 40 Z1a ZDM (φ, H) = stp (some 22) φ H (just (aBin E.T .lss 3 (fget φ 21) (.int .i64 0))) := nf
theorem ZXR : stepA E C B 40 Z1a Z7M (φ, H) = some (fput φ 23 (fget φ 22), H) := nf
theorem Z0ct : stepA E C B 40 Z1a ZBp (φ, H) = gd φ 23 false (fun φ => some (fput φ 24 (.tup []), H)) (fun φ => some (fput φ 24 (fget φ 4), H)) := s_gd (j := 2) (oj := Z7M) rfl rfl rfl (fun _ => rfl) (fun _ => rfl)
theorem Z0aF : stepA E C B 40 Z1a ZCf (φ, H) = gd φ 23 false (fun φ => some (fput φ 25 (.tup []), H)) (fun φ => stp (some 25) φ H (just (aBin E.T .gtr 3 (fget φ 24) (.int .i64 8)))) := s_gd (j := 2) (oj := Z7M) rfl rfl rfl (fun _ => rfl) (fun _ => rfl)
theorem ZYp : stepA E C B 40 Z1a ZAz (φ, H) = stp (some 26) φ H (opPick (fget φ 23) (.bool true) (fget φ 25)) := nf
theorem Z08A : stepA E C B 40 Z1a Zvn (φ, H) = some (fput φ 20 (fget φ 26), H) := nf
def Zca := kR ZbE
def Z9m := kT Zca
def ZpD := kL Z9m
def Zjf := kO ZpD
def ZBt := opN Zjf 0
theorem Z0gJ : XG 25 40 ZpD Zjf [0, 3, 4, 13, 14, 15, 20] := Z1 (by rfl) (by rfl) _
theorem ZXO : Zjf.toList = [ZBt] := nf
theorem ZZx : stepA E C B 40 Zjf ZBt (φ, H) = some (fput φ 2 (.int .i64 1), H) := nf
def ZGQ := kR Z9m
theorem Z0iE : execA E C (fg 25) B 40 E0 N ZGQ s = some (.ret, s) := Zo (by rfl) s
theorem Z0k0 : XQ 25 40 Z9m ZpD ZGQ := Z0 (by rfl) _
def Z9e := kE Zca
def ZtL := kL Z9e
def ZO := kO ZtL
def ZoZ := opN ZO 0
def Zri := opN ZO 1
def Z1h := opN ZO 2
def Zpv := opN ZO 3
def ZqE := opN ZO 4
def Zn6 := opN ZO 5
def ZmL := opN ZO 6
def ZoK := opN ZO 7
def ZtG := opN ZO 8
def ZqQ := opN ZO 9
def Zhj := opN ZO 10
def Zg1 := opN ZO 11
theorem Z0hM : XG 25 40 ZtL ZO [3, 4, 20, 28, 29, 30, 31, 32, 33, 34, 35, 36, 37, 38] := Z1 (by rfl) (by rfl) _
theorem ZUf : ZO.toList = [ZoZ, Zri, Z1h, Zpv, ZqE, Zn6, ZmL, ZoK, ZtG, ZqQ, Zhj, Zg1] := nf
theorem ZV1 : stepA E C B 40 ZO ZoZ (φ, H) = some (fput φ 28 (fget φ 3), H) := nf
theorem ZSu : stepA E C B 40 ZO Zri (φ, H) = stp (some 29) φ H (just (aBin E.T .gtr 3 (fget φ 28) (.int .i64 0))) := nf
theorem ZUz : stepA E C B 40 ZO Z1h (φ, H) = some (fput φ 30 (fget φ 29), H) := nf
theorem ZWN : stepA E C B 40 ZO Zpv (φ, H) = gd φ 30 true (fun φ => some (fput φ 31 (.tup []), H)) (fun φ => some (fput φ 31 (fget φ 4), H)) := s_gd (j := 2) (oj := Z1h) rfl rfl rfl (fun _ => rfl) (fun _ => rfl)
theorem ZVV : stepA E C B 40 ZO ZqE (φ, H) = gd φ 30 true (fun φ => some (fput φ 32 (.tup []), H)) (fun φ => some (fput φ 32 (fget φ 0), H)) := s_gd (j := 2) (oj := Z1h) rfl rfl rfl (fun _ => rfl) (fun _ => rfl)
theorem ZRD : stepA E C B 40 ZO Zn6 (φ, H) = gd φ 30 true (fun φ => some (fput φ 33 (.tup []), H)) (fun φ => some (fput φ 33 (fget φ 3), H)) := s_gd (j := 2) (oj := Z1h) rfl rfl rfl (fun _ => rfl) (fun _ => rfl)
theorem ZSB : stepA E C B 40 ZO ZmL (φ, H) = gd φ 30 true (fun φ => some (fput φ 34 (.tup []), H)) (fun φ => stp (some 34) φ H (just (aBin E.T .sub 3 (fget φ 33) (.int .i64 1)))) := s_gd (j := 2) (oj := Z1h) rfl rfl rfl (fun _ => rfl) (fun _ => rfl)
theorem ZUO : stepA E C B 40 ZO ZoK (φ, H) = gd φ 30 true (fun φ => some (fput φ 35 (.tup []), H)) (fun φ => stp (some 35) φ H (just (Z4 E.T 22 (fget φ 32) (fget φ 34)))) := s_gd (j := 2) (oj := Z1h) rfl rfl rfl (fun _ => rfl) (fun _ => rfl)
theorem ZRP : stepA E C B 40 ZO ZtG (φ, H) = gd φ 30 true (fun φ => some (fput φ 36 (.tup []), H)) (fun φ => stp (some 36) φ H (just (aLoad E.T 3 (fget φ 35)))) := s_gd (j := 2) (oj := Z1h) rfl rfl rfl (fun _ => rfl) (fun _ => rfl)
theorem ZUt : stepA E C B 40 ZO ZqQ (φ, H) = gd φ 30 true (fun φ => some (fput φ 37 (.tup []), H)) (fun φ => stp (some 37) φ H (just (aBin E.T .gtr 3 (fget φ 31) (fget φ 36)))) := s_gd (j := 2) (oj := Z1h) rfl rfl rfl (fun _ => rfl) (fun _ => rfl)
theorem ZHK : stepA E C B 40 ZO Zhj (φ, H) = stp (some 38) φ H (opPick (fget φ 30) (fget φ 37) (.bool false)) := nf
theorem ZMs : stepA E C B 40 ZO Zg1 (φ, H) = some (fput φ 27 (fget φ 38), H) := nf
def Z96 := kR Z9e
def Zae := kT Z96
def ZnW := kL Zae
def ZcS := kO ZnW
def Zo0 := opN ZcS 0
theorem Z0dj : XG 25 40 ZnW ZcS [0, 13, 14, 15, 27] := Z1 (by rfl) (by rfl) _
theorem ZWF : ZcS.toList = [Zo0] := nf
theorem ZTK : stepA E C B 40 ZcS Zo0 (φ, H) = some (fput φ 2 (.int .i64 7), H) := nf
def ZJ0 := kR Zae
theorem Z0k4 : execA E C (fg 25) B 40 E0 N ZJ0 s = some (.ret, s) := Zo (by rfl) s
theorem Z0gk : XQ 25 40 Zae ZnW ZJ0 := Z0 (by rfl) _
def ZMz := kE Z96
theorem Z0dT : execA E C (fg 25) B 40 E0 N ZMz s = some (.normal, s) := Zh (by rfl) s
theorem Z0hK : XC 25 40 Z96 27 Zae ZMz := Zf (by rfl) _
theorem Z0d2 : XQ 25 40 Z9e ZtL Z96 := Z0 (by rfl) _
theorem Z0hP : XC 25 40 Zca 20 Z9m Z9e := Zf (by rfl) _
theorem Z0km : XQ 25 40 ZbE Zt8 Zca := Z0 (by rfl) _
theorem Z0hg : execA E C (fg 25) B 40 E0 N ZmX s = blockX 3 (fun s => (forget s.1 [27], s.2)) (execA E C (fg 25) B 40 E0 N ZbE s) := Zi (by rfl) (by rfl) s
theorem Z0id : XQ 25 40 ZcN Zn4 ZmX := Z0 (by rfl) _
theorem Z0f2 : execA E C (fg 25) B 40 E0 N ZlD s = blockX 2 (fun s => (forget s.1 [], s.2)) (execA E C (fg 25) B 40 E0 N ZcN s) := Zi (by rfl) (by rfl) s
def Zt0 := kR Z9a
def Z53 := kO Zt0
def Zrb := opN Z53 0
def Zp4 := opN Z53 1
theorem Z0gv : XG 25 40 Zt0 Z53 [39] := Z1 (by rfl) (by rfl) _
theorem ZVQ : Z53.toList = [Zrb, Zp4] := nf
theorem ZQC : stepA E C B 40 Z53 Zrb (φ, H) = stp (some 39) φ H (just (aBin E.T .add 3 (fget φ 15) (.int .i64 1))) := nf
theorem ZQZ : stepA E C B 40 Z53 Zp4 (φ, H) = some (fput φ 15 (fget φ 39), H) := nf
theorem Z0cL : XQ 25 40 Z9a ZlD Zt0 := Z0 (by rfl) _
theorem Z0h1 : XQ 25 40 ZbA Zaf Z9a := Z0 (by rfl) _
theorem Z0iS : XQ 25 40 Z3Q ZsL ZbA := Z0 (by rfl) _
theorem Z0ft : execA E C (fg 25) B 40 E0 N Ztx s = iterA (execA E C (fg 25) B 40 E0 N Z3Q) (headA E0) N s := Z08 (by rfl) s
theorem Z0gc : execA E C (fg 25) B 40 E0 N ZsD s = blockX 1 (fun s => (forget s.1 [0, 13, 14, 15, 16], s.2)) (execA E C (fg 25) B 40 E0 N Ztx s) := Zi (by rfl) (by rfl) s
theorem Z0hN : XQ 25 40 Za0 Ztu ZsD := Z0 (by rfl) _
def Zau := kR ZcK
def Zml := kL Zau
def ZaA := kO Zml
def Zr7 := opN ZaA 0
theorem Z0kh : XG 25 40 Zml ZaA [] := Z1 (by rfl) (by rfl) _
theorem ZUj : ZaA.toList = [Zr7] := nf
theorem ZW0 : stepA E C B 40 ZaA Zr7 (φ, H) = some (fput φ 2 (.int .i64 0), H) := nf
def ZNa := kR Zau
theorem Z0j9 : execA E C (fg 25) B 40 E0 N ZNa s = some (.ret, s) := Zo (by rfl) s
theorem Z0hE : XQ 25 40 Zau Zml ZNa := Z0 (by rfl) _
theorem Z0cY : XQ 25 40 ZcK Za0 Zau := Z0 (by rfl) _
theorem Z0o8 : XQ 25 40 Zje ZGm ZcK := Z0 (by rfl) _
theorem Z0lt : XQ 25 40 Z94 ZGo Zje := Z0 (by rfl) _
theorem Z0pr : fInfo E 25 = some ⟨40, #[.tmp 2], Z94⟩ := nf
theorem b_25 (args : List AV) : bodyA E C fg N 25 args H B = bodyX E [.tmp 2] (execA E C (fg 25) B 40 H N Z94 (Z5 args 0 [], H)) := Zp Z0pr args H
abbrev F_25 := And.intro (And.intro (And.intro (And.intro (And.intro (And.intro @Z0oA (And.intro @ZXX @Z07E)) (And.intro @Z0m7 (And.intro @Z03q @Z0c4))) (And.intro (And.intro @Z0bP (And.intro @ZZu @ZXl)) (And.intro (And.intro @Z0lC @Z07D) (And.intro @Z04w @Z0lw)))) (And.intro (And.intro (And.intro @Z0mJ (And.intro @Z0hD @Z00f)) (And.intro (And.intro @Z04o @ZXP) (And.intro @Z00r @Z014))) (And.intro (And.intro @Z0d9 (And.intro @Z05q @Z015)) (And.intro (And.intro @Z0gg @Z0jf) (And.intro @Z0dr @Z0iK))))) (And.intro (And.intro (And.intro (And.intro @Z0eJ (And.intro @Z0lB @Z0p3)) (And.intro @Z0oG (And.intro @Z0dk @ZZQ))) (And.intro (And.intro @Z0aG (And.intro @ZY3 @ZXD)) (And.intro (And.intro @Z0gj @Z035) (And.intro @ZYi @Z0hB)))) (And.intro (And.intro (And.intro @Z0il (And.intro @Z0ev @Z0cM)) (And.intro (And.intro @Z03k @Z09i) (And.intro @Z068 @Z079))) (And.intro (And.intro @Z0a5 (And.intro @ZYh @Z0dc)) (And.intro (And.intro @Z02J @Z01F) (And.intro @Z04V @ZXR)))))) (And.intro (And.intro (And.intro (And.intro (And.intro @Z0ct (And.intro @Z0aF @ZYp)) (And.intro @Z08A (And.intro @Z0gJ @ZXO))) (And.intro (And.intro @ZZx (And.intro @Z0iE @Z0k0)) (And.intro (And.intro @Z0hM @ZUf) (And.intro @ZV1 @ZSu)))) (And.intro (And.intro (And.intro @ZUz (And.intro @ZWN @ZVV)) (And.intro (And.intro @ZRD @ZSB) (And.intro @ZUO @ZRP))) (And.intro (And.intro @ZUt (And.intro @ZHK @ZMs)) (And.intro (And.intro @Z0dj @ZWF) (And.intro @ZTK @Z0k4))))) (And.intro (And.intro (And.intro (And.intro @Z0gk (And.intro @Z0dT @Z0hK)) (And.intro (And.intro @Z0d2 @Z0hP) (And.intro @Z0km @Z0hg))) (And.intro (And.intro @Z0id (And.intro @Z0f2 @Z0gv)) (And.intro (And.intro @ZVQ @ZQC) (And.intro @ZQZ @Z0cL)))) (And.intro (And.intro (And.intro @Z0h1 (And.intro @Z0iS @Z0ft)) (And.intro (And.intro @Z0gc @Z0hN) (And.intro @Z0kh @ZUj))) (And.intro (And.intro @ZW0 (And.intro @Z0j9 @Z0hE)) (And.intro (And.intro @Z0cY @Z0o8) (And.intro @Z0lt @b_25))))))
def Zd3 := kBody Proofs.Try.f79
def ZFN := kL Zd3
def Zl6 := kO ZFN
def Zy7 := opN Zl6 0
theorem Z0l2 : XG 79 25 ZFN Zl6 [2] := Z1 (by rfl) (by rfl) _
theorem ZYz : Zl6.toList = [Zy7] := nf
theorem Z0at : stepA E C B 25 Zl6 Zy7 (φ, H) = some (fput φ 2 (.nilsl), H) := nf
def ZjI := kR Zd3
def ZG2 := kL ZjI
def Z87 := kO ZG2
def Zxq := opN Z87 0
def ZDQ := opN Z87 1
theorem Z0p7 : XG 79 25 ZG2 Z87 [6] := Z1 (by rfl) (by rfl) _
theorem Z074 : Z87.toList = [Zxq, ZDQ] := nf
theorem ZZv : stepA E C B 25 Z87 Zxq (φ, H) = stp (some 6) φ H (Z9 E.T (B + 6) 22 1 (evO E φ) [(0, Operand.const (Value.int .i64 0))]) := nf
theorem Z06q : stepA E C B 25 Z87 ZDQ (φ, H) = some (fput φ 3 (fget φ 6), H) := nf
def Zla := kR ZjI
def ZjV := kL Zla
def ZGr := kL ZjV
def Z4u := kO ZGr
def Zys := opN Z4u 0
def ZuV := opN Z4u 1
def Zz1 := opN Z4u 2
theorem Z0oD : XG 79 25 ZGr Z4u [0] := Z1 (by rfl) (by rfl) _
theorem ZZf : Z4u.toList = [Zys, ZuV, Zz1] := nf
theorem Z05R : stepA E C B 25 Z4u Zys (φ, H) = some (fput φ 7 (fget φ 0), H) := nf
theorem Z03Q : stepA E C B 25 Z4u ZuV (φ, H) = stp (some 8) φ H (Z3 E.T (B + 8) .len #[22] [(fget φ 7)]) := nf
theorem ZXi : stepA E C B 25 Z4u Zz1 (φ, H) = some (fput φ 9 (.int .i64 0), H) := nf
def ZGt := kR ZjV
def ZF2 := kB ZGt
def Z5t := kB ZF2
def ZtC := kL Z5t
def Zk9 := kO ZtC
def ZEd := opN Zk9 0
theorem Z0gU : XG 79 25 ZtC Zk9 [] := Z1 (by rfl) (by rfl) _
theorem Z00v : Zk9.toList = [ZEd] := nf
theorem ZXh : stepA E C B 25 Zk9 ZEd (φ, H) = stp (some 10) φ H (just (aBin E.T .lss 3 (fget φ 9) (fget φ 8))) := nf
def ZcY := kR Z5t
def ZcU := kL ZcY
def ZK0 := kT ZcU
theorem Z0dZ : execA E C (fg 79) B 25 E0 N ZK0 s = some (.normal, s) := Zh (by rfl) s
def ZLZ := kE ZcU
theorem Z0iC : execA E C (fg 79) B 25 E0 N ZLZ s = some (.exit 0, s) := ZW (by rfl) s
theorem Z0dS : XC 79 25 ZcU 10 ZK0 ZLZ := Zf (by rfl) _
def Zc2 := kR ZcY
def ZqS := kL Zc2
def Zba := kB ZqS
def Zok := kL Zba
def Z26 := kO Zok
def ZE6 := opN Z26 0
def ZDR := opN Z26 1
def Zxk := opN Z26 2
def ZzB := opN Z26 3
def Zyc := opN Z26 4
theorem Z0iX : XG 79 25 Zok Z26 [10, 11, 12, 13] := Z1 (by rfl) (by rfl) _
theorem Z0bz : Z26.toList = [ZE6, ZDR, Zxk, ZzB, Zyc] := nf
theorem Z0bc : stepA E C B 25 Z26 ZE6 (φ, H) = some (fput φ 11 (fget φ 9), H) := nf
theorem ZXy : stepA E C B 25 Z26 ZDR (φ, H) = stp (some 12) φ H (just (Z4 E.T 22 (fget φ 7) (fget φ 9))) := nf
theorem ZZ1 : stepA E C B 25 Z26 Zxk (φ, H) = stp (some 13) φ H (just (aLoad E.T 3 (fget φ 12))) := nf
theorem Z00Q : stepA E C B 25 Z26 ZzB (φ, H) = some (fput φ 4 (fget φ 11), H) := nf
theorem ZYe : stepA E C B 25 Z26 Zyc (φ, H) = some (fput φ 5 (fget φ 13), H) := nf
def ZsN := kR Zba
def Z0l := kO ZsN
def ZCD := opN Z0l 0
def ZAU := opN Z0l 1
def ZD9 := opN Z0l 2
def Zx3 := opN Z0l 3
def ZzT := opN Z0l 4
def ZDD := opN Z0l 5
def ZD2 := opN Z0l 6
def ZC8 := opN Z0l 7
def ZBF := opN Z0l 8
def ZBd := opN Z0l 9
theorem Z0do : XG 79 25 ZsN Z0l [4, 5, 14, 15, 16, 17, 18, 19, 20, 21, 22] := Z1 (by rfl) (by rfl) _
theorem ZXa : Z0l.toList = [ZCD, ZAU, ZD9, Zx3, ZzT, ZDD, ZD2, ZC8, ZBF, ZBd] := nf
theorem Z064 : stepA E C B 25 Z0l ZCD (φ, H) = some (fput φ 14 (fget φ 3), H) := nf
theorem Z0aq : stepA E C B 25 Z0l ZAU (φ, H) = some (fput φ 15 (fget φ 3), H) := nf
theorem ZXE : stepA E C B 25 Z0l ZD9 (φ, H) = some (fput φ 16 (fget φ 4), H) := nf
theorem Z098 : stepA E C B 25 Z0l Zx3 (φ, H) = stp (some 17) φ H (just (Z4 E.T 22 (fget φ 15) (fget φ 16))) := nf
theorem Z01K : stepA E C B 25 Z0l ZzT (φ, H) = stp (some 18) φ H (just (aLoad E.T 3 (fget φ 17))) := nf
theorem Z07L : stepA E C B 25 Z0l ZDD (φ, H) = some (fput φ 19 (fget φ 5), H) := nf
theorem Z010 : stepA E C B 25 Z0l ZD2 (φ, H) = stp (some 20) φ H (just (aBin E.T .add 3 (fget φ 18) (fget φ 19))) := nf
theorem Z025 : stepA E C B 25 Z0l ZC8 (φ, H) = stp (some 21) φ H (Z9 E.T (B + 21) 22 1 (evO E φ) [(0, Operand.tmp 20)]) := nf
theorem Z09K : stepA E C B 25 Z0l ZBF (φ, H) = stp (some 22) φ H (Z3 E.T (B + 22) .append #[22, 22] [(fget φ 14), (fget φ 21)]) := nf
theorem Z07I : stepA E C B 25 Z0l ZBd (φ, H) = some (fput φ 3 (fget φ 22), H) := nf
theorem Z0jA : XQ 79 25 Zba Zok ZsN := Z0 (by rfl) _
theorem Z0h2 : execA E C (fg 79) B 25 E0 N ZqS s = blockX 1 (fun s => (forget s.1 [], s.2)) (execA E C (fg 79) B 25 E0 N Zba s) := Zi (by rfl) (by rfl) s
def Zm5 := kR Zc2
def Z7O := kO Zm5
def Zvp := opN Z7O 0
def ZDK := opN Z7O 1
theorem Z0hY : XG 79 25 Zm5 Z7O [23] := Z1 (by rfl) (by rfl) _
theorem ZZe : Z7O.toList = [Zvp, ZDK] := nf
theorem Z09E : stepA E C B 25 Z7O Zvp (φ, H) = stp (some 23) φ H (just (aBin E.T .add 3 (fget φ 9) (.int .i64 1))) := nf
theorem Z08i : stepA E C B 25 Z7O ZDK (φ, H) = some (fput φ 9 (fget φ 23), H) := nf
theorem Z0iy : XQ 79 25 Zc2 ZqS Zm5 := Z0 (by rfl) _
theorem Z0k2 : XQ 79 25 ZcY ZcU Zc2 := Z0 (by rfl) _
theorem Z0q2 : XQ 79 25 Z5t ZtC ZcY := Z0 (by rfl) _
theorem Z0oh : execA E C (fg 79) B 25 E0 N ZF2 s = iterA (execA E C (fg 79) B 25 E0 N Z5t) (headA E0) N s := Z08 (by rfl) s
theorem Z0nS : execA E C (fg 79) B 25 E0 N ZGt s = blockX 0 (fun s => (forget s.1 [7, 8, 9, 10], s.2)) (execA E C (fg 79) B 25 E0 N ZF2 s) := Zi (by rfl) (by rfl) s
theorem Z0p8 : XQ 79 25 ZjV ZGr ZGt := Z0 (by rfl) _
def Zc3 := kR Zla
def ZsR := kL Zc3
def Z6I := kO ZsR
def Zwj := opN Z6I 0
def ZBR := opN Z6I 1
theorem Z0eq : XG 79 25 ZsR Z6I [3, 24] := Z1 (by rfl) (by rfl) _
theorem ZYX : Z6I.toList = [Zwj, ZBR] := nf
theorem Z05b : stepA E C B 25 Z6I Zwj (φ, H) = some (fput φ 24 (fget φ 3), H) := nf
theorem Z0av : stepA E C B 25 Z6I ZBR (φ, H) = some (fput φ 2 (fget φ 24), H) := nf
def ZJy := kR Zc3
theorem Z0jx : execA E C (fg 79) B 25 E0 N ZJy s = some (.ret, s) := Zo (by rfl) s
theorem Z0jy : XQ 79 25 Zc3 ZsR ZJy := Z0 (by rfl) _
theorem Z0pu : XQ 79 25 Zla ZjV Zc3 := Z0 (by rfl) _
theorem Z0oj : XQ 79 25 ZjI ZG2 Zla := Z0 (by rfl) _
theorem Z0m5 : XQ 79 25 Zd3 ZFN ZjI := Z0 (by rfl) _
theorem Z0l0 : fInfo E 79 = some ⟨25, #[.tmp 2], Zd3⟩ := nf
theorem b_79 (args : List AV) : bodyA E C fg N 79 args H B = bodyX E [.tmp 2] (execA E C (fg 79) B 25 H N Zd3 (Z5 args 0 [], H)) := Zp Z0l0 args H
abbrev F_79 := And.intro (And.intro (And.intro (And.intro (And.intro @Z0l2 (And.intro @ZYz @Z0at)) (And.intro (And.intro @Z0p7 @Z074) (And.intro @ZZv @Z06q))) (And.intro (And.intro @Z0oD (And.intro @ZZf @Z05R)) (And.intro (And.intro @Z03Q @ZXi) (And.intro @Z0gU @Z00v)))) (And.intro (And.intro (And.intro @ZXh (And.intro @Z0dZ @Z0iC)) (And.intro (And.intro @Z0dS @Z0iX) (And.intro @Z0bz @Z0bc))) (And.intro (And.intro (And.intro @ZXy @ZZ1) (And.intro @Z00Q @ZYe)) (And.intro (And.intro @Z0do @ZXa) (And.intro @Z064 @Z0aq))))) (And.intro (And.intro (And.intro (And.intro @ZXE (And.intro @Z098 @Z01K)) (And.intro (And.intro @Z07L @Z010) (And.intro @Z025 @Z09K))) (And.intro (And.intro (And.intro @Z07I @Z0jA) (And.intro @Z0h2 @Z0hY)) (And.intro (And.intro @ZZe @Z09E) (And.intro @Z08i @Z0iy)))) (And.intro (And.intro (And.intro @Z0k2 (And.intro @Z0q2 @Z0oh)) (And.intro (And.intro @Z0nS @Z0p8) (And.intro @Z0eq @ZYX))) (And.intro (And.intro (And.intro @Z05b @Z0av) (And.intro @Z0jx @Z0jy)) (And.intro (And.intro @Z0pu @Z0oj) (And.intro @Z0m5 @b_79)))))
def Z9k := kBody Proofs.Try.f85
def ZEJ := kL Z9k
def Z4J := kO ZEJ
def Zx0 := opN Z4J 0
def ZvQ := opN Z4J 1
def ZC9 := opN Z4J 2
theorem Z0nV : XG 85 43 ZEJ Z4J [4, 5, 6] := Z1 (by rfl) (by rfl) _
theorem ZZw : Z4J.toList = [Zx0, ZvQ, ZC9] := nf
theorem Z00w : stepA E C B 43 Z4J Zx0 (φ, H) = some (fput φ 4 (.nilsl), H) := nf
theorem Z07O : stepA E C B 43 Z4J ZvQ (φ, H) = some (fput φ 5 (.nilsl), H) := nf
theorem Z06u : stepA E C B 43 Z4J ZC9 (φ, H) = some (fput φ 6 (.int .i64 0), H) := nf
def ZjG := kR Z9k
def ZjO := kL ZjG
def ZEG := kL ZjO
def Z4v := kO ZEG
def ZAY := opN Z4v 0
def ZBU := opN Z4v 1
def ZBw := opN Z4v 2
theorem Z0lb : XG 85 43 ZEG Z4v [9, 10] := Z1 (by rfl) (by rfl) _
theorem ZYP : Z4v.toList = [ZAY, ZBU, ZBw] := nf
theorem ZXT : stepA E C B 43 Z4v ZAY (φ, H) = some (fput φ 9 (fget φ 0), H) := nf
theorem Z01A : stepA E C B 43 Z4v ZBU (φ, H) = stp (some 10) φ H (aCall C (fun j => B + j * 43 + 10) true 25 [(fget φ 9)]) := nf
theorem Z034 : stepA E C B 43 Z4v ZBw (φ, H) = some (fput φ 7 (fget φ 10), H) := nf
def Zky := kR ZjO
def ZGI := kL Zky
def Z6h := kO ZGI
def ZEi := opN Z6h 0
def ZBP := opN Z6h 1
theorem Z0lH : XG 85 43 ZGI Z6h [11] := Z1 (by rfl) (by rfl) _
theorem Z05F : Z6h.toList = [ZEi, ZBP] := nf
theorem ZY9 : stepA E C B 43 Z6h ZEi (φ, H) = some (fput φ 11 (fget φ 7), H) := nf
theorem Z03l : stepA E C B 43 Z6h ZBP (φ, H) = stp (some 12) φ H (just (aBin E.T .neq 24 (fget φ 11) (.int .i64 0))) := nf
def ZjJ := kR Zky
def ZjW := kT ZjJ
def ZGO := kL ZjW
def Z2R := kO ZGO
def ZDU := opN Z2R 0
def ZyG := opN Z2R 1
def ZD0 := opN Z2R 2
def ZAO := opN Z2R 3
theorem Z0pH : XG 85 43 ZGO Z2R [0, 1, 7, 12, 13] := Z1 (by rfl) (by rfl) _
theorem Z05t : Z2R.toList = [ZDU, ZyG, ZD0, ZAO] := nf
theorem Z05d : stepA E C B 43 Z2R ZDU (φ, H) = some (fput φ 13 (fget φ 7), H) := nf
theorem Z088 : stepA E C B 43 Z2R ZyG (φ, H) = some (fput φ 4 (.nilsl), H) := nf
theorem Z0bS : stepA E C B 43 Z2R ZD0 (φ, H) = some (fput φ 5 (.nilsl), H) := nf
theorem Z067 : stepA E C B 43 Z2R ZAO (φ, H) = some (fput φ 6 (fget φ 13), H) := nf
def ZIr := kR ZjW
theorem Z0jt : execA E C (fg 85) B 43 E0 N ZIr s = some (.ret, s) := Zo (by rfl) s
theorem Z0nF : XQ 85 43 ZjW ZGO ZIr := Z0 (by rfl) _
def ZKF := kE ZjJ
theorem Z0f4 : execA E C (fg 85) B 43 E0 N ZKF s = some (.normal, s) := Zh (by rfl) s
theorem Z0la : XC 85 43 ZjJ 12 ZjW ZKF := Zf (by rfl) _
theorem Z0ou : XQ 85 43 Zky ZGI ZjJ := Z0 (by rfl) _
theorem Z0pa : XQ 85 43 ZjO ZEG Zky := Z0 (by rfl) _
def Z9Y := kR ZjG
def Zd1 := kL Z9Y
def Zpa := kL Zd1
def Z4q := kO Zpa
def ZAZ := opN Z4q 0
def ZEp := opN Z4q 1
def ZyD := opN Z4q 2
theorem Z0fF : XG 85 43 Zpa Z4q [7, 12, 14, 15] := Z1 (by rfl) (by rfl) _
theorem Z07e : Z4q.toList = [ZAZ, ZEp, ZyD] := nf
theorem ZZ0 : stepA E C B 43 Z4q ZAZ (φ, H) = some (fput φ 14 (fget φ 1), H) := nf
theorem ZXc : stepA E C B 43 Z4q ZEp (φ, H) = stp (some 15) φ H (aCall C (fun j => B + j * 43 + 15) true 25 [(fget φ 14)]) := nf
theorem Z09g : stepA E C B 43 Z4q ZyD (φ, H) = some (fput φ 8 (fget φ 15), H) := nf
def ZaK := kR Zd1
def Zmv := kL ZaK
def Z6W := kO Zmv
def Zz5 := opN Z6W 0
def Zvh := opN Z6W 1
theorem Z0fo : XG 85 43 Zmv Z6W [16] := Z1 (by rfl) (by rfl) _
theorem Z09f : Z6W.toList = [Zz5, Zvh] := nf
theorem Z09D : stepA E C B 43 Z6W Zz5 (φ, H) = some (fput φ 16 (fget φ 8), H) := nf
theorem Z03j : stepA E C B 43 Z6W Zvh (φ, H) = stp (some 17) φ H (just (aBin E.T .neq 24 (fget φ 16) (.int .i64 0))) := nf
def Zax := kR ZaK
def Z9l := kT Zax
def ZqZ := kL Z9l
def Z2Q := kO ZqZ
def ZuF := opN Z2Q 0
def Zzh := opN Z2Q 1
def ZBL := opN Z2Q 2
def ZzV := opN Z2Q 3
theorem Z0iP : XG 85 43 ZqZ Z2Q [0, 1, 8, 17, 18] := Z1 (by rfl) (by rfl) _
theorem Z0ad : Z2Q.toList = [ZuF, Zzh, ZBL, ZzV] := nf
theorem Z0aJ : stepA E C B 43 Z2Q ZuF (φ, H) = some (fput φ 18 (fget φ 8), H) := nf
theorem Z09X : stepA E C B 43 Z2Q Zzh (φ, H) = some (fput φ 4 (.nilsl), H) := nf
theorem ZZr : stepA E C B 43 Z2Q ZBL (φ, H) = some (fput φ 5 (.nilsl), H) := nf
theorem Z02q : stepA E C B 43 Z2Q ZzV (φ, H) = some (fput φ 6 (fget φ 18), H) := nf
def ZOq := kR Z9l
theorem Z0fY : execA E C (fg 85) B 43 E0 N ZOq s = some (.ret, s) := Zo (by rfl) s
theorem Z0gW : XQ 85 43 Z9l ZqZ ZOq := Z0 (by rfl) _
def ZJF := kE Zax
theorem Z0k7 : execA E C (fg 85) B 43 E0 N ZJF s = some (.normal, s) := Zh (by rfl) s
theorem Z0hh : XC 85 43 Zax 17 Z9l ZJF := Zf (by rfl) _
theorem Z0f8 : XQ 85 43 ZaK Zmv Zax := Z0 (by rfl) _
theorem Z0k9 : XQ 85 43 Zd1 Zpa ZaK := Z0 (by rfl) _
def Z9L := kR Z9Y
def Zr2 := kL Z9L
def Z1D := kO Zr2
def Zz0 := opN Z1D 0
def ZAN := opN Z1D 1
def Zz6 := opN Z1D 2
def ZzP := opN Z1D 3
def ZD6 := opN Z1D 4
def Zzi := opN Z1D 5
theorem Z0e2 : XG 85 43 Zr2 Z1D [8, 17, 19, 20, 21, 22] := Z1 (by rfl) (by rfl) _
theorem Z06c : Z1D.toList = [Zz0, ZAN, Zz6, ZzP, ZD6, Zzi] := nf
theorem Z01U : stepA E C B 43 Z1D Zz0 (φ, H) = some (fput φ 19 (fget φ 0), H) := nf
theorem Z05s : stepA E C B 43 Z1D ZAN (φ, H) = stp (some 20) φ H (aCall C (fun j => B + j * 43 + 20) true 79 [(fget φ 19)]) := nf
theorem Z013 : stepA E C B 43 Z1D Zz6 (φ, H) = some (fput φ 21 (fget φ 1), H) := nf
theorem Z05i : stepA E C B 43 Z1D ZzP (φ, H) = stp (some 22) φ H (aCall C (fun j => B + j * 43 + 22) true 79 [(fget φ 21)]) := nf
theorem Z02X : stepA E C B 43 Z1D ZD6 (φ, H) = some (fput φ 4 (fget φ 20), H) := nf
theorem ZZc : stepA E C B 43 Z1D Zzi (φ, H) = some (fput φ 5 (fget φ 22), H) := nf
def Zaw := kR Z9L
def Ztn := kL Zaw
def Zbl := kB Ztn
def ZtU := kL Zbl
def Z1F := kO ZtU
def ZAc := opN Z1F 0
def ZxI := opN Z1F 1
def Zw6 := opN Z1F 2
def Zxy := opN Z1F 3
def ZCx := opN Z1F 4
def ZA6 := opN Z1F 5
theorem Z0f1 : XG 85 43 ZtU Z1F [24, 25, 26, 27, 28] := Z1 (by rfl) (by rfl) _
theorem Z03H : Z1F.toList = [ZAc, ZxI, Zw6, Zxy, ZCx, ZA6] := nf
theorem Z04X : stepA E C B 43 Z1F ZAc (φ, H) = some (fput φ 24 (fget φ 0), H) := nf
theorem Z0ax : stepA E C B 43 Z1F ZxI (φ, H) = stp (some 25) φ H (Z3 E.T (B + 25) .len #[22] [(fget φ 24)]) := nf
theorem Z0bi : stepA E C B 43 Z1F Zw6 (φ, H) = some (fput φ 26 (fget φ 1), H) := nf
theorem Z0cy : stepA E C B 43 Z1F Zxy (φ, H) = stp (some 27) φ H (Z3 E.T (B + 27) .len #[22] [(fget φ 26)]) := nf
theorem Z021 : stepA E C B 43 Z1F ZCx (φ, H) = stp (some 28) φ H (just (aBin E.T .neq 3 (fget φ 25) (fget φ 27))) := nf
theorem ZXJ : stepA E C B 43 Z1F ZA6 (φ, H) = some (fput φ 23 (fget φ 28), H) := nf
def ZaL := kR Zbl
def Z9V := kT ZaL
def ZqA := kL Z9V
def Z4i := kO ZqA
def ZE1 := opN Z4i 0
def ZyF := opN Z4i 1
def ZBb := opN Z4i 2
theorem Z0jb : XG 85 43 ZqA Z4i [0, 1, 23] := Z1 (by rfl) (by rfl) _
theorem Z09u : Z4i.toList = [ZE1, ZyF, ZBb] := nf
theorem Z04A : stepA E C B 43 Z4i ZE1 (φ, H) = some (fput φ 4 (.nilsl), H) := nf
theorem Z030 : stepA E C B 43 Z4i ZyF (φ, H) = some (fput φ 5 (.nilsl), H) := nf
theorem Z0aj : stepA E C B 43 Z4i ZBb (φ, H) = some (fput φ 6 (.int .i64 5), H) := nf
def ZIH := kR Z9V
theorem Z0gN : execA E C (fg 85) B 43 E0 N ZIH s = some (.ret, s) := Zo (by rfl) s
theorem Z0fr : XQ 85 43 Z9V ZqA ZIH := Z0 (by rfl) _
def Zcc := kE ZaL
def Zs9 := kL Zcc
def ZC := kO Zs9
def ZnB := opN ZC 0
def ZqL := opN ZC 1
def ZnF := opN ZC 2
def ZpA := opN ZC 3
def ZoY := opN ZC 4
def Zon := opN ZC 5
def Znr := opN ZC 6
def Zpz := opN ZC 7
def Zsw := opN ZC 8
def Znw := opN ZC 9
def ZeX := opN ZC 10
def ZeC := opN ZC 11
theorem Z0fi : XD 85 43 Zs9 ZC [0, 1, 23, 30, 31, 32, 33, 34, 35, 36, 37, 38, 39, 40] := Z0v (by rfl) (by rfl) _
theorem ZR0 : ZC.toList = [ZnB, ZqL, ZnF, ZpA, ZoY, Zon, Znr, Zpz, Zsw, Znw, ZeX, ZeC] := nf
theorem ZJZ : statOk ZC = true := by kernel_rfl
theorem ZId : drawA E C B 43 ZC s = if neat 43 s = true then drX ZC (runT E C B 43 ZC ZC.toList 0 s) else none := Z0c ZJZ s
theorem ZJt (l : List (Nat × Tr)) : dynOk ZC l = (!writing l || Zc [[], [], [1], [0, 1, 2], [0, 1, 2, 3], [], [], [6], [5, 6, 7], [5, 6, 7, 8], [0, 1, 2, 3, 4, 5, 6, 7, 8, 9], [0, 1, 2, 3, 4, 5, 6, 7, 8, 9, 10]] (Zb l)) := ZX (by kernel_rfl) l
theorem ZVt : stepT E C B 43 ZC ZnB (φ, H) = some ((fput φ 30 (fget φ 4), H), ⟨false, [], []⟩) := Z2 rfl (Z7 rfl rfl)
theorem ZVa : stepT E C B 43 ZC ZqL (φ, H) = some ((fput φ 31 (fget φ 0), H), ⟨false, [], []⟩) := Z2 rfl (Z7 rfl rfl)
theorem ZRd : stepT E C B 43 ZC ZnF (φ, H) = stpT (some 32) φ H (Z3 E.T (B + 32) .len #[22] [(fget φ 31)]) := Z2 rfl (Z6 rfl rfl)
theorem ZPQ : stepT E C B 43 ZC ZpA (φ, H) = stpT (some 33) φ H (just (Z4 E.T 22 (fget φ 30) (fget φ 32))) := Z2 rfl (Z6 rfl rfl)
theorem ZRR : stepT E C B 43 ZC ZoY (φ, H) = stpT (some 34) φ H (just (aLoad E.T 3 (fget φ 33))) := Z2 rfl (Z6 rfl rfl)
theorem ZTF : stepT E C B 43 ZC Zon (φ, H) = some ((fput φ 35 (fget φ 5), H), ⟨false, [], []⟩) := Z2 rfl (Z7 rfl rfl)
theorem ZRY : stepT E C B 43 ZC Znr (φ, H) = some ((fput φ 36 (fget φ 1), H), ⟨false, [], []⟩) := Z2 rfl (Z7 rfl rfl)
theorem ZSX : stepT E C B 43 ZC Zpz (φ, H) = stpT (some 37) φ H (Z3 E.T (B + 37) .len #[22] [(fget φ 36)]) := Z2 rfl (Z6 rfl rfl)
theorem ZP6 : stepT E C B 43 ZC Zsw (φ, H) = stpT (some 38) φ H (just (Z4 E.T 22 (fget φ 35) (fget φ 37))) := Z2 rfl (Z6 rfl rfl)
theorem ZU9 : stepT E C B 43 ZC Znw (φ, H) = stpT (some 39) φ H (just (aLoad E.T 3 (fget φ 38))) := Z2 rfl (Z6 rfl rfl)
theorem ZHn : stepT E C B 43 ZC ZeX (φ, H) = stpT (some 40) φ H (just (aBin E.T .neq 3 (fget φ 34) (fget φ 39))) := Z2 rfl (Z6 rfl rfl)
theorem ZKc : stepT E C B 43 ZC ZeC (φ, H) = some ((fput φ 29 (fget φ 40), H), ⟨false, [], []⟩) := Z2 rfl (Z7 rfl rfl)
def ZbN := kR Zcc
def Z9g := kT ZbN
def Zpl := kL Z9g
def Z3h := kO Zpl
def Znh := opN Z3h 0
def Ztb := opN Z3h 1
def Zth := opN Z3h 2
theorem Z0jr : XG 85 43 Zpl Z3h [29] := Z1 (by rfl) (by rfl) _
theorem ZQq : Z3h.toList = [Znh, Ztb, Zth] := nf
theorem ZU0 : stepA E C B 43 Z3h Znh (φ, H) = some (fput φ 4 (.nilsl), H) := nf
theorem ZUp : stepA E C B 43 Z3h Ztb (φ, H) = some (fput φ 5 (.nilsl), H) := nf
theorem ZRL : stepA E C B 43 Z3h Zth (φ, H) = some (fput φ 6 (.int .i64 17), H) := nf
def ZHX := kR Z9g
theorem Z0i9 : execA E C (fg 85) B 43 E0 N ZHX s = some (.ret, s) := Zo (by rfl) s
theorem Z0dP : XQ 85 43 Z9g Zpl ZHX := Z0 (by rfl) _
def ZLx := kE ZbN
theorem Z0dI : execA E C (fg 85) B 43 E0 N ZLx s = some (.normal, s) := Zh (by rfl) s
theorem Z0gd : XC 85 43 ZbN 29 Z9g ZLx := Zf (by rfl) _
theorem Z0dv : XQ 85 43 Zcc Zs9 ZbN := Z0 (by rfl) _
theorem Z0jw : XC 85 43 ZaL 23 Z9V Zcc := Zf (by rfl) _
theorem Z0cT : XQ 85 43 Zbl ZtU ZaL := Z0 (by rfl) _
theorem Z0fg : execA E C (fg 85) B 43 E0 N Ztn s = blockX 0 (fun s => (forget s.1 [29], s.2)) (execA E C (fg 85) B 43 E0 N Zbl s) := Zi (by rfl) (by rfl) s
def Zce := kR Zaw
def ZtY := kL Zce
def Z1q := kO ZtY
def Ztv := opN Z1q 0
def Zr8 := opN Z1q 1
def Znv := opN Z1q 2
def Zln := opN Z1q 3
def ZnC := opN Z1q 4
theorem Z0fy : XG 85 43 ZtY Z1q [41, 42] := Z1 (by rfl) (by rfl) _
theorem ZQM : Z1q.toList = [Ztv, Zr8, Znv, Zln, ZnC] := nf
theorem ZSm : stepA E C B 43 Z1q Ztv (φ, H) = some (fput φ 41 (fget φ 4), H) := nf
theorem ZSx : stepA E C B 43 Z1q Zr8 (φ, H) = some (fput φ 42 (fget φ 5), H) := nf
theorem ZWn : stepA E C B 43 Z1q Znv (φ, H) = some (fput φ 4 (fget φ 41), H) := nf
theorem ZTI : stepA E C B 43 Z1q Zln (φ, H) = some (fput φ 5 (fget φ 42), H) := nf
theorem ZQu : stepA E C B 43 Z1q ZnC (φ, H) = some (fput φ 6 (.int .i64 0), H) := nf
def ZNR := kR Zce
theorem Z0f5 : execA E C (fg 85) B 43 E0 N ZNR s = some (.ret, s) := Zo (by rfl) s
theorem Z0fW : XQ 85 43 Zce ZtY ZNR := Z0 (by rfl) _
theorem Z0jN : XQ 85 43 Zaw Ztn Zce := Z0 (by rfl) _
theorem Z0ew : XQ 85 43 Z9L Zr2 Zaw := Z0 (by rfl) _
theorem Z0d1 : XQ 85 43 Z9Y Zd1 Z9L := Z0 (by rfl) _
theorem Z0lz : XQ 85 43 ZjG ZjO Z9Y := Z0 (by rfl) _
theorem Z0mD : XQ 85 43 Z9k ZEJ ZjG := Z0 (by rfl) _
theorem Z0m1 : fInfo E 85 = some ⟨43, #[.tmp 4, .tmp 5, .tmp 6], Z9k⟩ := nf
theorem b_85 (args : List AV) : bodyA E C fg N 85 args H B = bodyX E [.tmp 4, .tmp 5, .tmp 6] (execA E C (fg 85) B 43 H N Z9k (Z5 args 0 [], H)) := Zp Z0m1 args H
abbrev F_85 := And.intro (And.intro (And.intro (And.intro (And.intro (And.intro @Z0nV (And.intro @ZZw @Z00w)) (And.intro (And.intro @Z07O @Z06u) (And.intro @Z0lb @ZYP))) (And.intro (And.intro @ZXT (And.intro @Z01A @Z034)) (And.intro (And.intro @Z0lH @Z05F) (And.intro @ZY9 @Z03l)))) (And.intro (And.intro (And.intro @Z0pH (And.intro @Z05t @Z05d)) (And.intro (And.intro @Z088 @Z0bS) (And.intro @Z067 @Z0jt))) (And.intro (And.intro @Z0nF (And.intro @Z0f4 @Z0la)) (And.intro (And.intro @Z0ou @Z0pa) (And.intro @Z0fF @Z07e))))) (And.intro (And.intro (And.intro (And.intro @ZZ0 (And.intro @ZXc @Z09g)) (And.intro (And.intro @Z0fo @Z09f) (And.intro @Z09D @Z03j))) (And.intro (And.intro @Z0iP (And.intro @Z0ad @Z0aJ)) (And.intro (And.intro @Z09X @ZZr) (And.intro @Z02q @Z0fY)))) (And.intro (And.intro (And.intro @Z0gW (And.intro @Z0k7 @Z0hh)) (And.intro (And.intro @Z0f8 @Z0k9) (And.intro @Z0e2 @Z06c))) (And.intro (And.intro (And.intro @Z01U @Z05s) (And.intro @Z013 @Z05i)) (And.intro (And.intro @Z02X @ZZc) (And.intro @Z0f1 @Z03H)))))) (And.intro (And.intro (And.intro (And.intro (And.intro @Z04X (And.intro @Z0ax @Z0bi)) (And.intro (And.intro @Z0cy @Z021) (And.intro @ZXJ @Z0jb))) (And.intro (And.intro @Z09u (And.intro @Z04A @Z030)) (And.intro (And.intro @Z0aj @Z0gN) (And.intro @Z0fr @Z0fi)))) (And.intro (And.intro (And.intro @ZR0 (And.intro @ZId @ZJt)) (And.intro (And.intro @ZVt @ZVa) (And.intro @ZRd @ZPQ))) (And.intro (And.intro @ZRR (And.intro @ZTF @ZRY)) (And.intro (And.intro @ZSX @ZP6) (And.intro @ZU9 @ZHn))))) (And.intro (And.intro (And.intro (And.intro @ZKc (And.intro @Z0jr @ZQq)) (And.intro (And.intro @ZU0 @ZUp) (And.intro @ZRL @Z0i9))) (And.intro (And.intro @Z0dP (And.intro @Z0dI @Z0gd)) (And.intro (And.intro @Z0dv @Z0jw) (And.intro @Z0cT @Z0fg)))) (And.intro (And.intro (And.intro @Z0fy (And.intro @ZQM @ZSm)) (And.intro (And.intro @ZSx @ZWn) (And.intro @ZTI @ZQu))) (And.intro (And.intro (And.intro @Z0f5 @Z0fW) (And.intro @Z0jN @Z0ew)) (And.intro (And.intro @Z0d1 @Z0lz) (And.intro @Z0mD @b_85))))))
def Zco := kBody Proofs.Try.f86
def ZG9 := kL Zco
def Zlg := kO ZG9
def ZwK := opN Zlg 0
theorem Z0mO : XG 86 22 ZG9 Zlg [4] := Z1 (by rfl) (by rfl) _
theorem Z01r : Zlg.toList = [ZwK] := nf
theorem Z01L : stepA E C B 22 Zlg ZwK (φ, H) = some (fput φ 4 (.int .i64 0), H) := nf
def Zkl := kR Zco
def Zju := kL Zkl
def ZEK := kL Zju
def Z4s := kO ZEK
def Zvo := opN Z4s 0
def Zyz := opN Z4s 1
def Zvf := opN Z4s 2
theorem Z0lW : XG 86 22 ZEK Z4s [6] := Z1 (by rfl) (by rfl) _
theorem Z04D : Z4s.toList = [Zvo, Zyz, Zvf] := nf
theorem Z0bG : stepA E C B 22 Z4s Zvo (φ, H) = some (fput φ 6 (fget φ 0), H) := nf
theorem Z0bQ : stepA E C B 22 Z4s Zyz (φ, H) = stp (some 7) φ H (Z3 E.T (B + 7) .len #[22] [(fget φ 6)]) := nf
theorem Z08c : stepA E C B 22 Z4s Zvf (φ, H) = some (fput φ 8 (.int .i64 0), H) := nf
def ZFe := kR Zju
def ZG0 := kB ZFe
def Zc0 := kB ZG0
def ZFE := kL Zc0
def ZkV := kO ZFE
def ZAg := opN ZkV 0
theorem Z0lE : XG 86 22 ZFE ZkV [] := Z1 (by rfl) (by rfl) _
theorem Z03d : ZkV.toList = [ZAg] := nf
theorem Z07T : stepA E C B 22 ZkV ZAg (φ, H) = stp (some 9) φ H (just (aBin E.T .lss 3 (fget φ 8) (fget φ 7))) := nf
def Zk0 := kR Zc0
def ZbQ := kL Zk0
def ZI3 := kT ZbQ
theorem Z0k3 : execA E C (fg 86) B 22 E0 N ZI3 s = some (.normal, s) := Zh (by rfl) s
def ZL9 := kE ZbQ
theorem Z0ht : execA E C (fg 86) B 22 E0 N ZL9 s = some (.exit 0, s) := ZW (by rfl) s
theorem Z0eF : XC 86 22 ZbQ 9 ZI3 ZL9 := Zf (by rfl) _
def Zch := kR Zk0
def ZsC := kL Zch
def Z9X := kB ZsC
def Zm4 := kL Z9X
def Z88 := kO Zm4
def ZDy := opN Z88 0
def ZE4 := opN Z88 1
theorem Z0gG : XG 86 22 Zm4 Z88 [9, 10] := Z1 (by rfl) (by rfl) _
theorem ZYq : Z88.toList = [ZDy, ZE4] := nf
theorem Z03N : stepA E C B 22 Z88 ZDy (φ, H) = some (fput φ 10 (fget φ 8), H) := nf
theorem Z07c : stepA E C B 22 Z88 ZE4 (φ, H) = some (fput φ 5 (fget φ 10), H) := nf
def Zcw := kR Z9X
def Zpt := kL Zcw
def Z02 := kO Zpt
def ZwG := opN Z02 0
def ZuR := opN Z02 1
def ZwA := opN Z02 2
def Zvd := opN Z02 3
def ZzZ := opN Z02 4
def Zx9 := opN Z02 5
def ZCP := opN Z02 6
def ZDg := opN Z02 7
def ZxE := opN Z02 8
theorem Z0hT : XD 86 22 Zpt Z02 [11, 12, 13, 14, 15, 16, 17, 18] := Z0v (by rfl) (by rfl) _
theorem Z00c : Z02.toList = [ZwG, ZuR, ZwA, Zvd, ZzZ, Zx9, ZCP, ZDg, ZxE] := nf
theorem ZPF : statOk Z02 = true := by kernel_rfl
theorem ZTi : drawA E C B 22 Z02 s = if neat 22 s = true then drX Z02 (runT E C B 22 Z02 Z02.toList 0 s) else none := Z0c ZPF s
theorem ZRT (l : List (Nat × Tr)) : dynOk Z02 l = (!writing l || Zc [[], [], [0, 1], [0, 1, 2], [], [], [4, 5], [4, 5, 6], [0, 1, 2, 3, 4, 5, 6, 7]] (Zb l)) := ZX (by kernel_rfl) l
theorem Z03e : stepT E C B 22 Z02 ZwG (φ, H) = some ((fput φ 11 (fget φ 0), H), ⟨false, [], []⟩) := Z2 rfl (Z7 rfl rfl)
theorem Z00u : stepT E C B 22 Z02 ZuR (φ, H) = some ((fput φ 12 (fget φ 5), H), ⟨false, [], []⟩) := Z2 rfl (Z7 rfl rfl)
theorem Z0am : stepT E C B 22 Z02 ZwA (φ, H) = stpT (some 13) φ H (just (Z4 E.T 22 (fget φ 11) (fget φ 12))) := Z2 rfl (Z6 rfl rfl)
theorem Z05D : stepT E C B 22 Z02 Zvd (φ, H) = stpT (some 14) φ H (just (aLoad E.T 3 (fget φ 13))) := Z2 rfl (Z6 rfl rfl)
theorem ZYJ : stepT E C B 22 Z02 ZzZ (φ, H) = some ((fput φ 15 (fget φ 1), H), ⟨false, [], []⟩) := Z2 rfl (Z7 rfl rfl)
theorem Z06z : stepT E C B 22 Z02 Zx9 (φ, H) = some ((fput φ 16 (fget φ 5), H), ⟨false, [], []⟩) := Z2 rfl (Z7 rfl rfl)
theorem Z0ah : stepT E C B 22 Z02 ZCP (φ, H) = stpT (some 17) φ H (just (Z4 E.T 22 (fget φ 15) (fget φ 16))) := Z2 rfl (Z6 rfl rfl)
theorem ZYl : stepT E C B 22 Z02 ZDg (φ, H) = stpT (some 18) φ H (just (aLoad E.T 3 (fget φ 17))) := Z2 rfl (Z6 rfl rfl)
theorem Z00M : stepT E C B 22 Z02 ZxE (φ, H) = stpT (some 19) φ H (just (aBin E.T .lss 3 (fget φ 14) (fget φ 18))) := Z2 rfl (Z6 rfl rfl)
def ZcB := kR Zcw
def ZcF := kT ZcB
def ZsB := kL ZcF
def Z7l := kO ZsB
def ZDY := opN Z7l 0
def Zx7 := opN Z7l 1
theorem Z0iG : XG 86 22 ZsB Z7l [0, 1, 5, 7, 8, 19, 20] := Z1 (by rfl) (by rfl) _
theorem Z06I : Z7l.toList = [ZDY, Zx7] := nf
theorem Z09J : stepA E C B 22 Z7l ZDY (φ, H) = some (fput φ 20 (fget φ 5), H) := nf
theorem Z08g : stepA E C B 22 Z7l Zx7 (φ, H) = some (fput φ 4 (fget φ 20), H) := nf
def ZMP := kR ZcF
theorem Z0db : execA E C (fg 86) B 22 E0 N ZMP s = some (.ret, s) := Zo (by rfl) s
theorem Z0cz : XQ 86 22 ZcF ZsB ZMP := Z0 (by rfl) _
def ZJx := kE ZcB
theorem Z0cO : execA E C (fg 86) B 22 E0 N ZJx s = some (.normal, s) := Zh (by rfl) s
theorem Z0iN : XC 86 22 ZcB 19 ZcF ZJx := Zf (by rfl) _
theorem Z0jk : XQ 86 22 Zcw Zpt ZcB := Z0 (by rfl) _
theorem Z0i4 : XQ 86 22 Z9X Zm4 Zcw := Z0 (by rfl) _
theorem Z0gO : execA E C (fg 86) B 22 E0 N ZsC s = blockX 1 (fun s => (forget s.1 [5, 19], s.2)) (execA E C (fg 86) B 22 E0 N Z9X s) := Zi (by rfl) (by rfl) s
def ZtE := kR Zch
def Z7q := kO ZtE
def ZAk := opN Z7q 0
def Zvb := opN Z7q 1
theorem Z0i6 : XG 86 22 ZtE Z7q [21] := Z1 (by rfl) (by rfl) _
theorem Z0bm : Z7q.toList = [ZAk, Zvb] := nf
theorem Z07F : stepA E C B 22 Z7q ZAk (φ, H) = stp (some 21) φ H (just (aBin E.T .add 3 (fget φ 8) (.int .i64 1))) := nf
theorem Z049 : stepA E C B 22 Z7q Zvb (φ, H) = some (fput φ 8 (fget φ 21), H) := nf
theorem Z0fz : XQ 86 22 Zch ZsC ZtE := Z0 (by rfl) _
theorem Z0ps : XQ 86 22 Zk0 ZbQ Zch := Z0 (by rfl) _
theorem Z0mS : XQ 86 22 Zc0 ZFE Zk0 := Z0 (by rfl) _
theorem Z0p4 : execA E C (fg 86) B 22 E0 N ZG0 s = iterA (execA E C (fg 86) B 22 E0 N Zc0) (headA E0) N s := Z08 (by rfl) s
theorem Z0nH : execA E C (fg 86) B 22 E0 N ZFe s = blockX 0 (fun s => (forget s.1 [0, 1, 7, 8, 9], s.2)) (execA E C (fg 86) B 22 E0 N ZG0 s) := Zi (by rfl) (by rfl) s
theorem Z0nD : XQ 86 22 Zju ZEK ZFe := Z0 (by rfl) _
def Za8 := kR Zkl
def Ztw := kL Za8
def ZiZ := kO Ztw
def Zz2 := opN ZiZ 0
theorem Z0jj : XG 86 22 Ztw ZiZ [] := Z1 (by rfl) (by rfl) _
theorem ZYY : ZiZ.toList = [Zz2] := nf
theorem Z03i : stepA E C B 22 ZiZ Zz2 (φ, H) = some (fput φ 4 (.int .i64 (-1)), H) := nf
def ZO7 := kR Za8
theorem Z0d4 : execA E C (fg 86) B 22 E0 N ZO7 s = some (.ret, s) := Zo (by rfl) s
theorem Z0eD : XQ 86 22 Za8 Ztw ZO7 := Z0 (by rfl) _
theorem Z0nL : XQ 86 22 Zkl Zju Za8 := Z0 (by rfl) _
theorem Z0l9 : XQ 86 22 Zco ZG9 Zkl := Z0 (by rfl) _
theorem Z0mZ : fInfo E 86 = some ⟨22, #[.tmp 4], Zco⟩ := nf
theorem b_86 (args : List AV) : bodyA E C fg N 86 args H B = bodyX E [.tmp 4] (execA E C (fg 86) B 22 H N Zco (Z5 args 0 [], H)) := Zp Z0mZ args H
abbrev F_86 := And.intro (And.intro (And.intro (And.intro (And.intro @Z0mO (And.intro @Z01r @Z01L)) (And.intro (And.intro @Z0lW @Z04D) (And.intro @Z0bG @Z0bQ))) (And.intro (And.intro (And.intro @Z08c @Z0lE) (And.intro @Z03d @Z07T)) (And.intro (And.intro @Z0k3 @Z0ht) (And.intro @Z0eF @Z0gG)))) (And.intro (And.intro (And.intro @ZYq (And.intro @Z03N @Z07c)) (And.intro (And.intro @Z0hT @Z00c) (And.intro @ZTi @ZRT))) (And.intro (And.intro (And.intro @Z03e @Z00u) (And.intro @Z0am @Z05D)) (And.intro (And.intro @ZYJ @Z06z) (And.intro @Z0ah @ZYl))))) (And.intro (And.intro (And.intro (And.intro @Z00M (And.intro @Z0iG @Z06I)) (And.intro (And.intro @Z09J @Z08g) (And.intro @Z0db @Z0cz))) (And.intro (And.intro (And.intro @Z0cO @Z0iN) (And.intro @Z0jk @Z0i4)) (And.intro (And.intro @Z0gO @Z0i6) (And.intro @Z0bm @Z07F)))) (And.intro (And.intro (And.intro @Z049 (And.intro @Z0fz @Z0ps)) (And.intro (And.intro @Z0mS @Z0p4) (And.intro @Z0nH @Z0nD))) (And.intro (And.intro (And.intro @Z0jj @ZYY) (And.intro @Z03i @Z0d4)) (And.intro (And.intro @Z0eD @Z0nL) (And.intro @Z0l9 @b_86)))))
def ZaS := kBody Proofs.Try.f27
def ZEY := kL ZaS
def Z7f := kO ZEY
def ZBW := opN Z7f 0
def Zzz := opN Z7f 1
theorem Z0ld : XG 27 23 ZEY Z7f [4, 5] := Z1 (by rfl) (by rfl) _
theorem Z093 : Z7f.toList = [ZBW, Zzz] := nf
theorem Z0be : stepA E C B 23 Z7f ZBW (φ, H) = some (fput φ 4 (.bool false), H) := nf
theorem Z04E : stepA E C B 23 Z7f Zzz (φ, H) = some (fput φ 5 (.int .i64 0), H) := nf
def Zjl := kR ZaS
def ZEz := kL Zjl
def Z0n := kO ZEz
def Zwr := opN Z0n 0
def Zxb := opN Z0n 1
def Zyn := opN Z0n 2
def ZBv := opN Z0n 3
def Zyy := opN Z0n 4
def Zvu := opN Z0n 5
def ZCe := opN Z0n 6
def ZvA := opN Z0n 7
def ZC2 := opN Z0n 8
def ZwM := opN Z0n 9
theorem Z0mY : XG 27 23 ZEz Z0n [0, 1, 9, 10, 11, 12, 13, 14, 15] := Z1 (by rfl) (by rfl) _
theorem Z0bs : Z0n.toList = [Zwr, Zxb, Zyn, ZBv, Zyy, Zvu, ZCe, ZvA, ZC2, ZwM] := nf
theorem ZZi : stepA E C B 23 Z0n Zwr (φ, H) = some (fput φ 10 (fget φ 0), H) := nf
theorem Z04p : stepA E C B 23 Z0n Zxb (φ, H) = some (fput φ 11 (fget φ 1), H) := nf
theorem Z02w : stepA E C B 23 Z0n Zyn (φ, H) = stp (some 12) φ H (aCall C (fun j => B + j * 23 + 12) true 85 [(fget φ 10), (fget φ 11)]) := nf
theorem Z09C : stepA E C B 23 Z0n ZBv (φ, H) = some (fput φ 9 (fget φ 12), H) := nf
theorem Z07Y : stepA E C B 23 Z0n Zyy (φ, H) = stp (some 13) φ H (Zd (fget φ 9) 0) := nf
theorem ZXM : stepA E C B 23 Z0n Zvu (φ, H) = stp (some 14) φ H (Zd (fget φ 9) 1) := nf
theorem Z03F : stepA E C B 23 Z0n ZCe (φ, H) = stp (some 15) φ H (Zd (fget φ 9) 2) := nf
theorem ZXz : stepA E C B 23 Z0n ZvA (φ, H) = some (fput φ 6 (fget φ 13), H) := nf
theorem Z06s : stepA E C B 23 Z0n ZC2 (φ, H) = some (fput φ 7 (fget φ 14), H) := nf
theorem Z0aI : stepA E C B 23 Z0n ZwM (φ, H) = some (fput φ 8 (fget φ 15), H) := nf
def Zlc := kR Zjl
def Zki := kL Zlc
def ZG4 := kL Zki
def Z8e := kO ZG4
def ZBc := opN Z8e 0
def ZuQ := opN Z8e 1
theorem Z0oB : XG 27 23 ZG4 Z8e [16] := Z1 (by rfl) (by rfl) _
theorem Z02b : Z8e.toList = [ZBc, ZuQ] := nf
theorem Z0aY : stepA E C B 23 Z8e ZBc (φ, H) = some (fput φ 16 (fget φ 8), H) := nf
theorem ZXs : stepA E C B 23 Z8e ZuQ (φ, H) = stp (some 17) φ H (just (aBin E.T .neq 24 (fget φ 16) (.int .i64 0))) := nf
def Zj5 := kR Zki
def Zjg := kT Zj5
def ZGH := kL Zjg
def Z4E := kO ZGH
def ZAj := opN Z4E 0
def Zxi := opN Z4E 1
def ZAn := opN Z4E 2
theorem Z0lF : XG 27 23 ZGH Z4E [6, 7, 8, 17, 18] := Z1 (by rfl) (by rfl) _
theorem Z06r : Z4E.toList = [ZAj, Zxi, ZAn] := nf
theorem Z01E : stepA E C B 23 Z4E ZAj (φ, H) = some (fput φ 18 (fget φ 8), H) := nf
theorem ZXS : stepA E C B 23 Z4E Zxi (φ, H) = some (fput φ 4 (.bool false), H) := nf
theorem Z01f : stepA E C B 23 Z4E ZAn (φ, H) = some (fput φ 5 (fget φ 18), H) := nf
def ZKr := kR Zjg
theorem Z0jO : execA E C (fg 27) B 23 E0 N ZKr s = some (.ret, s) := Zo (by rfl) s
theorem Z0kW : XQ 27 23 Zjg ZGH ZKr := Z0 (by rfl) _
def ZGY := kE Zj5
theorem Z0ex : execA E C (fg 27) B 23 E0 N ZGY s = some (.normal, s) := Zh (by rfl) s
theorem Z0md : XC 27 23 Zj5 17 Zjg ZGY := Zf (by rfl) _
theorem Z0nQ : XQ 27 23 Zki ZG4 Zj5 := Z0 (by rfl) _
def ZcA := kR Zlc
def ZpB := kL ZcA
def Z1C := kO ZpB
def Zzf := opN Z1C 0
def Zxd := opN Z1C 1
def ZwV := opN Z1C 2
def ZDo := opN Z1C 3
def Zw1 := opN Z1C 4
def Zyx := opN Z1C 5
theorem Z0ik : XG 27 23 ZpB Z1C [6, 7, 8, 17, 19, 20, 21, 22] := Z1 (by rfl) (by rfl) _
theorem ZZ7 : Z1C.toList = [Zzf, Zxd, ZwV, ZDo, Zw1, Zyx] := nf
theorem Z06f : stepA E C B 23 Z1C Zzf (φ, H) = some (fput φ 19 (fget φ 6), H) := nf
theorem Z09S : stepA E C B 23 Z1C Zxd (φ, H) = some (fput φ 20 (fget φ 7), H) := nf
theorem Z06J : stepA E C B 23 Z1C ZwV (φ, H) = stp (some 21) φ H (aCall C (fun j => B + j * 23 + 21) true 86 [(fget φ 19), (fget φ 20)]) := nf
theorem Z05h : stepA E C B 23 Z1C ZDo (φ, H) = stp (some 22) φ H (just (aBin E.T .lss 3 (fget φ 21) (.int .i64 0))) := nf
theorem Z03w : stepA E C B 23 Z1C Zw1 (φ, H) = some (fput φ 4 (fget φ 22), H) := nf
theorem Z00q : stepA E C B 23 Z1C Zyx (φ, H) = some (fput φ 5 (.int .i64 0), H) := nf
def ZOc := kR ZcA
theorem Z0i8 : execA E C (fg 27) B 23 E0 N ZOc s = some (.ret, s) := Zo (by rfl) s
theorem Z0ep : XQ 27 23 ZcA ZpB ZOc := Z0 (by rfl) _
theorem Z0nf : XQ 27 23 Zlc Zki ZcA := Z0 (by rfl) _
theorem Z0nX : XQ 27 23 Zjl ZEz Zlc := Z0 (by rfl) _
theorem Z0os : XQ 27 23 ZaS ZEY Zjl := Z0 (by rfl) _
theorem Z0mz : fInfo E 27 = some ⟨23, #[.tmp 4, .tmp 5], ZaS⟩ := nf
theorem b_27 (args : List AV) : bodyA E C fg N 27 args H B = bodyX E [.tmp 4, .tmp 5] (execA E C (fg 27) B 23 H N ZaS (Z5 args 0 [], H)) := Zp Z0mz args H
abbrev F_27 := And.intro (And.intro (And.intro (And.intro (And.intro @Z0ld @Z093) (And.intro @Z0be (And.intro @Z04E @Z0mY))) (And.intro (And.intro @Z0bs (And.intro @ZZi @Z04p)) (And.intro @Z02w (And.intro @Z09C @Z07Y)))) (And.intro (And.intro (And.intro @ZXM @Z03F) (And.intro @ZXz (And.intro @Z06s @Z0aI))) (And.intro (And.intro @Z0oB (And.intro @Z02b @Z0aY)) (And.intro @ZXs (And.intro @Z0lF @Z06r))))) (And.intro (And.intro (And.intro (And.intro @Z01E @ZXS) (And.intro @Z01f (And.intro @Z0jO @Z0kW))) (And.intro (And.intro @Z0ex (And.intro @Z0md @Z0nQ)) (And.intro @Z0ik (And.intro @ZZ7 @Z06f)))) (And.intro (And.intro (And.intro @Z09S @Z06J) (And.intro @Z05h (And.intro @Z03w @Z00q))) (And.intro (And.intro @Z0i8 (And.intro @Z0ep @Z0nf)) (And.intro @Z0nX (And.intro @Z0os @b_27)))))
def Zcg := kBody Proofs.Try.f29
def ZEV := kL Zcg
def Z7b := kO ZEV
def Zv0 := opN Z7b 0
def ZxA := opN Z7b 1
theorem Z0oK : XG 29 26 ZEV Z7b [4, 5] := Z1 (by rfl) (by rfl) _
theorem Z01X : Z7b.toList = [Zv0, ZxA] := nf
theorem Z00p : stepA E C B 26 Z7b Zv0 (φ, H) = some (fput φ 4 (.int .i64 0), H) := nf
theorem Z041 : stepA E C B 26 Z7b ZxA (φ, H) = some (fput φ 5 (.int .i64 0), H) := nf
def ZjE := kR Zcg
def ZEs := kL ZjE
def Z0m := kO ZEs
def ZBN := opN Z0m 0
def ZzI := opN Z0m 1
def Zv4 := opN Z0m 2
def ZBu := opN Z0m 3
def ZBO := opN Z0m 4
def ZC0 := opN Z0m 5
def ZCz := opN Z0m 6
def Zv5 := opN Z0m 7
def Zwa := opN Z0m 8
def ZwH := opN Z0m 9
theorem Z0pl : XG 29 26 ZEs Z0m [0, 1, 10, 11, 12, 13, 14, 15, 16] := Z1 (by rfl) (by rfl) _
theorem Z04d : Z0m.toList = [ZBN, ZzI, Zv4, ZBu, ZBO, ZC0, ZCz, Zv5, Zwa, ZwH] := nf
theorem Z003 : stepA E C B 26 Z0m ZBN (φ, H) = some (fput φ 11 (fget φ 0), H) := nf
theorem Z0bM : stepA E C B 26 Z0m ZzI (φ, H) = some (fput φ 12 (fget φ 1), H) := nf
theorem ZYZ : stepA E C B 26 Z0m Zv4 (φ, H) = stp (some 13) φ H (aCall C (fun j => B + j * 26 + 13) true 85 [(fget φ 11), (fget φ 12)]) := nf
theorem Z06S : stepA E C B 26 Z0m ZBu (φ, H) = some (fput φ 10 (fget φ 13), H) := nf
theorem Z01s : stepA E C B 26 Z0m ZBO (φ, H) = stp (some 14) φ H (Zd (fget φ 10) 0) := nf
theorem Z0b8 : stepA E C B 26 Z0m ZC0 (φ, H) = stp (some 15) φ H (Zd (fget φ 10) 1) := nf
theorem Z02r : stepA E C B 26 Z0m ZCz (φ, H) = stp (some 16) φ H (Zd (fget φ 10) 2) := nf
theorem Z0bL : stepA E C B 26 Z0m Zv5 (φ, H) = some (fput φ 6 (fget φ 14), H) := nf
theorem Z081 : stepA E C B 26 Z0m Zwa (φ, H) = some (fput φ 7 (fget φ 15), H) := nf
theorem ZY6 : stepA E C B 26 Z0m ZwH (φ, H) = some (fput φ 8 (fget φ 16), H) := nf
def ZkM := kR ZjE
def Zjk := kL ZkM
def ZFo := kL Zjk
def Z6R := kO ZFo
def ZxV := opN Z6R 0
def ZxW := opN Z6R 1
theorem Z0lu : XG 29 26 ZFo Z6R [17] := Z1 (by rfl) (by rfl) _
theorem Z043 : Z6R.toList = [ZxV, ZxW] := nf
theorem Z07k : stepA E C B 26 Z6R ZxV (φ, H) = some (fput φ 17 (fget φ 8), H) := nf
theorem Z00X : stepA E C B 26 Z6R ZxW (φ, H) = stp (some 18) φ H (just (aBin E.T .neq 24 (fget φ 17) (.int .i64 0))) := nf
def Zjb := kR Zjk
def Zjd := kT Zjb
def ZG1 := kL Zjd
def Z4A := kO ZG1
def ZDN := opN Z4A 0
def ZBA := opN Z4A 1
def ZDW := opN Z4A 2
theorem Z0kO : XG 29 26 ZG1 Z4A [6, 7, 8, 18, 19] := Z1 (by rfl) (by rfl) _
theorem Z00O : Z4A.toList = [ZDN, ZBA, ZDW] := nf
theorem Z03E : stepA E C B 26 Z4A ZDN (φ, H) = some (fput φ 19 (fget φ 8), H) := nf
theorem Z0c8 : stepA E C B 26 Z4A ZBA (φ, H) = some (fput φ 4 (.int .i64 0), H) := nf
theorem Z01Z : stepA E C B 26 Z4A ZDW (φ, H) = some (fput φ 5 (fget φ 19), H) := nf
def ZNL := kR Zjd
theorem Z0gS : execA E C (fg 29) B 26 E0 N ZNL s = some (.ret, s) := Zo (by rfl) s
theorem Z0mu : XQ 29 26 Zjd ZG1 ZNL := Z0 (by rfl) _
def ZHa := kE Zjb
theorem Z0hp : execA E C (fg 29) B 26 E0 N ZHa s = some (.normal, s) := Zh (by rfl) s
theorem Z0pN : XC 29 26 Zjb 18 Zjd ZHa := Zf (by rfl) _
theorem Z0nb : XQ 29 26 Zjk ZFo Zjb := Z0 (by rfl) _
def ZbZ := kR ZkM
def ZnT := kL ZbZ
def Z31 := kO ZnT
def Zvr := opN Z31 0
def ZAt := opN Z31 1
def ZDH := opN Z31 2
def ZDz := opN Z31 3
theorem Z0ey : XG 29 26 ZnT Z31 [6, 7, 8, 18, 20, 21, 22] := Z1 (by rfl) (by rfl) _
theorem Z0aK : Z31.toList = [Zvr, ZAt, ZDH, ZDz] := nf
theorem Z08b : stepA E C B 26 Z31 Zvr (φ, H) = some (fput φ 20 (fget φ 6), H) := nf
theorem Z06p : stepA E C B 26 Z31 ZAt (φ, H) = some (fput φ 21 (fget φ 7), H) := nf
theorem Z0bd : stepA E C B 26 Z31 ZDH (φ, H) = stp (some 22) φ H (aCall C (fun j => B + j * 26 + 22) true 86 [(fget φ 20), (fget φ 21)]) := nf
theorem Z0aU : stepA E C B 26 Z31 ZDz (φ, H) = some (fput φ 9 (fget φ 22), H) := nf
def Zcp := kR ZbZ
def Zb3 := kL Zcp
def Zm3 := kL Zb3
def Z6D := kO Zm3
def ZyK := opN Z6D 0
def ZxF := opN Z6D 1
theorem Z0hQ : XG 29 26 Zm3 Z6D [23] := Z1 (by rfl) (by rfl) _
theorem Z0ai : Z6D.toList = [ZyK, ZxF] := nf
theorem ZYm : stepA E C B 26 Z6D ZyK (φ, H) = some (fput φ 23 (fget φ 9), H) := nf
theorem Z04b : stepA E C B 26 Z6D ZxF (φ, H) = stp (some 24) φ H (just (aBin E.T .lss 3 (fget φ 23) (.int .i64 0))) := nf
def Za6 := kR Zb3
def Z99 := kT Za6
def Zsu := kL Z99
def Z7x := kO Zsu
def Zya := opN Z7x 0
def Zyw := opN Z7x 1
theorem Z0dd : XG 29 26 Zsu Z7x [9, 24] := Z1 (by rfl) (by rfl) _
theorem Z08Q : Z7x.toList = [Zya, Zyw] := nf
theorem Z08I : stepA E C B 26 Z7x Zya (φ, H) = some (fput φ 4 (.int .i64 0), H) := nf
theorem Z0bD : stepA E C B 26 Z7x Zyw (φ, H) = some (fput φ 5 (.int .i64 13), H) := nf
def ZKh := kR Z99
theorem Z0js : execA E C (fg 29) B 26 E0 N ZKh s = some (.ret, s) := Zo (by rfl) s
theorem Z0h9 : XQ 29 26 Z99 Zsu ZKh := Z0 (by rfl) _
def ZNw := kE Za6
theorem Z0es : execA E C (fg 29) B 26 E0 N ZNw s = some (.normal, s) := Zh (by rfl) s
theorem Z0fn : XC 29 26 Za6 24 Z99 ZNw := Zf (by rfl) _
theorem Z0kH : XQ 29 26 Zb3 Zm3 Za6 := Z0 (by rfl) _
def ZcP := kR Zcp
def Zqw := kL ZcP
def Z4b := kO Zqw
def Zvx := opN Z4b 0
def ZBo := opN Z4b 1
def Zxo := opN Z4b 2
theorem Z0cC : XG 29 26 Zqw Z4b [9, 24, 25] := Z1 (by rfl) (by rfl) _
theorem Z06E : Z4b.toList = [Zvx, ZBo, Zxo] := nf
theorem Z0au : stepA E C B 26 Z4b Zvx (φ, H) = some (fput φ 25 (fget φ 9), H) := nf
theorem Z01R : stepA E C B 26 Z4b ZBo (φ, H) = some (fput φ 4 (fget φ 25), H) := nf
theorem Z04s : stepA E C B 26 Z4b Zxo (φ, H) = some (fput φ 5 (.int .i64 0), H) := nf
def ZI9 := kR ZcP
theorem Z0cS : execA E C (fg 29) B 26 E0 N ZI9 s = some (.ret, s) := Zo (by rfl) s
theorem Z0cF : XQ 29 26 ZcP Zqw ZI9 := Z0 (by rfl) _
theorem Z0gi : XQ 29 26 Zcp Zb3 ZcP := Z0 (by rfl) _
theorem Z0gy : XQ 29 26 ZbZ ZnT Zcp := Z0 (by rfl) _
theorem Z0n3 : XQ 29 26 ZkM Zjk ZbZ := Z0 (by rfl) _
theorem Z0pG : XQ 29 26 ZjE ZEs ZkM := Z0 (by rfl) _
theorem Z0kP : XQ 29 26 Zcg ZEV ZjE := Z0 (by rfl) _
theorem Z0ph : fInfo E 29 = some ⟨26, #[.tmp 4, .tmp 5], Zcg⟩ := nf
theorem b_29 (args : List AV) : bodyA E C fg N 29 args H B = bodyX E [.tmp 4, .tmp 5] (execA E C (fg 29) B 26 H N Zcg (Z5 args 0 [], H)) := Zp Z0ph args H
abbrev F_29 := And.intro (And.intro (And.intro (And.intro (And.intro @Z0oK (And.intro @Z01X @Z00p)) (And.intro (And.intro @Z041 @Z0pl) (And.intro @Z04d @Z003))) (And.intro (And.intro (And.intro @Z0bM @ZYZ) (And.intro @Z06S @Z01s)) (And.intro (And.intro @Z0b8 @Z02r) (And.intro @Z0bL @Z081)))) (And.intro (And.intro (And.intro (And.intro @ZY6 @Z0lu) (And.intro @Z043 @Z07k)) (And.intro (And.intro @Z00X @Z0kO) (And.intro @Z00O @Z03E))) (And.intro (And.intro (And.intro @Z0c8 @Z01Z) (And.intro @Z0gS @Z0mu)) (And.intro (And.intro @Z0hp @Z0pN) (And.intro @Z0nb @Z0ey))))) (And.intro (And.intro (And.intro (And.intro @Z0aK (And.intro @Z08b @Z06p)) (And.intro (And.intro @Z0bd @Z0aU) (And.intro @Z0hQ @Z0ai))) (And.intro (And.intro (And.intro @ZYm @Z04b) (And.intro @Z0dd @Z08Q)) (And.intro (And.intro @Z08I @Z0bD) (And.intro @Z0js @Z0h9)))) (And.intro (And.intro (And.intro (And.intro @Z0es @Z0fn) (And.intro @Z0kH @Z0cC)) (And.intro (And.intro @Z06E @Z0au) (And.intro @Z01R @Z04s))) (And.intro (And.intro (And.intro @Z0cS @Z0cF) (And.intro @Z0gi @Z0gy)) (And.intro (And.intro @Z0n3 @Z0pG) (And.intro @Z0kP @b_29)))))
def ZbM := kBody Proofs.Try.f35
def ZF5 := kL ZbM
def Zl8 := kO ZF5
def ZDc := opN Zl8 0
theorem Z0lj : XG 35 40 ZF5 Zl8 [6] := Z1 (by rfl) (by rfl) _
theorem Z07u : Zl8.toList = [ZDc] := nf
theorem Z01k : stepA E C B 40 Zl8 ZDc (φ, H) = some (fput φ 6 (.int .i64 0), H) := nf
def Zlb := kR ZbM
def ZGu := kL Zlb
def Z0p := kO ZGu
def ZCI := opN Z0p 0
def ZDh := opN Z0p 1
def Zyb := opN Z0p 2
def ZxG := opN Z0p 3
def ZB3 := opN Z0p 4
def ZAL := opN Z0p 5
def Zxs := opN Z0p 6
def ZxR := opN Z0p 7
def Zw0 := opN Z0p 8
def ZwN := opN Z0p 9
theorem Z0lp : XG 35 40 ZGu Z0p [1, 10, 11, 12, 13, 14, 15, 16] := Z1 (by rfl) (by rfl) _
theorem Z04C : Z0p.toList = [ZCI, ZDh, Zyb, ZxG, ZB3, ZAL, Zxs, ZxR, Zw0, ZwN] := nf
theorem Z01j : stepA E C B 40 Z0p ZCI (φ, H) = some (fput φ 11 (fget φ 0), H) := nf
theorem Z09p : stepA E C B 40 Z0p ZDh (φ, H) = some (fput φ 12 (fget φ 1), H) := nf
theorem ZY7 : stepA E C B 40 Z0p Zyb (φ, H) = stp (some 13) φ H (aCall C (fun j => B + j * 40 + 13) true 85 [(fget φ 11), (fget φ 12)]) := nf
theorem Z03R : stepA E C B 40 Z0p ZxG (φ, H) = some (fput φ 10 (fget φ 13), H) := nf
theorem Z050 : stepA E C B 40 Z0p ZB3 (φ, H) = stp (some 14) φ H (Zd (fget φ 10) 0) := nf
theorem ZZX : stepA E C B 40 Z0p ZAL (φ, H) = stp (some 15) φ H (Zd (fget φ 10) 1) := nf
theorem Z05X : stepA E C B 40 Z0p Zxs (φ, H) = stp (some 16) φ H (Zd (fget φ 10) 2) := nf
theorem Z01S : stepA E C B 40 Z0p ZxR (φ, H) = some (fput φ 7 (fget φ 14), H) := nf
theorem Z03I : stepA E C B 40 Z0p Zw0 (φ, H) = some (fput φ 8 (fget φ 15), H) := nf
theorem ZZS : stepA E C B 40 Z0p ZwN (φ, H) = some (fput φ 9 (fget φ 16), H) := nf
def Zli := kR Zlb
def ZEv := kL Zli
def ZkE := kB ZEv
def ZED := kL ZkE
def Z4l := kO ZED
def ZEb := opN Z4l 0
def ZB9 := opN Z4l 1
def ZAd := opN Z4l 2
theorem Z0pz : XG 35 40 ZED Z4l [18, 19] := Z1 (by rfl) (by rfl) _
theorem Z08j : Z4l.toList = [ZEb, ZB9, ZAd] := nf
theorem Z0c5 : stepA E C B 40 Z4l ZEb (φ, H) = some (fput φ 18 (fget φ 9), H) := nf
theorem Z001 : stepA E C B 40 Z4l ZB9 (φ, H) = stp (some 19) φ H (just (aBin E.T .neq 24 (fget φ 18) (.int .i64 0))) := nf
theorem Z08R : stepA E C B 40 Z4l ZAd (φ, H) = some (fput φ 17 (fget φ 19), H) := nf
def Zku := kR ZkE
def Zj8 := kT Zku
def Zry := kL Zj8
def Z76 := kO Zry
def Zyf := opN Z76 0
def Zz7 := opN Z76 1
theorem Z0fE : XG 35 40 Zry Z76 [0, 2, 7, 8, 9, 17, 20] := Z1 (by rfl) (by rfl) _
theorem Z0bY : Z76.toList = [Zyf, Zz7] := nf
theorem Z08E : stepA E C B 40 Z76 Zyf (φ, H) = some (fput φ 20 (fget φ 9), H) := nf
theorem ZYt : stepA E C B 40 Z76 Zz7 (φ, H) = some (fput φ 6 (fget φ 20), H) := nf
def ZJU := kR Zj8
theorem Z0hH : execA E C (fg 35) B 40 E0 N ZJU s = some (.ret, s) := Zo (by rfl) s
theorem Z0oN : XQ 35 40 Zj8 Zry ZJU := Z0 (by rfl) _
def Zcs := kE Zku
def ZpG := kL Zcs
def Z0y := kO ZpG
def ZwC := opN Z0y 0
def ZBC := opN Z0y 1
def Z3F := opN Z0y 2
def ZCd := opN Z0y 3
def ZB2 := opN Z0y 4
def ZEj := opN Z0y 5
def ZzK := opN Z0y 6
def ZD5 := opN Z0y 7
def Zy4 := opN Z0y 8
theorem Z0eP : XG 35 40 ZpG Z0y [0, 9, 17, 22, 23, 24, 25, 26, 27, 28, 29] := Z1 (by rfl) (by rfl) _
theorem Z07x : Z0y.toList = [ZwC, ZBC, Z3F, ZCd, ZB2, ZEj, ZzK, ZD5, Zy4] := nf
theorem Z09Q : stepA E C B 40 Z0y ZwC (φ, H) = some (fput φ 22 (fget φ 2), H) := nf
theorem Z0cg : stepA E C B 40 Z0y ZBC (φ, H) = stp (some 23) φ H (just (aBin E.T .lss 3 (fget φ 22) (.int .i64 0))) := nf
theorem Z08X : stepA E C B 40 Z0y Z3F (φ, H) = some (fput φ 24 (fget φ 23), H) := nf
theorem Z0ap : stepA E C B 40 Z0y ZCd (φ, H) = gd φ 24 false (fun φ => some (fput φ 25 (.tup []), H)) (fun φ => some (fput φ 25 (fget φ 2), H)) := s_gd (j := 2) (oj := Z3F) rfl rfl rfl (fun _ => rfl) (fun _ => rfl)
theorem Z03Z : stepA E C B 40 Z0y ZB2 (φ, H) = gd φ 24 false (fun φ => some (fput φ 26 (.tup []), H)) (fun φ => some (fput φ 26 (fget φ 0), H)) := s_gd (j := 2) (oj := Z3F) rfl rfl rfl (fun _ => rfl) (fun _ => rfl)
theorem ZYC : stepA E C B 40 Z0y ZEj (φ, H) = gd φ 24 false (fun φ => some (fput φ 27 (.tup []), H)) (fun φ => stp (some 27) φ H (Z3 E.T (B + 27) .len #[22] [(fget φ 26)])) := s_gd (j := 2) (oj := Z3F) rfl rfl rfl (fun _ => rfl) (fun _ => rfl)
theorem Z0aB : stepA E C B 40 Z0y ZzK (φ, H) = gd φ 24 false (fun φ => some (fput φ 28 (.tup []), H)) (fun φ => stp (some 28) φ H (just (aBin E.T .gtr 3 (fget φ 25) (fget φ 27)))) := s_gd (j := 2) (oj := Z3F) rfl rfl rfl (fun _ => rfl) (fun _ => rfl)
theorem ZZH : stepA E C B 40 Z0y ZD5 (φ, H) = stp (some 29) φ H (opPick (fget φ 24) (.bool true) (fget φ 28)) := nf
theorem Z06a : stepA E C B 40 Z0y Zy4 (φ, H) = some (fput φ 21 (fget φ 29), H) := nf
def Z9d := kR Zcs
def Zd4 := kT Z9d
def Zme := kL Zd4
def ZkA := kO Zme
def ZAB := opN ZkA 0
theorem Z0eC : XG 35 40 Zme ZkA [2, 7, 8, 21] := Z1 (by rfl) (by rfl) _
theorem Z0ac : ZkA.toList = [ZAB] := nf
theorem Z05H : stepA E C B 40 ZkA ZAB (φ, H) = some (fput φ 6 (.int .i64 2), H) := nf
def ZGU := kR Zd4
theorem Z0eW : execA E C (fg 35) B 40 E0 N ZGU s = some (.ret, s) := Zo (by rfl) s
theorem Z0fv : XQ 35 40 Zd4 Zme ZGU := Z0 (by rfl) _
def Zcy := kE Z9d
def Zrp := kL Zcy
def ZU := kO Zrp
def ZyE := opN ZU 0
def Zxe := opN ZU 1
def ZAm := opN ZU 2
def ZCJ := opN ZU 3
def ZvD := opN ZU 4
def ZE8 := opN ZU 5
def ZAF := opN ZU 6
def ZBn := opN ZU 7
def ZCE := opN ZU 8
def Zyt := opN ZU 9
theorem Z0fA : XD 35 40 Zrp ZU [2, 7, 8, 21, 31, 32, 33, 34, 35, 36, 37, 38, 39] := Z0v (by rfl) (by rfl) _
theorem Z03Y : ZU.toList = [ZyE, Zxe, ZAm, ZCJ, ZvD, ZE8, ZAF, ZBn, ZCE, Zyt] := nf
theorem ZP4 : statOk ZU = true := by kernel_rfl
theorem ZV8 : drawA E C B 40 ZU s = if neat 40 s = true then drX ZU (runT E C B 40 ZU ZU.toList 0 s) else none := Z0c ZP4 s
theorem ZRa (l : List (Nat × Tr)) : dynOk ZU l = (!writing l || Zc [[], [], [0, 1], [0, 1, 2], [], [], [4, 5], [4, 5, 6], [0, 1, 2, 3, 4, 5, 6, 7], [0, 1, 2, 3, 4, 5, 6, 7, 8]] (Zb l)) := ZX (by kernel_rfl) l
theorem Z087 : stepT E C B 40 ZU ZyE (φ, H) = some ((fput φ 31 (fget φ 7), H), ⟨false, [], []⟩) := Z2 rfl (Z7 rfl rfl)
theorem Z05M : stepT E C B 40 ZU Zxe (φ, H) = some ((fput φ 32 (fget φ 2), H), ⟨false, [], []⟩) := Z2 rfl (Z7 rfl rfl)
theorem Z03f : stepT E C B 40 ZU ZAm (φ, H) = stpT (some 33) φ H (just (Z4 E.T 22 (fget φ 31) (fget φ 32))) := Z2 rfl (Z6 rfl rfl)
theorem Z060 : stepT E C B 40 ZU ZCJ (φ, H) = stpT (some 34) φ H (just (aLoad E.T 3 (fget φ 33))) := Z2 rfl (Z6 rfl rfl)
theorem Z06d : stepT E C B 40 ZU ZvD (φ, H) = some ((fput φ 35 (fget φ 8), H), ⟨false, [], []⟩) := Z2 rfl (Z7 rfl rfl)
theorem Z01x : stepT E C B 40 ZU ZE8 (φ, H) = some ((fput φ 36 (fget φ 2), H), ⟨false, [], []⟩) := Z2 rfl (Z7 rfl rfl)
theorem Z08e : stepT E C B 40 ZU ZAF (φ, H) = stpT (some 37) φ H (just (Z4 E.T 22 (fget φ 35) (fget φ 36))) := Z2 rfl (Z6 rfl rfl)
theorem Z03J : stepT E C B 40 ZU ZBn (φ, H) = stpT (some 38) φ H (just (aLoad E.T 3 (fget φ 37))) := Z2 rfl (Z6 rfl rfl)
theorem Z01c : stepT E C B 40 ZU ZCE (φ, H) = stpT (some 39) φ H (just (aBin E.T .geq 3 (fget φ 34) (fget φ 38))) := Z2 rfl (Z6 rfl rfl)
theorem Z02D : stepT E C B 40 ZU Zyt (φ, H) = some ((fput φ 30 (fget φ 39), H), ⟨false, [], []⟩) := Z2 rfl (Z7 rfl rfl)
def ZaB := kR Zcy
def Zc7 := kT ZaB
def Zsg := kL Zc7
def ZkF := kO Zsg
def Zw3 := opN ZkF 0
theorem Z0hl : XG 35 40 Zsg ZkF [30] := Z1 (by rfl) (by rfl) _
theorem Z0bb : ZkF.toList = [Zw3] := nf
theorem Z0cm : stepA E C B 40 ZkF Zw3 (φ, H) = some (fput φ 6 (.int .i64 14), H) := nf
def ZN2 := kR Zc7
theorem Z0cR : execA E C (fg 35) B 40 E0 N ZN2 s = some (.ret, s) := Zo (by rfl) s
theorem Z0kd : XQ 35 40 Zc7 Zsg ZN2 := Z0 (by rfl) _
def ZKn := kE ZaB
theorem Z0eN : execA E C (fg 35) B 40 E0 N ZKn s = some (.normal, s) := Zh (by rfl) s
theorem Z0jR : XC 35 40 ZaB 30 Zc7 ZKn := Zf (by rfl) _
theorem Z0i5 : XQ 35 40 Zcy Zrp ZaB := Z0 (by rfl) _
theorem Z0jL : XC 35 40 Z9d 21 Zd4 Zcy := Zf (by rfl) _
theorem Z0g6 : XQ 35 40 Zcs ZpG Z9d := Z0 (by rfl) _
theorem Z0pm : XC 35 40 Zku 17 Zj8 Zcs := Zf (by rfl) _
theorem Z0oU : XQ 35 40 ZkE ZED Zku := Z0 (by rfl) _
theorem Z0pg : execA E C (fg 35) B 40 E0 N ZEv s = blockX 0 (fun s => (forget s.1 [30], s.2)) (execA E C (fg 35) B 40 E0 N ZkE s) := Zi (by rfl) (by rfl) s
def Zbs := kR Zli
def ZlV := kL Zbs
def ZkQ := kO ZlV
def ZCZ := opN ZkQ 0
theorem Z0gB : XG 35 40 ZlV ZkQ [] := Z1 (by rfl) (by rfl) _
theorem ZXe : ZkQ.toList = [ZCZ] := nf
theorem Z062 : stepA E C B 40 ZkQ ZCZ (φ, H) = some (fput φ 6 (.int .i64 0), H) := nf
def ZOO := kR Zbs
theorem Z0ia : execA E C (fg 35) B 40 E0 N ZOO s = some (.ret, s) := Zo (by rfl) s
theorem Z0f3 : XQ 35 40 Zbs ZlV ZOO := Z0 (by rfl) _
theorem Z0oJ : XQ 35 40 Zli ZEv Zbs := Z0 (by rfl) _
theorem Z0o7 : XQ 35 40 Zlb ZGu Zli := Z0 (by rfl) _
theorem Z0ol : XQ 35 40 ZbM ZF5 Zlb := Z0 (by rfl) _
theorem Z0mx : fInfo E 35 = some ⟨40, #[.tmp 6], ZbM⟩ := nf
theorem b_35 (args : List AV) : bodyA E C fg N 35 args H B = bodyX E [.tmp 6] (execA E C (fg 35) B 40 H N ZbM (Z5 args 0 [], H)) := Zp Z0mx args H
abbrev F_35 := And.intro (And.intro (And.intro (And.intro (And.intro (And.intro @Z0lj @Z07u) (And.intro @Z01k @Z0lp)) (And.intro (And.intro @Z04C @Z01j) (And.intro @Z09p (And.intro @ZY7 @Z03R)))) (And.intro (And.intro (And.intro @Z050 @ZZX) (And.intro @Z05X (And.intro @Z01S @Z03I))) (And.intro (And.intro @ZZS @Z0pz) (And.intro @Z08j (And.intro @Z0c5 @Z001))))) (And.intro (And.intro (And.intro (And.intro @Z08R @Z0fE) (And.intro @Z0bY (And.intro @Z08E @ZYt))) (And.intro (And.intro @Z0hH @Z0oN) (And.intro @Z0eP (And.intro @Z07x @Z09Q)))) (And.intro (And.intro (And.intro @Z0cg @Z08X) (And.intro @Z0ap (And.intro @Z03Z @ZYC))) (And.intro (And.intro @Z0aB @ZZH) (And.intro @Z06a (And.intro @Z0eC @Z0ac)))))) (And.intro (And.intro (And.intro (And.intro (And.intro @Z05H @Z0eW) (And.intro @Z0fv @Z0fA)) (And.intro (And.intro @Z03Y @ZV8) (And.intro @ZRa (And.intro @Z087 @Z05M)))) (And.intro (And.intro (And.intro @Z03f @Z060) (And.intro @Z06d (And.intro @Z01x @Z08e))) (And.intro (And.intro @Z03J @Z01c) (And.intro @Z02D (And.intro @Z0hl @Z0bb))))) (And.intro (And.intro (And.intro (And.intro @Z0cm @Z0cR) (And.intro @Z0kd (And.intro @Z0eN @Z0jR))) (And.intro (And.intro @Z0i5 @Z0jL) (And.intro @Z0g6 (And.intro @Z0pm @Z0oU)))) (And.intro (And.intro (And.intro @Z0pg @Z0gB) (And.intro @ZXe (And.intro @Z062 @Z0ia))) (And.intro (And.intro @Z0f3 @Z0oJ) (And.intro @Z0o7 (And.intro @Z0ol @b_35))))))
def Zai := kBody Proofs.Try.f90
def ZFi := kL Zai
def ZkH := kO ZFi
def ZwP := opN ZkH 0
theorem Z0pP : XG 90 26 ZFi ZkH [4] := Z1 (by rfl) (by rfl) _
theorem Z026 : ZkH.toList = [ZwP] := nf
theorem Z0a8 : stepA E C B 26 ZkH ZwP (φ, H) = some (fput φ 4 (.int .i64 0), H) := nf
def Zjt := kR Zai
def ZFY := kL Zjt
def Zk2 := kO ZFY
def ZvL := opN Zk2 0
theorem Z0mi : XG 90 26 ZFY Zk2 [] := Z1 (by rfl) (by rfl) _
theorem Z056 : Zk2.toList = [ZvL] := nf
theorem Z097 : stepA E C B 26 Zk2 ZvL (φ, H) = some (fput φ 5 (.int .i64 0), H) := nf
def Zjm := kR Zjt
def Zj4 := kL Zjm
def ZFU := kL Zj4
def Z4h := kO ZFU
def ZDq := opN Z4h 0
def Zvc := opN Z4h 1
def Zws := opN Z4h 2
theorem Z0pI : XG 90 26 ZFU Z4h [7] := Z1 (by rfl) (by rfl) _
theorem ZY0 : Z4h.toList = [ZDq, Zvc, Zws] := nf
theorem Z01J : stepA E C B 26 Z4h ZDq (φ, H) = some (fput φ 7 (fget φ 0), H) := nf
theorem Z071 : stepA E C B 26 Z4h Zvc (φ, H) = stp (some 8) φ H (Z3 E.T (B + 8) .len #[22] [(fget φ 7)]) := nf
theorem Z03t : stepA E C B 26 Z4h Zws (φ, H) = some (fput φ 9 (.int .i64 0), H) := nf
def ZGn := kR Zj4
def ZGA := kB ZGn
def Zcx := kB ZGA
def Zpr := kL Zcx
def Zkf := kO Zpr
def ZE7 := opN Zkf 0
theorem Z0jZ : XG 90 26 Zpr Zkf [] := Z1 (by rfl) (by rfl) _
theorem Z02k : Zkf.toList = [ZE7] := nf
theorem Z09F : stepA E C B 26 Zkf ZE7 (φ, H) = stp (some 10) φ H (just (aBin E.T .lss 3 (fget φ 9) (fget φ 8))) := nf
def Zb8 := kR Zcx
def Z9S := kL Zb8
def ZMc := kT Z9S
theorem Z0dx : execA E C (fg 90) B 26 E0 N ZMc s = some (.normal, s) := Zh (by rfl) s
def ZMG := kE Z9S
theorem Z0jn : execA E C (fg 90) B 26 E0 N ZMG s = some (.exit 0, s) := ZW (by rfl) s
theorem Z0gl : XC 90 26 Z9S 10 ZMc ZMG := Zf (by rfl) _
def Zcb := kR Zb8
def Zog := kL Zcb
def Zac := kB Zog
def Znd := kL Zac
def Z7j := kO Znd
def Zvk := opN Z7j 0
def ZwE := opN Z7j 1
theorem Z0iM : XG 90 26 Znd Z7j [10, 11] := Z1 (by rfl) (by rfl) _
theorem Z06Q : Z7j.toList = [Zvk, ZwE] := nf
theorem Z0bR : stepA E C B 26 Z7j Zvk (φ, H) = some (fput φ 11 (fget φ 9), H) := nf
theorem Z04f : stepA E C B 26 Z7j ZwE (φ, H) = some (fput φ 6 (fget φ 11), H) := nf
def Zpo := kR Zac
def ZI := kO Zpo
def ZzS := opN ZI 0
def ZBI := opN ZI 1
def Zwc := opN ZI 2
def ZAH := opN ZI 3
def ZB7 := opN ZI 4
def ZEq := opN ZI 5
def ZB0 := opN ZI 6
def ZCO := opN ZI 7
def ZAq := opN ZI 8
def ZCu := opN ZI 9
def ZoJ := opN ZI 10
def Zmm := opN ZI 11
def ZmU := opN ZI 12
theorem Z0fx : XD 90 26 Zpo ZI [6, 12, 13, 14, 15, 16, 17, 18, 19, 20, 21, 22, 23] := Z0v (by rfl) (by rfl) _
theorem Z0bt : ZI.toList = [ZzS, ZBI, Zwc, ZAH, ZB7, ZEq, ZB0, ZCO, ZAq, ZCu, ZoJ, Zmm, ZmU] := nf
theorem ZPR : statOk ZI = true := by kernel_rfl
theorem ZRM : drawA E C B 26 ZI s = if neat 26 s = true then drX ZI (runT E C B 26 ZI ZI.toList 0 s) else none := Z0c ZPR s
theorem ZVy (l : List (Nat × Tr)) : dynOk ZI l = (!writing l || Zc [[], [], [], [1, 2], [1, 2, 3], [], [], [5, 6], [5, 6, 7], [1, 2, 3, 4, 5, 6, 7, 8], [1, 2, 3, 4, 5, 6, 7, 8, 9], [0, 1, 2, 3, 4, 5, 6, 7, 8, 9, 10], [0, 1, 2, 3, 4, 5, 6, 7, 8, 9, 10, 11]] (Zb l)) := ZX (by kernel_rfl) l
theorem Z0bN : stepT E C B 26 ZI ZzS (φ, H) = some ((fput φ 12 (fget φ 5), H), ⟨false, [], []⟩) := Z2 rfl (Z7 rfl rfl)
theorem Z0a2 : stepT E C B 26 ZI ZBI (φ, H) = some ((fput φ 13 (fget φ 0), H), ⟨false, [], []⟩) := Z2 rfl (Z7 rfl rfl)
theorem Z0ca : stepT E C B 26 ZI Zwc (φ, H) = some ((fput φ 14 (fget φ 6), H), ⟨false, [], []⟩) := Z2 rfl (Z7 rfl rfl)
theorem Z01o : stepT E C B 26 ZI ZAH (φ, H) = stpT (some 15) φ H (just (Z4 E.T 22 (fget φ 13) (fget φ 14))) := Z2 rfl (Z6 rfl rfl)
theorem Z09L : stepT E C B 26 ZI ZB7 (φ, H) = stpT (some 16) φ H (just (aLoad E.T 3 (fget φ 15))) := Z2 rfl (Z6 rfl rfl)
theorem Z09c : stepT E C B 26 ZI ZEq (φ, H) = some ((fput φ 17 (fget φ 1), H), ⟨false, [], []⟩) := Z2 rfl (Z7 rfl rfl)
theorem Z0c7 : stepT E C B 26 ZI ZB0 (φ, H) = some ((fput φ 18 (fget φ 6), H), ⟨false, [], []⟩) := Z2 rfl (Z7 rfl rfl)
theorem Z04r : stepT E C B 26 ZI ZCO (φ, H) = stpT (some 19) φ H (just (Z4 E.T 22 (fget φ 17) (fget φ 18))) := Z2 rfl (Z6 rfl rfl)
theorem Z08O : stepT E C B 26 ZI ZAq (φ, H) = stpT (some 20) φ H (just (aLoad E.T 3 (fget φ 19))) := Z2 rfl (Z6 rfl rfl)
theorem Z00C : stepT E C B 26 ZI ZCu (φ, H) = stpT (some 21) φ H (just (aBin E.T .sub 3 (fget φ 16) (fget φ 20))) := Z2 rfl (Z6 rfl rfl)
theorem ZPM : stepT E C B 26 ZI ZoJ (φ, H) = stpT (some 22) φ H (Z3 E.T (B + 22) .max #[3, 3] [(fget φ 21), (.int .i64 0)]) := Z2 rfl (Z6 rfl rfl)
theorem ZST : stepT E C B 26 ZI Zmm (φ, H) = stpT (some 23) φ H (just (aBin E.T .add 3 (fget φ 12) (fget φ 22))) := Z2 rfl (Z6 rfl rfl)
theorem ZWs : stepT E C B 26 ZI ZmU (φ, H) = some ((fput φ 5 (fget φ 23), H), ⟨false, [], []⟩) := Z2 rfl (Z7 rfl rfl)
theorem Z0in : XQ 90 26 Zac Znd Zpo := Z0 (by rfl) _
theorem Z0ed : execA E C (fg 90) B 26 E0 N Zog s = blockX 1 (fun s => (forget s.1 [], s.2)) (execA E C (fg 90) B 26 E0 N Zac s) := Zi (by rfl) (by rfl) s
def ZoN := kR Zcb
def Z6L := kO ZoN
def ZD8 := opN Z6L 0
def ZAW := opN Z6L 1
theorem Z0j6 : XG 90 26 ZoN Z6L [24] := Z1 (by rfl) (by rfl) _
theorem ZYc : Z6L.toList = [ZD8, ZAW] := nf
theorem Z0c0 : stepA E C B 26 Z6L ZD8 (φ, H) = stp (some 24) φ H (just (aBin E.T .add 3 (fget φ 9) (.int .i64 1))) := nf
theorem Z08a : stepA E C B 26 Z6L ZAW (φ, H) = some (fput φ 9 (fget φ 24), H) := nf
theorem Z0fG : XQ 90 26 Zcb Zog ZoN := Z0 (by rfl) _
theorem Z0kz : XQ 90 26 Zb8 Z9S Zcb := Z0 (by rfl) _
theorem Z0ll : XQ 90 26 Zcx Zpr Zb8 := Z0 (by rfl) _
theorem Z0q3 : execA E C (fg 90) B 26 E0 N ZGA s = iterA (execA E C (fg 90) B 26 E0 N Zcx) (headA E0) N s := Z08 (by rfl) s
theorem Z0pZ : execA E C (fg 90) B 26 E0 N ZGn s = blockX 0 (fun s => (forget s.1 [0, 1, 8, 9, 10], s.2)) (execA E C (fg 90) B 26 E0 N ZGA s) := Zi (by rfl) (by rfl) s
theorem Z0mo : XQ 90 26 Zj4 ZFU ZGn := Z0 (by rfl) _
def Zby := kR Zjm
def ZrE := kL Zby
def Z80 := kO ZrE
def Zvj := opN Z80 0
def Zwb := opN Z80 1
theorem Z0dq : XG 90 26 ZrE Z80 [5, 25] := Z1 (by rfl) (by rfl) _
theorem Z04P : Z80.toList = [Zvj, Zwb] := nf
theorem Z01V : stepA E C B 26 Z80 Zvj (φ, H) = some (fput φ 25 (fget φ 5), H) := nf
theorem Z078 : stepA E C B 26 Z80 Zwb (φ, H) = some (fput φ 4 (fget φ 25), H) := nf
def ZOx := kR Zby
theorem Z0eX : execA E C (fg 90) B 26 E0 N ZOx s = some (.ret, s) := Zo (by rfl) s
theorem Z0eb : XQ 90 26 Zby ZrE ZOx := Z0 (by rfl) _
theorem Z0mc : XQ 90 26 Zjm Zj4 Zby := Z0 (by rfl) _
theorem Z0me : XQ 90 26 Zjt ZFY Zjm := Z0 (by rfl) _
theorem Z0mP : XQ 90 26 Zai ZFi Zjt := Z0 (by rfl) _
theorem Z0oT : fInfo E 90 = some ⟨26, #[.tmp 4], Zai⟩ := nf
theorem b_90 (args : List AV) : bodyA E C fg N 90 args H B = bodyX E [.tmp 4] (execA E C (fg 90) B 26 H N Zai (Z5 args 0 [], H)) := Zp Z0oT args H
abbrev F_90 := And.intro (And.intro (And.intro (And.intro (And.intro @Z0pP (And.intro @Z026 @Z0a8)) (And.intro (And.intro @Z0mi @Z056) (And.intro @Z097 @Z0pI))) (And.intro (And.intro (And.intro @ZY0 @Z01J) (And.intro @Z071 @Z03t)) (And.intro (And.intro @Z0jZ @Z02k) (And.intro @Z09F @Z0dx)))) (And.intro (And.intro (And.intro @Z0jn (And.intro @Z0gl @Z0iM)) (And.intro (And.intro @Z06Q @Z0bR) (And.intro @Z04f @Z0fx))) (And.intro (And.intro (And.intro @Z0bt @ZRM) (And.intro @ZVy @Z0bN)) (And.intro (And.intro @Z0a2 @Z0ca) (And.intro @Z01o @Z09L))))) (And.intro (And.intro (And.intro (And.intro @Z09c (And.intro @Z0c7 @Z04r)) (And.intro (And.intro @Z08O @Z00C) (And.intro @ZPM @ZST))) (And.intro (And.intro (And.intro @ZWs @Z0in) (And.intro @Z0ed @Z0j6)) (And.intro (And.intro @ZYc @Z0c0) (And.intro @Z08a @Z0fG)))) (And.intro (And.intro (And.intro @Z0kz (And.intro @Z0ll @Z0q3)) (And.intro (And.intro @Z0pZ @Z0mo) (And.intro @Z0dq @Z04P))) (And.intro (And.intro (And.intro @Z01V @Z078) (And.intro @Z0eX @Z0eb)) (And.intro (And.intro @Z0mc @Z0me) (And.intro @Z0mP @b_90)))))
def Zci := kBody Proofs.Try.f89
def ZGa := kL Zci
def Zkj := kO ZGa
def ZEo := opN Zkj 0
theorem Z0kQ : XG 89 24 ZGa Zkj [4] := Z1 (by rfl) (by rfl) _
theorem Z09M : Zkj.toList = [ZEo] := nf
theorem Z05C : stepA E C B 24 Zkj ZEo (φ, H) = some (fput φ 4 (.int .i64 0), H) := nf
def ZjK := kR Zci
def ZFA := kL ZjK
def Z0q := kO ZFA
def ZCW := opN Z0q 0
def ZuS := opN Z0q 1
def ZBH := opN Z0q 2
def ZCV := opN Z0q 3
def ZDf := opN Z0q 4
def Zzd := opN Z0q 5
def Zyu := opN Z0q 6
def ZD3 := opN Z0q 7
def Zuy := opN Z0q 8
def ZBx := opN Z0q 9
theorem Z0p2 : XG 89 24 ZFA Z0q [0, 1, 8, 9, 10, 11, 12, 13, 14] := Z1 (by rfl) (by rfl) _
theorem Z05y : Z0q.toList = [ZCW, ZuS, ZBH, ZCV, ZDf, Zzd, Zyu, ZD3, Zuy, ZBx] := nf
theorem Z0b5 : stepA E C B 24 Z0q ZCW (φ, H) = some (fput φ 9 (fget φ 0), H) := nf
theorem Z02m : stepA E C B 24 Z0q ZuS (φ, H) = some (fput φ 10 (fget φ 1), H) := nf
theorem Z05j : stepA E C B 24 Z0q ZBH (φ, H) = stp (some 11) φ H (aCall C (fun j => B + j * 24 + 11) true 85 [(fget φ 9), (fget φ 10)]) := nf
theorem Z0ab : stepA E C B 24 Z0q ZCV (φ, H) = some (fput φ 8 (fget φ 11), H) := nf
theorem ZYV : stepA E C B 24 Z0q ZDf (φ, H) = stp (some 12) φ H (Zd (fget φ 8) 0) := nf
theorem Z09o : stepA E C B 24 Z0q Zzd (φ, H) = stp (some 13) φ H (Zd (fget φ 8) 1) := nf
theorem Z008 : stepA E C B 24 Z0q Zyu (φ, H) = stp (some 14) φ H (Zd (fget φ 8) 2) := nf
theorem ZZZ : stepA E C B 24 Z0q ZD3 (φ, H) = some (fput φ 5 (fget φ 12), H) := nf
theorem Z06n : stepA E C B 24 Z0q Zuy (φ, H) = some (fput φ 6 (fget φ 13), H) := nf
theorem Z06g : stepA E C B 24 Z0q ZBx (φ, H) = some (fput φ 7 (fget φ 14), H) := nf
def Zji := kR ZjK
def Zjs := kL Zji
def ZGK := kL Zjs
def Z0N := kO ZGK
def ZxS := opN Z0N 0
def ZDA := opN Z0N 1
def Z3z := opN Z0N 2
def Zzk := opN Z0N 3
def ZuC := opN Z0N 4
def ZxX := opN Z0N 5
def ZA0 := opN Z0N 6
def ZzG := opN Z0N 7
theorem Z0ln : XG 89 24 ZGK Z0N [5, 6, 15, 16, 17, 18, 19, 20, 21] := Z1 (by rfl) (by rfl) _
theorem Z0an : Z0N.toList = [ZxS, ZDA, Z3z, Zzk, ZuC, ZxX, ZA0, ZzG] := nf
theorem ZYW : stepA E C B 24 Z0N ZxS (φ, H) = some (fput φ 15 (fget φ 7), H) := nf
theorem Z09Y : stepA E C B 24 Z0N ZDA (φ, H) = stp (some 16) φ H (just (aBin E.T .eql 24 (fget φ 15) (.int .i64 0))) := nf
theorem ZYk : stepA E C B 24 Z0N Z3z (φ, H) = some (fput φ 17 (fget φ 16), H) := nf
theorem Z08L : stepA E C B 24 Z0N Zzk (φ, H) = gd φ 17 true (fun φ => some (fput φ 18 (.tup []), H)) (fun φ => some (fput φ 18 (fget φ 5), H)) := s_gd (j := 2) (oj := Z3z) rfl rfl rfl (fun _ => rfl) (fun _ => rfl)
theorem Z09w : stepA E C B 24 Z0N ZuC (φ, H) = gd φ 17 true (fun φ => some (fput φ 19 (.tup []), H)) (fun φ => some (fput φ 19 (fget φ 6), H)) := s_gd (j := 2) (oj := Z3z) rfl rfl rfl (fun _ => rfl) (fun _ => rfl)
theorem Z03K : stepA E C B 24 Z0N ZxX (φ, H) = gd φ 17 true (fun φ => some (fput φ 20 (.tup []), H)) (fun φ => stp (some 20) φ H (aCall C (fun j => B + j * 24 + 20) true 86 [(fget φ 18), (fget φ 19)])) := s_gd (j := 2) (oj := Z3z) rfl rfl rfl (fun _ => rfl) (fun _ => rfl)
theorem ZYI : stepA E C B 24 Z0N ZA0 (φ, H) = gd φ 17 true (fun φ => some (fput φ 21 (.tup []), H)) (fun φ => stp (some 21) φ H (just (aBin E.T .geq 3 (fget φ 20) (.int .i64 0)))) := s_gd (j := 2) (oj := Z3z) rfl rfl rfl (fun _ => rfl) (fun _ => rfl)
theorem Z05S : stepA E C B 24 Z0N ZzG (φ, H) = stp (some 22) φ H (opPick (fget φ 17) (fget φ 21) (.bool false)) := nf
def Zjr := kR Zjs
def ZFS := kT Zjr
def Zj6 := kO ZFS
def Zy3 := opN Zj6 0
theorem Z0pp : XG 89 24 ZFS Zj6 [22] := Z1 (by rfl) (by rfl) _
theorem Z042 : Zj6.toList = [Zy3] := nf
theorem Z03P : stepA E C B 24 Zj6 Zy3 (φ, H) = some (fput φ 7 (.int .i64 12), H) := nf
def ZWQ := kE Zjr
theorem Z0pE : execA E C (fg 89) B 24 E0 N ZWQ s = some (.normal, s) := Zh (by rfl) s
theorem Z0o6 : XC 89 24 Zjr 22 ZFS ZWQ := Zf (by rfl) _
theorem Z0mV : XQ 89 24 Zjs ZGK Zjr := Z0 (by rfl) _
def ZcZ := kR Zji
def Zq2 := kL ZcZ
def Z72 := kO Zq2
def ZAE := opN Z72 0
def ZCm := opN Z72 1
theorem Z0jg : XG 89 24 Zq2 Z72 [7, 22, 23] := Z1 (by rfl) (by rfl) _
theorem Z08Z : Z72.toList = [ZAE, ZCm] := nf
theorem Z03O : stepA E C B 24 Z72 ZAE (φ, H) = some (fput φ 23 (fget φ 7), H) := nf
theorem Z01b : stepA E C B 24 Z72 ZCm (φ, H) = some (fput φ 4 (fget φ 23), H) := nf
def ZNd := kR ZcZ
theorem Z0eh : execA E C (fg 89) B 24 E0 N ZNd s = some (.ret, s) := Zo (by rfl) s
theorem Z0cX : XQ 89 24 ZcZ Zq2 ZNd := Z0 (by rfl) _
theorem Z0lL : XQ 89 24 Zji Zjs ZcZ := Z0 (by rfl) _
theorem Z0lr : XQ 89 24 ZjK ZFA Zji := Z0 (by rfl) _
theorem Z0lm : XQ 89 24 Zci ZGa ZjK := Z0 (by rfl) _
theorem Z0n6 : fInfo E 89 = some ⟨24, #[.tmp 4], Zci⟩ := nf
theorem b_89 (args : List AV) : bodyA E C fg N 89 args H B = bodyX E [.tmp 4] (execA E C (fg 89) B 24 H N Zci (Z5 args 0 [], H)) := Zp Z0n6 args H
abbrev F_89 := And.intro (And.intro (And.intro (And.intro (And.intro @Z0kQ @Z09M) (And.intro @Z05C (And.intro @Z0p2 @Z05y))) (And.intro (And.intro @Z0b5 @Z02m) (And.intro @Z05j (And.intro @Z0ab @ZYV)))) (And.intro (And.intro (And.intro @Z09o @Z008) (And.intro @ZZZ (And.intro @Z06n @Z06g))) (And.intro (And.intro @Z0ln @Z0an) (And.intro @ZYW (And.intro @Z09Y @ZYk))))) (And.intro (And.intro (And.intro (And.intro @Z08L @Z09w) (And.intro @Z03K (And.intro @ZYI @Z05S))) (And.intro (And.intro @Z0pp @Z042) (And.intro @Z03P (And.intro @Z0pE @Z0o6)))) (And.intro (And.intro (And.intro @Z0mV @Z0jg) (And.intro @Z08Z (And.intro @Z03O @Z01b))) (And.intro (And.intro @Z0eh (And.intro @Z0cX @Z0lL)) (And.intro @Z0lr (And.intro @Z0lm @b_89)))))
def Z9p := kBody Proofs.Try.f31
def ZFC := kL Z9p
def Z6s := kO ZFC
def ZCF := opN Z6s 0
def ZvS := opN Z6s 1
theorem Z0lQ : XG 31 16 ZFC Z6s [4, 5] := Z1 (by rfl) (by rfl) _
theorem ZYa : Z6s.toList = [ZCF, ZvS] := nf
theorem Z06j : stepA E C B 16 Z6s ZCF (φ, H) = some (fput φ 4 (.int .i64 0), H) := nf
theorem Z06K : stepA E C B 16 Z6s ZvS (φ, H) = some (fput φ 5 (.int .i64 0), H) := nf
def ZjN := kR Z9p
def Zke := kL ZjN
def ZEF := kL Zke
def Z2K := kO ZEF
def ZwR := opN Z2K 0
def ZCk := opN Z2K 1
def ZDn := opN Z2K 2
def ZDT := opN Z2K 3
theorem Z0mw : XG 31 16 ZEF Z2K [7, 8, 9] := Z1 (by rfl) (by rfl) _
theorem Z01P : Z2K.toList = [ZwR, ZCk, ZDn, ZDT] := nf
theorem Z08T : stepA E C B 16 Z2K ZwR (φ, H) = some (fput φ 7 (fget φ 0), H) := nf
theorem Z0c9 : stepA E C B 16 Z2K ZCk (φ, H) = some (fput φ 8 (fget φ 1), H) := nf
theorem Z07H : stepA E C B 16 Z2K ZDn (φ, H) = stp (some 9) φ H (aCall C (fun j => B + j * 16 + 9) true 89 [(fget φ 7), (fget φ 8)]) := nf
theorem ZZN : stepA E C B 16 Z2K ZDT (φ, H) = some (fput φ 6 (fget φ 9), H) := nf
def Zjw := kR Zke
def ZGN := kL Zjw
def Z89 := kO ZGN
def ZCh := opN Z89 0
def ZyS := opN Z89 1
theorem Z0oq : XG 31 16 ZGN Z89 [10] := Z1 (by rfl) (by rfl) _
theorem Z0bA : Z89.toList = [ZCh, ZyS] := nf
theorem Z01B : stepA E C B 16 Z89 ZCh (φ, H) = some (fput φ 10 (fget φ 6), H) := nf
theorem Z0bI : stepA E C B 16 Z89 ZyS (φ, H) = stp (some 11) φ H (just (aBin E.T .neq 24 (fget φ 10) (.int .i64 0))) := nf
def ZkD := kR Zjw
def Zjx := kT ZkD
def ZFJ := kL Zjx
def Z4c := kO ZFJ
def ZAe := opN Z4c 0
def ZBG := opN Z4c 1
def Zv6 := opN Z4c 2
theorem Z0ok : XG 31 16 ZFJ Z4c [0, 1, 6, 11, 12] := Z1 (by rfl) (by rfl) _
theorem Z09l : Z4c.toList = [ZAe, ZBG, Zv6] := nf
theorem Z00B : stepA E C B 16 Z4c ZAe (φ, H) = some (fput φ 12 (fget φ 6), H) := nf
theorem Z01M : stepA E C B 16 Z4c ZBG (φ, H) = some (fput φ 4 (.int .i64 0), H) := nf
theorem Z05A : stepA E C B 16 Z4c Zv6 (φ, H) = some (fput φ 5 (fget φ 12), H) := nf
def ZO1 := kR Zjx
theorem Z0g4 : execA E C (fg 31) B 16 E0 N ZO1 s = some (.ret, s) := Zo (by rfl) s
theorem Z0o5 : XQ 31 16 Zjx ZFJ ZO1 := Z0 (by rfl) _
def ZH3 := kE ZkD
theorem Z0hG : execA E C (fg 31) B 16 E0 N ZH3 s = some (.normal, s) := Zh (by rfl) s
theorem Z0mM : XC 31 16 ZkD 11 Zjx ZH3 := Zf (by rfl) _
theorem Z0mQ : XQ 31 16 Zjw ZGN ZkD := Z0 (by rfl) _
theorem Z0nC : XQ 31 16 Zke ZEF Zjw := Z0 (by rfl) _
def Zbo := kR ZjN
def Zse := kL Zbo
def Z27 := kO Zse
def Zxr := opN Z27 0
def Zza := opN Z27 1
def Zvm := opN Z27 2
def ZEn := opN Z27 3
def ZBE := opN Z27 4
theorem Z0jJ : XG 31 16 Zse Z27 [0, 1, 6, 11, 13, 14, 15] := Z1 (by rfl) (by rfl) _
theorem Z00l : Z27.toList = [Zxr, Zza, Zvm, ZEn, ZBE] := nf
theorem ZZJ : stepA E C B 16 Z27 Zxr (φ, H) = some (fput φ 13 (fget φ 0), H) := nf
theorem Z09q : stepA E C B 16 Z27 Zza (φ, H) = some (fput φ 14 (fget φ 1), H) := nf
theorem ZZo : stepA E C B 16 Z27 Zvm (φ, H) = stp (some 15) φ H (aCall C (fun j => B + j * 16 + 15) true 90 [(fget φ 13), (fget φ 14)]) := nf
theorem Z0bg : stepA E C B 16 Z27 ZEn (φ, H) = some (fput φ 4 (fget φ 15), H) := nf
theorem Z02p : stepA E C B 16 Z27 ZBE (φ, H) = some (fput φ 5 (.int .i64 0), H) := nf
def ZK6 := kR Zbo
theorem Z0gx : execA E C (fg 31) B 16 E0 N ZK6 s = some (.ret, s) := Zo (by rfl) s
theorem Z0jU : XQ 31 16 Zbo Zse ZK6 := Z0 (by rfl) _
theorem Z0oZ : XQ 31 16 ZjN Zke Zbo := Z0 (by rfl) _
theorem Z0pB : XQ 31 16 Z9p ZFC ZjN := Z0 (by rfl) _
theorem Z0qd : fInfo E 31 = some ⟨16, #[.tmp 4, .tmp 5], Z9p⟩ := nf
theorem b_31 (args : List AV) : bodyA E C fg N 31 args H B = bodyX E [.tmp 4, .tmp 5] (execA E C (fg 31) B 16 H N Z9p (Z5 args 0 [], H)) := Zp Z0qd args H
abbrev F_31 := And.intro (And.intro (And.intro (And.intro (And.intro @Z0lQ @ZYa) (And.intro @Z06j @Z06K)) (And.intro (And.intro @Z0mw @Z01P) (And.intro @Z08T (And.intro @Z0c9 @Z07H)))) (And.intro (And.intro (And.intro @ZZN @Z0oq) (And.intro @Z0bA @Z01B)) (And.intro (And.intro @Z0bI @Z0ok) (And.intro @Z09l (And.intro @Z00B @Z01M))))) (And.intro (And.intro (And.intro (And.intro @Z05A @Z0g4) (And.intro @Z0o5 @Z0hG)) (And.intro (And.intro @Z0mM @Z0mQ) (And.intro @Z0nC (And.intro @Z0jJ @Z00l)))) (And.intro (And.intro (And.intro @ZZJ @Z09q) (And.intro @ZZo (And.intro @Z0bg @Z02p))) (And.intro (And.intro @Z0gx @Z0jU) (And.intro @Z0oZ (And.intro @Z0pB @b_31)))))
end Go.AM.Ytfmnoohhhokicaa
end
noncomputable section
namespace Go.AM.Rub
def ps (f : Nat → Int) : Nat → Int
 | 0 => 0
 | k + 1 => ps f k + f k
theorem Z1j {f g : Nat → Int} : ∀ n, (∀ i, i < n → f i = g i) → ps f n = ps g n
 | 0, _ => rfl
 | n + 1, h => by simp only [ps]; rw [Z1j n fun i hi => h i (by omega), h n (by omega)]
def ap (a b : Nat → Int) (n : Nat) : Int := ps (fun i => max (a i - b i) 0) n
def DescF (a : Nat → Int) (n : Nat) : Prop := ∀ i, i + 1 < n → a (i + 1) ≤ a i
theorem ZzW {a : Nat → Int} {n : Nat} (h : DescF a n) : ∀ m i, i + m < n → a (i + m) ≤ a i
 | 0, i, _ => Int.le_refl _
 | m + 1, i, hi => by
   have := ZzW h m i (by omega)
   have := h (i + m) (by omega)
   rw [show i + (m + 1) = i + m + 1 by omega]; omega
theorem Z1S {a : Nat → Int} {n : Nat} (h : DescF a n) {i j : Nat} (hij : i ≤ j) (hj : j < n) : a j ≤ a i := by
 have := ZzW h (j - i) i (by omega)
 rwa [show i + (j - i) = j by omega] at this
structure Maj (a b : Nat → Int) (n : Nat) : Prop where
 eq : ps a n = ps b n
 le : ∀ k, k ≤ n → ps b k ≤ ps a k
theorem Maj.refl (a : Nat → Int) (n : Nat) : Maj a a n := ⟨rfl, fun _ _ => Int.le_refl _⟩
theorem Maj.trans {a b c : Nat → Int} {n : Nat} (h1 : Maj a b n) (h2 : Maj b c n) : Maj a c n :=
 ⟨h1.eq.trans h2.eq, fun k hk => Int.le_trans (h2.le k hk) (h1.le k hk)⟩
def mvF (a : Nat → Int) (i j : Nat) (m : Nat) : Int := if m = i then a m - 1 else if m = j then a m + 1 else a m
theorem ZbG {a : Nat → Int} {i j : Nat} (hij : i < j) : ∀ k, ps (mvF a i j) k = ps a k - (if i < k ∧ k ≤ j then 1 else 0)
 | 0 => by simp [ps]
 | k + 1 => by
   simp only [ps, ZbG hij k, mvF]
   by_cases h1 : k = i
   · subst h1
     rw [if_pos rfl, if_neg (by omega), if_pos (by omega)]; omega
   · rw [if_neg h1]
     by_cases h2 : k = j
     · subst h2
       rw [if_pos rfl, if_pos (by omega), if_neg (by omega)]; omega
     · rw [if_neg h2]
       by_cases h3 : i < k ∧ k ≤ j
       · rw [if_pos h3, if_pos (by omega)]; omega
       · rw [if_neg h3, if_neg (by omega)]; omega
theorem Z0gt {a : Nat → Int} {i j n : Nat} (hij : i < j) (hj : j < n) : Maj a (mvF a i j) n := by
 refine ⟨?_, fun k _ => ?_⟩
 · rw [ZbG hij, if_neg (by omega)]; omega
 · rw [ZbG hij]; split <;> omega
theorem Z8H {a b : Nat → Int} {i j : Nat} (hij : i < j) : ∀ n, ap a b n - 1 ≤ ap (mvF a i j) b n ∧ (n ≤ j → ap (mvF a i j) b n ≤ ap a b n) ∧ ap (mvF a i j) b n ≤ ap a b n + 1
 | 0 => by simp [ap, ps]
 | n + 1 => by
   obtain ⟨h1, h2, h3⟩ := Z8H (a := a) (b := b) hij n
   simp only [ap, ps] at *
   have key : (n ≤ i → ps (fun i_1 => max (mvF a i j i_1 - b i_1) 0) n = ps (fun i => max (a i - b i) 0) n) := fun hn => Z1j n fun m hm => by
     simp only [mvF]; rw [if_neg (by omega), if_neg (by omega)]
   have e : mvF a i j n = (if n = i then a n - 1 else if n = j then a n + 1 else a n) := rfl
   rw [e]
   by_cases hi : n = i
   · have := key (by omega)
     rw [if_pos hi]; omega
   · rw [if_neg hi]
     by_cases hj : n = j
     · have := h2 (by omega)
       rw [if_pos hj]; omega
     · rw [if_neg hj]; omega
theorem Ztt {P : Nat → Prop} [DecidablePred P] : ∀ n, (∃ k, k < n ∧ P k) → ∃ k, k < n ∧ P k ∧ ∀ m, m < k → ¬ P m
 | 0, h => by obtain ⟨k, hk, _⟩ := h; omega
 | n + 1, h => by
   by_cases hx : ∃ k, k < n ∧ P k
   · obtain ⟨k, h1, h2, h3⟩ := Ztt n hx
     exact ⟨k, by omega, h2, h3⟩
   · obtain ⟨k, hk, hp⟩ := h
     have : k = n := by
       by_cases e : k = n
       · exact e
       · exact absurd ⟨k, by omega, hp⟩ hx
     subst this
     exact ⟨k, by omega, hp, fun m hm hpm => hx ⟨m, hm, hpm⟩⟩
theorem Zwk {P : Nat → Prop} [DecidablePred P] : ∀ n, (∃ k, k < n ∧ P k) → ∃ k, k < n ∧ P k ∧ ∀ m, k < m → m < n → ¬ P m
 | 0, h => by obtain ⟨k, hk, _⟩ := h; omega
 | n + 1, h => by
   by_cases hp : P n
   · exact ⟨n, by omega, hp, fun m h1 h2 => by omega⟩
   · obtain ⟨k, hk, hpk⟩ := h
     have hkn : k ≠ n := fun e => hp (e ▸ hpk)
     obtain ⟨k', h1, h2, h3⟩ := Zwk n ⟨k, by omega, hpk⟩
     refine ⟨k', by omega, h2, fun m hm1 hm2 => ?_⟩
     by_cases e : m = n
     · subst e; exact hp
     · exact h3 m hm1 (by omega)
theorem ZEH {a b : Nat → Int} : ∀ n, (∀ i, i < n → b i ≤ a i) → ps b n ≤ ps a n
 | 0, _ => by simp [ps]
 | n + 1, h => by
   have := ZEH n fun i hi => h i (by omega)
   have := h n (by omega)
   simp only [ps]; omega
theorem Z5B {a b : Nat → Int} {i : Nat} : ∀ n, i < n → (∀ m, m < n → b m ≤ a m) → ps b n + (a i - b i) ≤ ps a n
 | 0, hi, _ => by omega
 | n + 1, hi, h => by
   simp only [ps]
   by_cases e : i = n
   · subst e
     have := ZEH i fun m hm => h m (by omega)
     omega
   · have := Z5B (i := i) n (by omega) fun m hm => h m (by omega)
     have := h n (by omega)
     omega
theorem ZVY {a b : Nat → Int} {n : Nat} (ha : DescF a n) (hb : DescF b n) (h : Maj a b n) (hne : ∃ k, k < n ∧ a k ≠ b k) :
   ∃ i j, i < j ∧ j < n ∧ a i - a j ≥ 2 ∧ DescF (mvF a i j) n ∧ Maj (mvF a i j) b n ∧ ap (mvF a i j) b n = ap a b n - 1 ∧ (∀ m, i < m → m < n → a m < a i) ∧ (∀ m, m < j → a j < a m) := by
 have hlt : ∃ k, k < n ∧ a k < b k := by
   by_cases hx : ∃ k, k < n ∧ a k < b k
   · exact hx
   · have hge : ∀ m, m < n → b m ≤ a m := fun m hm => by
       by_cases e : a m < b m
       · exact absurd ⟨m, hm, e⟩ hx
       · omega
     obtain ⟨k, hk, hk2⟩ := hne
     have := Z5B (i := k) n hk hge
     have := hge k hk
     have := h.eq
     omega
 obtain ⟨j, hj, hjl, hjf⟩ := Ztt n hlt
 have hgt : ∃ k, k < j ∧ b k < a k := by
   by_cases hx : ∃ k, k < j ∧ b k < a k
   · exact hx
   · have hle : ∀ m, m < j → a m ≤ b m := fun m hm => by
       by_cases e : b m < a m
       · exact absurd ⟨m, hm, e⟩ hx
       · omega
     have := ZEH (a := b) (b := a) j hle
     have := h.le (j + 1) (by omega)
     simp only [ps] at this
     omega
 obtain ⟨i, hi, hig, hil⟩ := Zwk j hgt
 have mid : ∀ m, i < m → m < j → a m = b m := fun m h1 h2 => by
   have := hil m h1 h2
   have := hjf m h2
   omega
 have before : ∀ m, m < j → b m ≤ a m := fun m hm => by have := hjf m hm; omega
 have bij : b j ≤ b i := Z1S hb (by omega) hj
 have h2 : a i - a j ≥ 2 := by omega
 have li : ∀ m, i < m → m < n → a m < a i := fun m h1 hm => by
   by_cases e : m < j
   · have := mid m h1 e
     have := Z1S hb (show i ≤ m by omega) hm
     omega
   · have := Z1S ha (show j ≤ m by omega) hm
     omega
 have fj : ∀ m, m < j → a j < a m := fun m hm => by
   by_cases e : i < m
   · have := mid m e hm
     have := Z1S hb (show m ≤ j by omega) hj
     omega
   · have := Z1S ha (show m ≤ i by omega) (by omega)
     omega
 refine ⟨i, j, hi, hj, h2, ?_, ?_, ?_, li, fj⟩
 · intro m hm
   have d := ha m hm
   simp only [mvF]
   by_cases e1 : m + 1 = i
   · rw [if_pos e1, if_neg (by omega), if_neg (by omega)]; omega
   · rw [if_neg e1]
     by_cases e2 : m + 1 = j
     · rw [if_pos e2]
       have := fj m (by omega)
       subst e2
       by_cases e3 : m = i
       · subst e3; rw [if_pos rfl]; omega
       · rw [if_neg e3, if_neg (by omega)]; omega
     · rw [if_neg e2]
       by_cases e3 : m = i
       · subst e3; rw [if_pos rfl]
         have := li (m + 1) (by omega) hm
         omega
       · rw [if_neg e3]
         by_cases e4 : m = j
         · rw [if_pos e4]; omega
         · rw [if_neg e4]; exact d
 · refine ⟨?_, fun k hk => ?_⟩
   · rw [ZbG hi, if_neg (by omega)]; have := h.eq; omega
   · rw [ZbG hi]
     have := h.le k hk
     split
     · rename_i hc
       have := Z5B (a := a) (b := b) (i := i) k (by omega) fun m hm => before m (by omega)
       omega
     · omega
 · have key : ∀ k, k ≤ n → ap (mvF a i j) b k = ap a b k - (if i < k then 1 else 0) := by
     intro k
     induction k with
     | zero => intro _; simp [ap, ps]
     | succ k ih =>
       intro hk
       have ih := ih (by omega)
       simp only [ap, ps] at ih ⊢
       rw [ih]
       have e : mvF a i j k = (if k = i then a k - 1 else if k = j then a k + 1 else a k) := rfl
       rw [e]
       by_cases e1 : k = i
       · subst e1; rw [if_pos rfl, if_neg (by omega), if_pos (by omega)]; omega
       · rw [if_neg e1]
         by_cases e2 : k = j
         · subst e2; rw [if_pos rfl, if_pos (by omega), if_pos (by omega)]; omega
         · rw [if_neg e2]
           by_cases e3 : i < k
           · rw [if_pos e3, if_pos (by omega)]; omega
           · rw [if_neg e3, if_neg (by omega)]; omega
   have := key n (Nat.le_refl _)
   rwa [if_pos (by omega)] at this
theorem Z61 (a b : Nat → Int) : ∀ n, 0 ≤ ap a b n
 | 0 => by simp [ap, ps]
 | n + 1 => by
   have := Z61 a b n
   simp only [ap, ps] at *; omega
theorem Z2E {a b : Nat → Int} : ∀ n, ap a b n = 0 ↔ ∀ k, k < n → a k ≤ b k
 | 0 => by simp [ap, ps]
 | n + 1 => by
   have ih := Z2E (a := a) (b := b) n
   have := Z61 a b n
   simp only [ap, ps] at *
   constructor
   · intro h k hk
     by_cases e : k = n
     · subst e; omega
     · exact ih.1 (by omega) k (by omega)
   · intro h
     have := ih.2 fun k hk => h k (by omega)
     have := h n (by omega)
     omega
theorem ZrI {a b : Nat → Int} {n : Nat} (h : ∀ k, k < n → a k ≤ b k) (he : ps a n = ps b n) : ∀ k, k < n → a k = b k := fun k hk => by
 have := Z5B (a := b) (b := a) (i := k) n hk h
 have := h k hk
 omega
end Go.AM.Rub
end
noncomputable section
namespace Go.AM.Rub
def IsRow : Int → List Int → Prop
 | _, [] => True
 | m, x :: l => 0 ≤ x ∧ x ≤ m ∧ IsRow x l
def totL : List Int → Int
 | [] => 0
 | x :: l => x + totL l
def dnN : Nat → List Int
 | 0 => [0]
 | n + 1 => ((n + 1 : Nat) : Int) :: dnN n
def dn (k : Int) : List Int := if k < 0 then [] else dnN k.toNat
theorem ZuM : ∀ (n : Nat) (x : Int), x ∈ dnN n ↔ 0 ≤ x ∧ x ≤ n
 | 0, x => by simp [dnN]; omega
 | n + 1, x => by
   simp only [dnN, List.mem_cons, ZuM n x]
   omega
theorem Z95 (k x : Int) : x ∈ dn k ↔ 0 ≤ x ∧ x ≤ k := by
 unfold dn
 split
 · simp; omega
 · rw [ZuM]; omega
theorem ZbT : ∀ n, (dnN n).length = n + 1
 | 0 => rfl
 | n + 1 => by simp [dnN, ZbT n]
def rowsL : Nat → Int → Int → List (List Int)
 | 0, s, _ => if s = 0 then [[]] else []
 | n + 1, s, m => (dn (min m s)).flatMap fun t => (rowsL n (s - t) t).map (t :: ·)
theorem Z8x : ∀ {m : Int} {l : List Int}, IsRow m l → 0 ≤ totL l
 | _, [], _ => by simp [totL]
 | m, x :: l, ⟨h1, h2, h3⟩ => by have := Z8x h3; simp only [totL]; omega
theorem Z3i : ∀ (n : Nat) (s m : Int) (l : List Int), l ∈ rowsL n s m ↔ l.length = n ∧ totL l = s ∧ IsRow m l
 | 0, s, m, l => by
   simp only [rowsL]
   constructor
   · intro h
     split at h
     · rename_i hs
       have h : l = [] := by simpa using h
       subst h; exact ⟨rfl, by simp [totL, hs], trivial⟩
     · simp at h
   · rintro ⟨h1, h2, h3⟩
     obtain rfl := List.length_eq_zero_iff.1 h1
     simp only [totL] at h2
     rw [if_pos h2.symm]; simp
 | n + 1, s, m, l => by
   simp only [rowsL, List.mem_flatMap, List.mem_map, Z95]
   constructor
   · rintro ⟨t, ⟨t0, t1⟩, r, hr, rfl⟩
     obtain ⟨h1, h2, h3⟩ := (Z3i n (s - t) t r).1 hr
     exact ⟨by simp [h1], by simp only [totL]; omega, t0, by omega, h3⟩
   · rintro ⟨h1, h2, h3⟩
     match l, h1, h2, h3 with
     | x :: r, h1, h2, ⟨a, b, c⟩ =>
       have := Z8x c
       simp only [totL] at h2
       exact ⟨x, ⟨a, by omega⟩, r, (Z3i n (s - x) x r).2 ⟨by simpa using h1, by omega, c⟩, rfl⟩
theorem ZpV {β : Type} {f : Int → List β} {M : Nat} : ∀ {ts : List Int}, (∀ t ∈ ts, (f t).length ≤ M) → (ts.flatMap f).length ≤ ts.length * M
 | [], _ => by simp
 | t :: ts, h => by
   have := ZpV (f := f) (M := M) (ts := ts) fun u hu => h u (by simp [hu])
   have := h t (by simp)
   simp only [List.flatMap_cons, List.length_append, List.length_cons, Nat.add_mul, Nat.one_mul]
   omega
theorem Z4n : ∀ (n : Nat) (s m : Int), m ≤ 8 → (rowsL n s m).length ≤ 9 ^ n
 | 0, s, m, _ => by simp only [rowsL]; split <;> simp
 | n + 1, s, m, hm => by
   simp only [rowsL]
   refine Nat.le_trans (ZpV (M := 9 ^ n) fun t ht => ?_) ?_
   · rw [List.length_map]
     have := (Z95 _ _).1 ht
     exact Z4n n (s - t) t (by omega)
   · rw [Nat.pow_succ, Nat.mul_comm (9 ^ n)]
     refine Nat.mul_le_mul_right _ ?_
     unfold dn
     split
     · simp
     · rw [ZbT]; omega
def rowF (l : List Int) (i : Nat) : Int := l.getD i 0
theorem Z7N (x : Int) (l : List Int) : ∀ k, ps (rowF (x :: l)) (k + 1) = x + ps (rowF l) k
 | 0 => by simp [ps, rowF]
 | k + 1 => by rw [ps, Z7N x l k, ps]; simp [rowF]; omega
theorem Z5P : ∀ l : List Int, ps (rowF l) l.length = totL l
 | [] => rfl
 | x :: l => by rw [List.length_cons, Z7N, Z5P l]; rfl
theorem Z1i : ∀ {m : Int} {l : List Int}, IsRow m l → DescF (rowF l) l.length
 | _, [], _ => fun i hi => by simp at hi
 | m, x :: l, ⟨h1, h2, h3⟩ => fun i hi => by
   cases i with
   | zero =>
     cases l with
     | nil => simp at hi
     | cons y l => simp only [rowF]; simp; exact h3.2.1
   | succ i =>
     have := Z1i h3 i (by simpa using hi)
     simpa [rowF] using this
end Go.AM.Rub
end
noncomputable section
namespace Go.AM.Rub
noncomputable section
variable {α : Type}
def addN [DecidableEq α] (all : List α) : List α → List α
 | [] => all
 | l :: ls => if l ∈ all then addN all ls else addN (all ++ [l]) ls
theorem Z3c [DecidableEq α] : ∀ (ls all : List α), ∃ new, addN all ls = all ++ new ∧ (∀ l ∈ new, l ∈ ls ∧ l ∉ all) ∧ (all.Nodup → (all ++ new).Nodup) ∧ ∀ l ∈ ls, l ∈ all ++ new
 | [], all => ⟨[], by simp [addN], by simp, by simp, by simp⟩
 | l :: ls, all => by
   by_cases h : l ∈ all
   · obtain ⟨new, e, a, b, c⟩ := Z3c ls all
     refine ⟨new, by rw [addN, if_pos h, e], fun x hx => ⟨by simp [(a x hx).1], (a x hx).2⟩, b, fun x hx => ?_⟩
     rcases List.mem_cons.1 hx with rfl | hx
     · simp [h]
     · exact c x hx
   · obtain ⟨new, e, a, b, c⟩ := Z3c ls (all ++ [l])
     refine ⟨l :: new, by rw [addN, if_neg h, e]; simp, fun x hx => ?_, fun hn => ?_, fun x hx => ?_⟩
     · rcases List.mem_cons.1 hx with rfl | hx
       · exact ⟨by simp, h⟩
       · obtain ⟨p, q⟩ := a x hx
         exact ⟨by simp [p], fun hm => q (by simp [hm])⟩
     · have : (all ++ [l]).Nodup := by
         rw [List.nodup_append]
         refine ⟨hn, by simp, fun x hx y hy => ?_⟩
         intro e
         simp at hy
         rw [e, hy] at hx
         exact h hx
       have := b this
       simpa using this
     · rcases List.mem_cons.1 hx with rfl | hx
       · simp
       · have := c x hx; simpa using this
structure Lev (S : α → Prop) (nb : α → List α) (D : α → Nat) (row : α) : Prop where
 s0 : S row
 d0 : D row = 0
 one : ∀ y, S y → D y = 0 → y = row
 fw : ∀ x, S x → ∀ y ∈ nb x, S y ∧ D y ≤ D x + 1
 bw : ∀ y, S y → ∀ d, D y = d + 1 → ∃ x, S x ∧ D x = d ∧ y ∈ nb x
structure BInv (S : α → Prop) (nb : α → List α) (D : α → Nat) (row : α) (all : List α) (i : Nat) : Prop where
 nd : all.Nodup
 sub : ∀ x ∈ all, S x
 hd : all[0]? = some row
 srt : ∀ (k m : Nat) (x y : α), k ≤ m → all[k]? = some x → all[m]? = some y → D x ≤ D y
 pr : ∀ (k : Nat) (x : α), k < i → all[k]? = some x → ∀ y ∈ nb x, y ∈ all
 cmp : ∀ x : α, all[i]? = some x → (∀ y, S y → D y ≤ D x → y ∈ all) ∧ ∀ y ∈ all, D y ≤ D x + 1
 le : i ≤ all.length
variable {S : α → Prop} {nb : α → List α} {D : α → Nat} {row : α}
theorem ZK8 (h : Lev S nb D row) : BInv S nb D row [row] 0 := by
 refine ⟨by simp, fun x hx => by simp at hx; subst hx; exact h.s0, rfl, fun k m x y hkm hx hy => ?_, fun k x hk => by omega, fun x hx => ?_, by simp⟩
 · have : m = 0 := by have := (List.getElem?_eq_some_iff.1 hy).1; simp at this; omega
   have : k = 0 := by omega
   subst_vars
   rw [hx] at hy; simp at hy; subst hy; exact Nat.le_refl _
 · simp at hx; subst hx
   refine ⟨fun y hy hd => ?_, fun y hy => ?_⟩
   · have := h.one y hy (by have := h.d0; omega)
     simp [this]
   · simp at hy; subst hy; omega
theorem Zrr [DecidableEq α] (h : Lev S nb D row) {all : List α} {i : Nat} (hi : BInv S nb D row all i) {x : α} (hx : all[i]? = some x) :
   BInv S nb D row (addN all (nb x)) (i + 1) ∧ ∀ new, addN all (nb x) = all ++ new → ∀ l ∈ new, D l = D x + 1 := by
 obtain ⟨nd, sub, hd, srt, pr, cmp, le⟩ := hi
 obtain ⟨c1, c2⟩ := cmp x hx
 obtain ⟨new, e, a, b, c⟩ := Z3c (nb x) all
 have sx := sub x (List.mem_of_getElem? hx)
 have hnew : ∀ l ∈ new, D l = D x + 1 := by
   intro l hl
   obtain ⟨p, q⟩ := a l hl
   obtain ⟨s1, s2⟩ := h.fw x sx l p
   by_cases e : D l ≤ D x
   · exact absurd (c1 l s1 e) q
   · omega
 refine ⟨?_, fun new' e' => ?_⟩
 · rw [e]
   have hlt := (List.getElem?_eq_some_iff.1 hx).1
   have old : ∀ (k : Nat) (y : α), k < all.length → (all ++ new)[k]? = some y → all[k]? = some y := fun k y hk hy => by rwa [List.getElem?_append_left hk] at hy
   have new' : ∀ (k : Nat) (y : α), all.length ≤ k → (all ++ new)[k]? = some y → y ∈ new := fun k y hk hy => by
     rw [List.getElem?_append_right hk] at hy; exact List.mem_of_getElem? hy
   have hsub : ∀ y ∈ all ++ new, S y := fun y hy => by
     rcases List.mem_append.1 hy with hy | hy
     · exact sub y hy
     · exact (h.fw x sx y (a y hy).1).1
   have hsrt : ∀ (k m : Nat) (y z : α), k ≤ m → (all ++ new)[k]? = some y → (all ++ new)[m]? = some z → D y ≤ D z := by
     intro k m y z hkm hy hz
     by_cases h1 : m < all.length
     · exact srt k m y z hkm (old k y (by omega) hy) (old m z h1 hz)
     · have dz := hnew z (new' m z (by omega) hz)
       by_cases h2 : k < all.length
       · have := c2 y (List.mem_of_getElem? (old k y h2 hy)); omega
       · have := hnew y (new' k y (by omega) hy); omega
   have hpr : ∀ (k : Nat) (y : α), k < i + 1 → (all ++ new)[k]? = some y → ∀ z ∈ nb y, z ∈ all ++ new := by
     intro k y hk hy z hz
     by_cases e : k = i
     · subst e
       have := old k y hlt hy
       rw [hx] at this; obtain rfl := Option.some.inj this
       exact c z hz
     · exact List.mem_append.2 (.inl (pr k y (by omega) (old k y (by omega) hy) z hz))
   refine ⟨b nd, hsub, by rw [List.getElem?_append_left (by omega)]; exact hd, hsrt, hpr, fun y hy => ?_, by simp; omega⟩
   have hxx : (all ++ new)[i]? = some x := by rw [List.getElem?_append_left hlt]; exact hx
   have dxy := hsrt i (i + 1) x y (by omega) hxx hy
   have dy : D y = D x ∨ D y = D x + 1 := by
     by_cases h1 : i + 1 < all.length
     · have := c2 y (List.mem_of_getElem? (old _ y h1 hy)); omega
     · have := hnew y (new' _ y (by omega) hy); omega
   refine ⟨fun z hz hdz => ?_, fun z hz => ?_⟩
   · by_cases h1 : D z ≤ D x
     · exact List.mem_append.2 (.inl (c1 z hz h1))
     · -- one level on: the step before it has been seen
       obtain ⟨w, sw, dw, hw⟩ := h.bw z hz (D x) (by omega)
       have hwm := c1 w sw (by omega)
       obtain ⟨k, hk⟩ := List.mem_iff_getElem?.1 hwm
       by_cases h2 : k < i + 1
       · exact hpr k w h2 (by rw [List.getElem?_append_left (List.getElem?_eq_some_iff.1 hk).1]; exact hk) z hw
       · have h3 := hsrt (i + 1) k y w (by omega) hy (by rw [List.getElem?_append_left (List.getElem?_eq_some_iff.1 hk).1]; exact hk)
         omega
   · rcases List.mem_append.1 hz with hz | hz
     · have := c2 z hz; omega
     · have := hnew z hz; omega
 · have : new' = new := List.append_cancel_left (e'.symm.trans e)
   subst this; exact hnew
theorem ZZq (h : Lev S nb D row) {all : List α} (hi : BInv S nb D row all all.length) : ∀ d y, S y → D y = d → y ∈ all := by
 intro d
 induction d with
 | zero => intro y hy hd; rw [h.one y hy hd]; exact List.mem_of_getElem? hi.hd
 | succ d ih =>
   intro y hy hd
   obtain ⟨x, sx, dx, hx⟩ := h.bw y hy d hd
   obtain ⟨k, hk⟩ := List.mem_iff_getElem?.1 (ih x sx dx)
   exact hi.pr k x (List.getElem?_eq_some_iff.1 hk).1 hk y hx
theorem Z0aH (h : Lev S nb D row) {all : List α} (hi : BInv S nb D row all all.length) (y : α) : y ∈ all ↔ S y := ⟨hi.sub y, fun hy => ZZq h hi _ y hy rfl⟩
theorem Zid [DecidableEq α] : ∀ (l u : List α), l.Nodup → (∀ x ∈ l, x ∈ u) → l.length ≤ u.length
 | [], u, _, _ => by simp
 | x :: l, u, hn, hs => by
   have hx := hs x (by simp)
   have hn' := List.nodup_cons.1 hn
   have : l.length ≤ (u.erase x).length := Zid l (u.erase x) hn'.2 fun y hy => by
     have hne : y ≠ x := fun e => hn'.1 (e ▸ hy)
     rw [List.mem_erase_of_ne hne]
     exact hs y (by simp [hy])
   have hl := List.length_erase_of_mem hx
   have : 0 < u.length := List.length_pos_of_mem hx
   simp only [List.length_cons]
   omega
end
end Go.AM.Rub
end
noncomputable section
namespace Go.AM.Rub
theorem Z91 : ∀ {m : Int} {l : List Int}, (∀ i, i < l.length → 0 ≤ rowF l i) → (0 < l.length → rowF l 0 ≤ m) → DescF (rowF l) l.length → IsRow m l
 | _, [], _, _, _ => trivial
 | m, x :: l, h1, h2, h3 => by
   refine ⟨h1 0 (by simp), h2 (by simp), Z91 (fun i hi => ?_) (fun hl => ?_) (fun i hi => ?_)⟩
   · have := h1 (i + 1) (by simpa using hi); simpa [rowF] using this
   · have := h3 0 (by simpa using hl); simpa [rowF] using this
   · have := h3 (i + 1) (by simpa using hi); simpa [rowF] using this
theorem Z1G : ∀ {m : Int} {l : List Int}, IsRow m l → ∀ i, i < l.length → 0 ≤ rowF l i ∧ rowF l i ≤ m
 | _, [], _, i, hi => by simp at hi
 | m, x :: l, ⟨h1, h2, h3⟩, i, hi => by
   cases i with
   | zero => simp only [rowF]; simp; exact ⟨h1, h2⟩
   | succ i =>
     have := Z1G h3 i (by simpa using hi)
     have e : rowF (x :: l) (i + 1) = rowF l i := by simp [rowF]
     rw [e]; omega
theorem Z8d {a b : List Int} (hl : a.length = b.length) (h : ∀ i, i < a.length → rowF a i = rowF b i) : a = b := by
 apply List.ext_getElem hl
 intro i h1 h2
 have := h i h1
 simpa [rowF, h1, h2] using this
def mvL (l : List Int) (i j : Nat) : List Int := (l.set i (rowF l i - 1)).set j (rowF l j + 1)
theorem Z09 (l : List Int) (i j : Nat) : (mvL l i j).length = l.length := by simp [mvL]
theorem Z1x {l : List Int} {i j : Nat} (hij : i < j) (hj : j < l.length) (m : Nat) : rowF (mvL l i j) m = mvF (rowF l) i j m := by
 simp only [mvL, mvF]
 have e : ∀ (l : List Int) (k m : Nat) (v : Int), k < l.length → rowF (l.set k v) m = if m = k then v else rowF l m := by
   intro l k m v hk
   simp only [rowF, List.getD_eq_getElem?_getD, List.getElem?_set]
   by_cases h : k = m
   · subst h; simp [hk]
   · rw [if_neg h, if_neg (by omega)]
 rw [e _ _ _ _ (by simp; omega), e _ _ _ _ (by omega)]
 by_cases h1 : m = j
 · rw [if_pos h1, if_neg (by omega), if_pos h1, h1]
 · rw [if_neg h1, if_neg h1]
   by_cases h2 : m = i
   · rw [if_pos h2, if_pos h2, h2]
   · rw [if_neg h2, if_neg h2]
def lastEq (l : List Int) : Nat → Nat → Nat
 | i, 0 => i
 | i, m + 1 => if i + 1 < l.length ∧ rowF l (i + 1) = rowF l i then lastEq l (i + 1) m else i
def firstEq (l : List Int) : Nat → Nat
 | 0 => 0
 | j + 1 => if rowF l j = rowF l (j + 1) then firstEq l j else j + 1
theorem Z2M {l : List Int} (hd : DescF (rowF l) l.length) : ∀ (m i : Nat), i + m + 1 ≥ l.length → i < l.length → i ≤ lastEq l i m ∧ lastEq l i m < l.length ∧ rowF l (lastEq l i m) = rowF l i ∧ ∀ k, lastEq l i m < k → k < l.length → rowF l k < rowF l i
 | 0, i, h1, h2 => ⟨Nat.le_refl _, h2, rfl, fun k hk hk2 => by simp only [lastEq] at hk; omega⟩
 | m + 1, i, h1, h2 => by
   simp only [lastEq]
   by_cases h : i + 1 < l.length ∧ rowF l (i + 1) = rowF l i
   · rw [if_pos h]
     obtain ⟨a, b, c, d⟩ := Z2M hd m (i + 1) (by omega) h.1
     exact ⟨by omega, b, by rw [c, h.2], fun k hk hk2 => by rw [← h.2]; exact d k hk hk2⟩
   · rw [if_neg h]
     refine ⟨Nat.le_refl _, h2, rfl, fun k hk hk2 => ?_⟩
     have h3 : ¬ rowF l (i + 1) = rowF l i := fun e => h ⟨by omega, e⟩
     have h4 := hd i (by omega)
     have h5 := Z1S hd (show i + 1 ≤ k by omega) hk2
     omega
theorem Z2z {l : List Int} (hd : DescF (rowF l) l.length) : ∀ j, j < l.length → firstEq l j ≤ j ∧ rowF l (firstEq l j) = rowF l j ∧ ∀ k, k < firstEq l j → rowF l j < rowF l k
 | 0, _ => ⟨Nat.le_refl _, rfl, fun k hk => by simp only [firstEq] at hk; omega⟩
 | j + 1, hj => by
   simp only [firstEq]
   by_cases h : rowF l j = rowF l (j + 1)
   · rw [if_pos h]
     obtain ⟨a, b, c⟩ := Z2z hd j (by omega)
     exact ⟨by omega, by rw [b, h], fun k hk => by rw [← h]; exact c k hk⟩
   · rw [if_neg h]
     refine ⟨Nat.le_refl _, rfl, fun k hk => ?_⟩
     have h4 := hd j hj
     have h5 := Z1S hd (show k ≤ j by omega) (by omega)
     omega
def rubL (l : List Int) (i j : Nat) : List Int := mvL l (lastEq l i l.length) (firstEq l j)
structure Rw (n : Nat) (l : List Int) : Prop where
 len : l.length = n
 row : IsRow 8 l
theorem ZHe {n : Nat} {l : List Int} (h : Rw n l) {i j : Nat} (hij : i < j) (hj : j < n) (h2 : rowF l i - rowF l j ≥ 2) (hd : DescF (mvF (rowF l) i j) n) : Rw n (mvL l i j) := by
 have hl := h.len
 refine ⟨by rw [Z09, hl], Z91 (fun k hk => ?_) (fun hk => ?_) (fun k hk => ?_)⟩
 · rw [Z09] at hk
   rw [Z1x hij (by omega)]
   have a := Z1G h.row k hk
   have b := Z1G h.row j (by omega)
   simp only [mvF]
   by_cases e1 : k = i
   · rw [if_pos e1, e1]; omega
   · rw [if_neg e1]; split <;> omega
 · rw [Z1x hij (by omega)]
   have a := Z1G h.row 0 (by omega)
   have b := Z1G h.row i (by omega)
   simp only [mvF]
   by_cases e1 : 0 = i
   · rw [if_pos e1]; omega
   · rw [if_neg e1, if_neg (by omega)]; omega
 · rw [Z09, hl] at hk
   rw [Z1x hij (by omega), Z1x hij (by omega)]
   exact hd k hk
structure Rb (n : Nat) (l : List Int) (i j : Nat) : Prop where
 lt : i < j
 lj : j < n
 df : rowF l i - rowF l j ≥ 2
theorem Z5o {n : Nat} {l : List Int} (h : Rw n l) {i j : Nat} (r : Rb n l i j) : Rb n l (lastEq l i l.length) (firstEq l j) ∧ DescF (mvF (rowF l) (lastEq l i l.length) (firstEq l j)) n := by
 have hl := h.len
 have hd := Z1i h.row
 obtain ⟨a1, a2, a3, a4⟩ := Z2M hd l.length i (by omega) (by have := r.lt; have := r.lj; omega)
 obtain ⟨b1, b2, b3⟩ := Z2z hd j (by have := r.lj; omega)
 have rd := r.df
 have rj := r.lj
 have hij : lastEq l i l.length < firstEq l j := by
   by_cases e : lastEq l i l.length < firstEq l j
   · exact e
   · have := Z1S hd (show firstEq l j ≤ lastEq l i l.length by omega) a2
     omega
 refine ⟨⟨hij, by omega, by omega⟩, fun m hm => ?_⟩
 have dm := hd m (by omega)
 simp only [mvF]
 generalize lastEq l i l.length = i' at *
 generalize firstEq l j = j' at *
 by_cases e1 : m + 1 = i'
 · rw [if_pos e1, if_neg (by omega), if_neg (by omega)]; omega
 · rw [if_neg e1]
   by_cases e2 : m + 1 = j'
   · rw [if_pos e2]
     have := b3 m (by omega)
     by_cases e3 : m = i'
     · rw [if_pos e3, e2, e3]; omega
     · rw [if_neg e3, if_neg (by omega), e2]; omega
   · rw [if_neg e2]
     by_cases e3 : m = i'
     · rw [if_pos e3]
       have := a4 (m + 1) (by omega) (by omega)
       rw [e3] at this ⊢; omega
     · rw [if_neg e3]
       by_cases e4 : m = j'
       · rw [if_pos e4]; omega
       · rw [if_neg e4]; exact dm
theorem Z5f {n : Nat} {l : List Int} (h : Rw n l) {i j : Nat} (r : Rb n l i j) : Rw n (rubL l i j) ∧ ∃ i' j', Rb n l i' j' ∧ rubL l i j = mvL l i' j' := by
 obtain ⟨a, b⟩ := Z5o h r
 exact ⟨ZHe h a.lt a.lj a.df b, _, _, a, rfl⟩
theorem Z6K {a b : Nat → Int} : ∀ n, ap a b n - ap b a n = ps a n - ps b n
 | 0 => by simp [ap, ps]
 | n + 1 => by
   have := Z6K (a := a) (b := b) n
   simp only [ap, ps] at *; omega
theorem Zg6 {a a' b b' : Nat → Int} {n : Nat} (ha : ∀ i, i < n → a i = a' i) (hb : ∀ i, i < n → b i = b' i) (h : Maj a b n) : Maj a' b' n := by
 refine ⟨?_, fun k hk => ?_⟩
 · rw [← Z1j n ha, ← Z1j n hb]; exact h.eq
 · rw [← Z1j k fun i hi => ha i (by omega), ← Z1j k fun i hi => hb i (by omega)]; exact h.le k hk
theorem Z8T {a a' b b' : Nat → Int} {n : Nat} (ha : ∀ i, i < n → a i = a' i) (hb : ∀ i, i < n → b i = b' i) : ap a b n = ap a' b' n :=
 Z1j n fun i hi => by rw [ha i hi, hb i hi]
def MajL (a b : List Int) : Prop := Maj (rowF a) (rowF b) a.length
def apL (a b : List Int) : Nat := (ap (rowF a) (rowF b) a.length).toNat
theorem Z0L (a b : List Int) : (apL a b : Int) = ap (rowF a) (rowF b) a.length := by
 have := Z61 (rowF a) (rowF b) a.length
 unfold apL; omega
theorem Z5l {a b c : List Int} (hl : a.length = b.length) (h1 : MajL a b) (h2 : MajL b c) : MajL a c := by
 unfold MajL at *
 rw [← hl] at h2
 exact h1.trans h2
theorem Ze7 {n : Nat} {l : List Int} (h : Rw n l) {i j : Nat} (r : Rb n l i j) : MajL l (mvL l i j) := by
 have hl := h.len
 exact Zg6 (fun _ _ => rfl) (fun k _ => (Z1x r.lt (by have := r.lj; omega) k).symm) (Z0gt r.lt (by have := r.lj; omega))
theorem ZDm {n : Nat} {a l : List Int} (ha : a.length = n) (h : Rw n l) (hm : MajL a l) {i j : Nat} (r : Rb n l i j) : apL a (mvL l i j) ≤ apL a l + 1 ∧ apL a l ≤ apL a (mvL l i j) + 1 := by
 have hl := h.len
 have hj : j < l.length := by have := r.lj; omega
 have c1 := Z0L a l
 have c2 := Z0L a (mvL l i j)
 have m2 := Z5l (by omega) hm (Ze7 h r)
 have s1 := Z6K (a := rowF a) (b := rowF l) a.length
 have s2 := Z6K (a := rowF a) (b := rowF (mvL l i j)) a.length
 have e1 := hm.eq
 have e2 := m2.eq
 have e3 : ap (rowF (mvL l i j)) (rowF a) a.length = ap (mvF (rowF l) i j) (rowF a) a.length := Z8T (fun k _ => Z1x r.lt hj k) (fun _ _ => rfl)
 obtain ⟨x1, _, x2⟩ := Z8H (a := rowF l) (b := rowF a) r.lt a.length
 omega
theorem ZhL {n : Nat} {a b : List Int} (ha : Rw n a) (hb : Rw n b) (h : MajL a b) (hne : a ≠ b) :
   ∃ i j, Rb n a i j ∧ Rw n (mvL a i j) ∧ MajL (mvL a i j) b ∧ apL a b = apL (mvL a i j) b + 1 ∧ rubL a i j = mvL a i j := by
 have la := ha.len
 have lb := hb.len
 have hx : ∃ k, k < n ∧ rowF a k ≠ rowF b k := by
   by_cases e : ∃ k, k < n ∧ rowF a k ≠ rowF b k
   · exact e
   · refine absurd (Z8d (by omega) fun i hi => ?_) hne
     by_cases e2 : rowF a i = rowF b i
     · exact e2
     · exact absurd ⟨i, by omega, e2⟩ e
 have da := Z1i ha.row
 have db := Z1i hb.row
 unfold MajL at h
 rw [la] at da h
 rw [lb] at db
 obtain ⟨i, j, h1, h2, h3, h4, h5, h6, h7, h8⟩ := ZVY da db h hx
 have r : Rb n a i j := ⟨h1, h2, h3⟩
 have hj : j < a.length := by omega
 refine ⟨i, j, r, ZHe ha h1 h2 h3 h4, ?_, ?_, ?_⟩
 · unfold MajL
   rw [Z09, la]
   exact Zg6 (fun k _ => (Z1x h1 hj k).symm) (fun _ _ => rfl) h5
 · have c1 := Z0L a b
   have c2 := Z0L (mvL a i j) b
   rw [Z09] at c2
   have e : ap (rowF (mvL a i j)) (rowF b) a.length = ap (mvF (rowF a) i j) (rowF b) n := by rw [la]; exact Z8T (fun k _ => Z1x h1 hj k) (fun _ _ => rfl)
   rw [la] at c1 c2 e
   omega
 · obtain ⟨a1, a2, a3, a4⟩ := Z2M (Z1i ha.row) a.length i (by omega) (by omega)
   obtain ⟨b1, b2, b3⟩ := Z2z (Z1i ha.row) j (by omega)
   have e1 : lastEq a i a.length = i := by
     by_cases e : lastEq a i a.length = i
     · exact e
     · have := h7 (lastEq a i a.length) (by omega) (by omega); omega
   have e2 : firstEq a j = j := by
     by_cases e : firstEq a j = j
     · exact e
     · have := h8 (firstEq a j) (by omega); omega
   rw [rubL, e1, e2]
theorem ZKG {n : Nat} {b : List Int} (hb : Rw n b) : ∀ (d : Nat) (a : List Int), Rw n a → MajL a b → apL a b = d + 1 → ∃ x, Rw n x ∧ MajL a x ∧ apL a x = d ∧ ∃ i j, Rb n x i j ∧ rubL x i j = b := by
 intro d
 induction d with
 | zero =>
   intro a ha h hd
   have hne : a ≠ b := fun e => by
     subst e
     have := (Z2E (a := rowF a) (b := rowF a) a.length).2 fun k _ => Int.le_refl _
     unfold apL at hd; omega
   obtain ⟨i, j, r, h1, h2, h3, h4⟩ := ZhL ha hb h hne
   refine ⟨a, ha, Maj.refl _ _, ?_, i, j, r, ?_⟩
   · have := (Z2E (a := rowF a) (b := rowF a) a.length).2 fun k _ => Int.le_refl _
     unfold apL; omega
   · rw [h4]
     have c := Z0L (mvL a i j) b
     have z := (Z2E (a := rowF (mvL a i j)) (b := rowF b) (mvL a i j).length).1 (by omega)
     exact Z8d (by rw [h1.len, hb.len]) (ZrI z h2.eq)
 | succ d ih =>
   intro a ha h hd
   have hne : a ≠ b := fun e => by
     subst e
     have := (Z2E (a := rowF a) (b := rowF a) a.length).2 fun k _ => Int.le_refl _
     unfold apL at hd; omega
   obtain ⟨i, j, r, h1, h2, h3, h4⟩ := ZhL ha hb h hne
   obtain ⟨x, x1, x2, x3, i', j', x4, x5⟩ := ih (mvL a i j) h1 h2 (by omega)
   have ax := Z5l (by rw [Z09]) (Ze7 ha r) x2
   refine ⟨x, x1, ax, ?_, i', j', x4, x5⟩
   have la := ha.len
   have up : apL a x ≤ apL (mvL a i j) x + 1 := by
     have c1 := Z0L a x
     have c2 := Z0L (mvL a i j) x
     rw [Z09] at c2
     have e : ap (rowF (mvL a i j)) (rowF x) a.length = ap (mvF (rowF a) i j) (rowF x) a.length := Z8T (fun k _ => Z1x r.lt (by have := r.lj; omega) k) (fun _ _ => rfl)
     obtain ⟨y1, _, _⟩ := Z8H (a := rowF a) (b := rowF x) r.lt a.length
     omega
   obtain ⟨p, q⟩ := Z5o x1 x4
   have := (ZDm la x1 ax p).1
   rw [show mvL x (lastEq x i' x.length) (firstEq x j') = b from x5] at this
   omega
theorem Z0aP {n : Nat} {a : List Int} (ha : Rw n a) (nb : List Int → List (List Int)) (hnb : ∀ x, Rw n x → ∀ y, y ∈ nb x ↔ ∃ i j, Rb n x i j ∧ y = rubL x i j) :
   Lev (fun b => Rw n b ∧ MajL a b) nb (apL a) a := by
 have la := ha.len
 refine ⟨⟨ha, Maj.refl _ _⟩, ?_, fun y hy h0 => ?_, fun x hx y hy => ?_, fun y hy d hd => ?_⟩
 · have := (Z2E (a := rowF a) (b := rowF a) a.length).2 fun k _ => Int.le_refl _
   unfold apL; omega
 · have c := Z0L a y
   have z := (Z2E (a := rowF a) (b := rowF y) a.length).1 (by omega)
   exact (Z8d (by rw [la, hy.1.len]) (ZrI z hy.2.eq)).symm
 · obtain ⟨i, j, r, rfl⟩ := (hnb x hx.1 y).1 hy
   obtain ⟨p, q⟩ := Z5o hx.1 r
   refine ⟨⟨(Z5f hx.1 r).1, Z5l (by rw [la, hx.1.len]) hx.2 (Ze7 hx.1 p)⟩, (ZDm la hx.1 hx.2 p).1⟩
 · obtain ⟨x, x1, x2, x3, i, j, r, e⟩ := ZKG hy.1 d a ha hy.2 hd
   exact ⟨x, ⟨x1, x2⟩, x3, (hnb x x1 y).2 ⟨i, j, r, e.symm⟩⟩
end Go.AM.Rub
end
noncomputable section
namespace Go.AM.Rub
def swpI (l : List Int) (j : Nat) : List Int := (l.set (j + 1) (l.getD j 0)).set j (l.getD (j + 1) 0)
def insI (l : List Int) : Nat → List Int
 | 0 => l
 | j + 1 => if l.getD (j + 1) 0 > l.getD j 0 then insI (swpI l j) j else l
def srtN (l : List Int) : Nat → List Int
 | 0 => l
 | i + 1 => insI (srtN l i) (i + 1)
def srtI (l : List Int) : List Int := srtN l (l.length - 1)
theorem Z2X (l : List Int) (j : Nat) : (swpI l j).length = l.length := by simp [swpI]
theorem Z8q : ∀ (j : Nat) (l : List Int), (insI l j).length = l.length
 | 0, l => rfl
 | j + 1, l => by
   rw [insI]
   split
   · rw [Z8q j, Z2X]
   · rfl
theorem Z2U (l : List Int) : ∀ i, (srtN l i).length = l.length
 | 0 => rfl
 | i + 1 => by rw [srtN, Z8q, Z2U l i]
theorem ZNt (x : Int) (l : List Int) (j : Nat) : swpI (x :: l) (j + 1) = x :: swpI l j := by simp [swpI]
theorem ZoL : ∀ (p : List Int) (a b : Int) (r : List Int), swpI (p ++ a :: b :: r) p.length = p ++ b :: a :: r
 | [], a, b, r => by simp [swpI]
 | x :: p, a, b, r => by rw [List.cons_append, List.length_cons, ZNt, ZoL p a b r, List.cons_append]
theorem ZhH (p : List Int) (a : Int) (r : List Int) : (p ++ a :: r).getD p.length 0 = a := by simp
theorem Z9z : ∀ (n : Nat) (p : List Int) (x : Int) (r : List Int), p.length = n →
   ∃ a b, p = a ++ b ∧ insI (p ++ x :: r) p.length = a ++ x :: b ++ r ∧ (∀ t ∈ b, x > t) ∧ (∀ t q, a = q ++ [t] → ¬ x > t)
 | 0, p, x, r, hp => by
   obtain rfl := List.length_eq_zero_iff.1 hp
   exact ⟨[], [], rfl, by simp [insI], by simp, by simp⟩
 | n + 1, p, x, r, hp => by
   obtain ⟨q, y, rfl⟩ : ∃ q y, p = q ++ [y] := by
     rcases List.eq_nil_or_concat p with h | ⟨q, y, h⟩
     · rw [h] at hp; simp at hp
     · exact ⟨q, y, by simpa using h⟩
   have hq : q.length = n := by simpa using hp
   have e0 : (q ++ [y] ++ x :: r) = q ++ y :: x :: r := by simp
   have gx : (q ++ [y] ++ x :: r).getD (q.length + 1) 0 = x := by
     have := ZhH (q ++ [y]) x r
     rwa [show (q ++ [y]).length = q.length + 1 by simp] at this
   have gy : (q ++ [y] ++ x :: r).getD q.length 0 = y := by rw [e0]; exact ZhH q y _
   rw [show (q ++ [y]).length = q.length + 1 by simp, insI, gx, gy]
   by_cases h : x > y
   · obtain ⟨a, b, e1, e2, e3, e4⟩ := Z9z n q x (y :: r) hq
     refine ⟨a, b ++ [y], by rw [e1]; simp, ?_, ?_, e4⟩
     · rw [if_pos h, e0, ZoL, e2]; simp
     · intro t ht
       rcases List.mem_append.1 ht with ht | ht
       · exact e3 t ht
       · obtain rfl : t = y := by simpa using ht
         exact h
   · refine ⟨q ++ [y], [], by simp, by rw [if_neg h]; simp, by simp, ?_⟩
     intro t q' e
     have := List.append_inj_right' e rfl
     obtain rfl : y = t := by simpa using this
     exact h
def DescP (l : List Int) : Prop := l.Pairwise (fun t s => s ≤ t)
theorem ZK4 {a b : List Int} {x : Int} (h : DescP (a ++ b)) (h1 : ∀ t ∈ b, x > t) (h2 : ∀ t q, a = q ++ [t] → ¬ x > t) : DescP (a ++ x :: b) := by
 obtain ⟨ha, hb, hab⟩ := List.pairwise_append.1 h
 have hax : ∀ t ∈ a, x ≤ t := by
   rcases List.eq_nil_or_concat a with e | ⟨q, y, e⟩
   · subst e; simp
   · have e : a = q ++ [y] := by simpa using e
     have hy := h2 y q e
     intro t ht
     rw [e] at ht ha
     obtain ⟨_, _, hqy⟩ := List.pairwise_append.1 ha
     rcases List.mem_append.1 ht with ht | ht
     · have := hqy t ht y (by simp); omega
     · obtain rfl : t = y := by simpa using ht
       omega
 refine List.pairwise_append.2 ⟨ha, List.pairwise_cons.2 ⟨fun t ht => ?_, hb⟩, fun t ht s hs => ?_⟩
 · have := h1 t ht; omega
 · rcases List.mem_cons.1 hs with rfl | hs
   · exact hax t ht
   · exact hab t ht s hs
theorem Zbx (l : List Int) : ∀ i, i < l.length → ∃ p, p.length = i + 1 ∧ srtN l i = p ++ l.drop (i + 1) ∧ p.Perm (l.take (i + 1)) ∧ DescP p
 | 0, h => by
   match l, h with
   | a :: l, _ => exact ⟨[a], rfl, by simp [srtN], by simp, List.pairwise_singleton ..⟩
 | i + 1, h => by
   obtain ⟨p, e1, e2, e3, e4⟩ := Zbx l i (by omega)
   have hd : l.drop (i + 1) = l[i + 1] :: l.drop (i + 1 + 1) := List.drop_eq_getElem_cons h
   obtain ⟨a, b, f1, f2, f3, f4⟩ := Z9z p.length p l[i + 1] (l.drop (i + 1 + 1)) rfl
   refine ⟨a ++ l[i + 1] :: b, ?_, ?_, ?_, ?_⟩
   · have := congrArg List.length f1
     simp at this ⊢; omega
   · rw [e1] at f2
     rw [srtN, e2, hd, f2]
   · have ht : l.take (i + 1 + 1) = l.take (i + 1) ++ [l[i + 1]] := by rw [List.take_succ_eq_append_getElem h]
     rw [ht]
     refine List.perm_middle.trans ?_
     refine (List.Perm.cons _ (f1 ▸ e3 : (a ++ b).Perm (l.take (i + 1)))).trans ?_
     exact (List.perm_append_singleton _ _).symm
   · rw [f1] at e4
     exact ZK4 e4 f3 f4
theorem Zgr {l : List Int} (h : 0 < l.length) : (srtI l).Perm l ∧ DescP (srtI l) := by
 obtain ⟨p, e1, e2, e3, e4⟩ := Zbx l (l.length - 1) (by omega)
 have hd : l.drop (l.length - 1 + 1) = [] := List.drop_eq_nil_of_le (by omega)
 have ht : l.take (l.length - 1 + 1) = l := List.take_of_length_le (by omega)
 rw [hd, List.append_nil] at e2
 rw [ht] at e3
 unfold srtI
 rw [e2]
 exact ⟨e3, e4⟩
theorem Z8u : ∀ {a b : List Int}, DescP a → DescP b → a.Perm b → a = b
 | [], b, _, _, h => (List.Perm.nil_eq h)
 | x :: a, [], _, _, h => absurd (List.Perm.eq_nil h) (by simp)
 | x :: a, y :: b, ha, hb, h => by
   obtain ⟨ha1, ha2⟩ := List.pairwise_cons.1 ha
   obtain ⟨hb1, hb2⟩ := List.pairwise_cons.1 hb
   have hxy : x = y := by
     have h1 : x ∈ y :: b := h.mem_iff.1 (by simp)
     have h2 : y ∈ x :: a := h.mem_iff.2 (by simp)
     have l1 : x ≤ y := by
       rcases List.mem_cons.1 h1 with e | e
       · omega
       · exact hb1 x e
     have l2 : y ≤ x := by
       rcases List.mem_cons.1 h2 with e | e
       · omega
       · exact ha1 y e
     omega
   subst hxy
   rw [Z8u ha2 hb2 (List.Perm.cons_inv h)]
theorem Ziv : ∀ {m : Int} {l : List Int}, IsRow m l → DescP l
 | _, [], _ => List.Pairwise.nil
 | m, x :: l, ⟨h1, h2, h3⟩ => List.pairwise_cons.2 ⟨fun y hy => (row_memI h3 hy), Ziv h3⟩
where row_memI : ∀ {m : Int} {l : List Int} {y : Int}, IsRow m l → y ∈ l → y ≤ m
 | m, x :: l, y, ⟨h1, h2, h3⟩, hy => by
   rcases List.mem_cons.1 hy with rfl | hy
   · exact h2
   · have := row_memI h3 hy; omega
 | _, [], _, _, hy => by simp at hy
theorem Zgs : ∀ {m : Int} {l : List Int}, (∀ x ∈ l, 0 ≤ x ∧ x ≤ m) → DescP l → IsRow m l
 | _, [], _, _ => trivial
 | m, x :: l, h, hd => by
   obtain ⟨h1, h2⟩ := List.pairwise_cons.1 hd
   exact ⟨(h x (by simp)).1, (h x (by simp)).2, Zgs (fun y hy => ⟨(h y (by simp [hy])).1, h1 y hy⟩) h2⟩
end Go.AM.Rub
end
noncomputable section
namespace Go.AM.Ytfmnoohhhokicaa
open Go Go.AM Go.AM.Rub
def pF (d : Nat) : Callee := callF E fr fg 1000000 d
def kF (d : Nat) : Callee := frC fr (pF d)
theorem pF_s (d : Nat) : pF (d + 1) = bodyA E (kF d) fg 1000000 := nf
theorem Z15 {d : Nat} {f : FuncId} (hf : fr f = false) (args : List AV) (H : AHeap) (B : Nat) : kF (d + 1) f args H B = bodyA E (kF d) fg 1000000 f args H B := by
 unfold kF frC
 rw [hf]
 rfl
theorem Z1k {d : Nat} {f : FuncId} (hf : fr f = true) (args : List AV) (H : AHeap) (B : Nat) : kF d f args H B = focus (pF d) f args H B (mark H 1000 (refsL args) []).reverse := by
 unfold kF frC
 rw [hf]
theorem Z0P {d : Nat} {f : FuncId} {args : List AV} {v : AV} (hf : fr f = false) (h : rsOf (bodyA E (kF d) fg 1000000 f args [] 0) = some v) : ∃ H', kF (d + 1) f args [] 0 = some (v, H') := by
 rw [Z15 hf]; exact ZX2 h
theorem loopM {E0 : AHeap} {f : St → XR} (st : Nat → St) (n : Nat) (h : ∀ i, i < n → ∃ s', f (st i) = some (.normal, s') ∧ headA E0 s' = st (i + 1)) (h0 : headA E0 (st 0) = st 0) (hn : n < 1000000) {e : Ex} {se : St} (he : f (st n) = some (e, se)) (hne : e ≠ .normal) :
   iterA f (headA E0) 1000000 (st 0) = some (e, se) :=
 Z5p st n 1000000 0 (st 0) h0 hn (fun i _ h2 => h i (by omega)) (by rw [Nat.zero_add]; exact he) hne
theorem loopMS {E0 : AHeap} {f : St → XR} {s0 : St} (st : Nat → St) (n : Nat) (h : ∀ i, i < n → ∃ s', f (st i) = some (.normal, s') ∧ headA E0 s' = st (i + 1)) (h0 : headA E0 s0 = st 0) (hn : n < 1000000) {e : Ex} {se : St} (he : f (st n) = some (e, se)) (hne : e ≠ .normal) :
   iterA f (headA E0) 1000000 s0 = some (e, se) :=
 Z5p st n 1000000 0 s0 h0 hn (fun i _ h2 => h i (by omega)) (by rw [Nat.zero_add]; exact he) hne
theorem Z4W {E0 : AHeap} {f : St → XR} {s0 : St} (h0 : headA E0 s0 = s0) {e : Ex} {se : St} (he : f s0 = some (e, se)) (hne : e ≠ .normal) : iterA f (headA E0) 1000000 s0 = some (e, se) :=
 loopM (fun _ => s0) 0 (fun i hi => by omega) h0 (by omega) he hne
def IV (l : List Int) (a : AV) : Prop := (l = [] ∧ a = .nilsl) ∨ ∃ ex, a = .imm (ics l) l.length ex
theorem Z0J {l : List Int} {a : AV} (h : IV l a) (n : Nat) : snap (n + 1) a = .pure (a, []) := by
 rcases h with ⟨_, rfl⟩ | ⟨e, rfl⟩ <;> rfl
theorem Z5n {l : List Int} {a : AV} (h : IV l a) (h0 : 0 < l.length) : ∃ ex, a = .imm (ics l) l.length ex := by
 rcases h with ⟨rfl, _⟩ | h
 · simp at h0
 · exact h
theorem Z2v (l : List Int) (ex : Bool) : IV l (.imm (ics l) l.length ex) := .inr ⟨ex, rfl⟩
theorem Z6A {l : List Int} {k : Nat} (h : k < l.length) : l[k]? = some (rowF l k) := by
 simp [rowF, h]
theorem Z01 {l : List Int} {k : Nat} (h : k < l.length) : (ics l)[k]? = some (.int .i64 (rowF l k)) := Z1Y (Z6A h)
theorem rw_b {n : Nat} {l : List Int} (h : Rw n l) {k : Nat} (hk : k < n) : 0 ≤ rowF l k ∧ rowF l k ≤ 8 := Z1G h.row k (by rw [h.len]; exact hk)
theorem ZiT {C : Callee} {site : Nat → Nat} {seen : List Nat} {f : FuncId} {args : List AV} {id m c sz gl : Nat} {k : IntKind} {z : Int} {cells : List AV} {H' : AHeap} (h : C f args [] 0 = some (.tup [.ref id 0 m c gl sz false, .int k z], H')) (hg : hget H' id = some ⟨.row, cells⟩) (hl : cells.length = gl) :
   aBack site true seen (thaw C f args [] 0) = Z0t (site 0) seen (fun j => .tup [.ref j 0 m c gl sz false, .int k z]) ⟨.row, cells⟩ := by
 subst hl
 simp only [thaw, h, frzRet, aBack, sitesB, aBackAt, imp, imps, hg, List.length_nil, List.not_mem_nil, not_false_eq_true, and_true, if_true, List.map_cons, List.map_nil, AM.apart, List.elem_nil, Bool.not_false, Bool.and_true, AV.leads, AV.leads.leadsL, Bool.or_false, Z0t]
theorem Z0M {n : Nat} (h : n ≤ 1000000) : roomOk E.T 3 n = true := by
 simp only [roomOk, T_3, decide_eq_true_eq]; exact ⟨by decide, rfl, by omega⟩
theorem ZN {k n : Nat} (h : 0 < n) : oV k 1 n = .ref k 0 n n n 1 false := by
 obtain ⟨m, rfl⟩ : ∃ m, n = m + 1 := ⟨n - 1, by omega⟩
 simp only [oV, Nat.mul_one]
theorem Zea {k : Nat} {l : List Int} (h : 0 < l.length) : oH k (ics l) = [(k, ⟨.row, ics l⟩)] := ZWW k (by rw [Za]; exact h)
theorem Z8h (k sz : Nat) : oV k sz 0 = .nilsl := rfl
theorem Z5z {E0 : AHeap} {φ : AFr} {H : AHeap} (h : ∀ p ∈ H, (hget E0 p.1).isSome = true) : headA E0 (φ, H) = (φ, H) := by
 have key : ∀ (keep : List Nat) (H : AHeap), (∀ p ∈ H, (hget E0 p.1).isSome = true) → keepB E0 keep H = H := by
   intro keep H
   induction H with
   | nil => intro _; rfl
   | cons p t ih =>
     intro h
     obtain ⟨i, b⟩ := p
     simp only [keepB, h _ (List.mem_cons_self ..), Bool.or_true, cond_true, ih fun q hq => h q (List.mem_cons_of_mem _ hq)]
 simp only [headA, key _ H h, gcIf]
 split <;> rfl
def RL (C : Callee) (f : FuncId) (args : List AV) (e : Int) (l : List Int) : Prop :=
 (e ≠ 0 ∧ ∀ (site : Nat → Nat) seen, aBack site true seen (thaw C f args [] 0) = .pure (.tup [.nilsl, .int .i64 e], [])) ∨
 (e = 0 ∧ ∀ (site : Nat → Nat) seen, aBack site true seen (thaw C f args [] 0) = Z0t (site 0) seen (fun k => .tup [.ref k 0 l.length l.length l.length 1 false, .int .i64 0]) ⟨.row, ics l⟩)
def fe (e : Nat → Int) : Nat → Nat → Int
 | _, 0 => 0
 | k, m + 1 => if e k = 0 then fe e (k + 1) m else e k
theorem Z2F {e : Nat → Int} : ∀ (m k : Nat), fe e k m = 0 ↔ ∀ i, k ≤ i → i < k + m → e i = 0
 | 0, k => by simp only [fe, true_iff]; intro i h1 h2; omega
 | m + 1, k => by
   simp only [fe]
   split
   · rename_i h
     rw [Z2F m (k + 1)]
     exact ⟨fun hh i h1 h2 => if hi : i = k then by rw [hi]; exact h else hh i (by omega) (by omega), fun hh i h1 h2 => hh i (by omega) (by omega)⟩
   · rename_i h
     exact ⟨fun hh => absurd hh h, fun hh => absurd (hh k (Nat.le_refl _) (by omega)) h⟩
theorem loopE {E0 : AHeap} {f : St → XR} {e : Nat → Int} {R : Int → AHeap → St} {x : Ex} {se : St} (st : Nat → St) (n : Nat) (h0 : headA E0 (st 0) = st 0) (hn : n < 1000000) (hx : x ≠ .normal)
   (hgo : ∀ i, i < n → (∀ j, j < i → e j = 0) → e i = 0 → ∃ s', f (st i) = some (.normal, s') ∧ headA E0 s' = st (i + 1)) (hbad : ∀ i, i < n → (∀ j, j < i → e j = 0) → e i ≠ 0 → ∃ H, f (st i) = some (.ret, R (e i) H)) (hend : (∀ j, j < n → e j = 0) → f (st n) = some (x, se)) :
   (fe e 0 n = 0 ∧ iterA f (headA E0) 1000000 (st 0) = some (x, se)) ∨ (fe e 0 n ≠ 0 ∧ ∃ H, iterA f (headA E0) 1000000 (st 0) = some (.ret, R (fe e 0 n) H)) := by
 have key : ∀ (m k F : Nat) (s0 : St), k + m = n → (∀ j, j < k → e j = 0) → headA E0 s0 = st k → m < F → (fe e k m = 0 ∧ iterA f (headA E0) F s0 = some (x, se)) ∨ (fe e k m ≠ 0 ∧ ∃ H, iterA f (headA E0) F s0 = some (.ret, R (fe e k m) H)) := by
   intro m
   induction m with
   | zero =>
     intro k F s0 hk hz hs hF
     obtain ⟨F, rfl⟩ : ∃ G, F = G + 1 := ⟨F - 1, by omega⟩
     rw [Nat.add_zero] at hk
     subst hk
     refine .inl ⟨rfl, ?_⟩
     rw [Z0F, hs, hend hz]
     cases x with
     | normal => exact absurd rfl hx
     | ret => rfl
     | exit i => rfl
   | succ m ih =>
     intro k F s0 hk hz hs hF
     obtain ⟨F, rfl⟩ : ∃ G, F = G + 1 := ⟨F - 1, by omega⟩
     simp only [fe]
     by_cases h : e k = 0
     · obtain ⟨s', h1, h2⟩ := hgo k (by omega) hz h
       rw [if_pos h, Z0F, hs, h1, Z8v]
       refine ih (k + 1) F s' (by omega) (fun j hj => ?_) h2 (by omega)
       by_cases hjk : j = k
       · rw [hjk]; exact h
       · exact hz j (by omega)
     · rw [if_neg h]
       obtain ⟨H, hH⟩ := hbad k (by omega) hz h
       refine .inr ⟨h, H, ?_⟩
       rw [Z0F, hs, hH]
       rfl
 exact key n 0 1000000 (st 0) (by omega) (fun j hj => by omega) h0 (by omega)
end Go.AM.Ytfmnoohhhokicaa
end
end
