/- A part of the proof of muleShown_card: ShH. Own work of this project; texts printed by own programs among it. -/
import Derived.KernelRfl
import Derived.Test.YtgfnbmfjbjopkaaDoorSjG
set_option maxRecDepth 1000000
set_option maxHeartbeats 16000000
noncomputable section
noncomputable section
namespace Go.AM.YtgfnbmfjbjopkaaDoor
open Go Go.AM
abbrev XQ (f n : Nat) (c a b : Code) : Prop := ∀ {C : Callee} {B N : Nat} {E0 : AHeap} {s : St}, execA E C (fg f) B n E0 N c s = seqX (execA E C (fg f) B n E0 N a s) (execA E C (fg f) B n E0 N b)
abbrev XG (f n : Nat) (c : Code) (r : Array Oper) (l : List Nat) : Prop := ∀ {C : Callee} {B N : Nat} {E0 : AHeap} {s : St}, execA E C (fg f) B n E0 N c s = regX (runA E C B n r r.toList s) (fun s => gcM E0 l (forget s.1 l, s.2))
abbrev XD (f n : Nat) (c : Code) (r : Array Oper) (l : List Nat) : Prop := ∀ {C : Callee} {B N : Nat} {E0 : AHeap} {s : St}, execA E C (fg f) B n E0 N c s = regX (drawA E C B n r s) (fun s => gcM E0 l (forget s.1 l, s.2))
abbrev XC (f n : Nat) (c : Code) (k : Nat) (t e : Code) : Prop := ∀ {C : Callee} {B N : Nat} {E0 : AHeap} {φ : AFr} {H : AHeap}, execA E C (fg f) B n E0 N c (φ, H) = condX (fget φ k) (execA E C (fg f) B n E0 N t (φ, H)) (execA E C (fg f) B n E0 N e (φ, H))
variable {C : Callee} {B N : Nat} {E0 : AHeap} (φ : AFr) (H : AHeap) (s : St)
theorem T_0 : E.T 0 = some ⟨.other, 1, 0, none⟩ := nf
theorem T_1 : E.T 1 = some ⟨.other, 1, 8, (some [.nilfunc])⟩ := nf
theorem T_2 : E.T 2 = some ⟨.int .i64, 1, 8, (some [.int .i64 0])⟩ := nf
theorem T_3 : E.T 3 = some ⟨.int .i64, 1, 8, (some [.int .i64 0])⟩ := nf
theorem T_4 : E.T 4 = some ⟨.bool, 1, 1, (some [.bool false])⟩ := nf
theorem T_5 : E.T 5 = some ⟨.int .u8, 1, 1, (some [.int .u8 0])⟩ := nf
theorem T_6 : E.T 6 = some ⟨.int .u8, 1, 1, (some [.int .u8 0])⟩ := nf
theorem T_7 : E.T 7 = some ⟨.struct [(0, 2, 1), (1, 3, 1), (2, 4, 1), (3, 6, 1)] false, 4, 24, (some [.int .i64 0, .int .i64 0, .bool false, .int .u8 0])⟩ := nf
theorem T_8 : E.T 8 = some ⟨.struct [(0, 2, 1), (1, 3, 1), (2, 4, 1), (3, 6, 1)] false, 4, 24, (some [.int .i64 0, .int .i64 0, .bool false, .int .u8 0])⟩ := nf
theorem T_9 : E.T 9 = some ⟨.str, 1, 16, (some [.str ⟨#[]⟩])⟩ := nf
theorem T_10 : E.T 10 = some ⟨.str, 1, 16, (some [.str ⟨#[]⟩])⟩ := nf
theorem T_11 : E.T 11 = some ⟨.str, 1, 16, (some [.str ⟨#[]⟩])⟩ := nf
theorem T_12 : E.T 12 = some ⟨.int .u64, 1, 8, (some [.int .u64 0])⟩ := nf
theorem T_13 : E.T 13 = some ⟨.struct [(0, 9, 1), (1, 12, 1)] false, 2, 24, (some [.str ⟨#[]⟩, .int .u64 0])⟩ := nf
theorem T_14 : E.T 14 = some ⟨.struct [(0, 9, 1), (1, 12, 1)] false, 2, 24, (some [.str ⟨#[]⟩, .int .u64 0])⟩ := nf
theorem T_15 : E.T 15 = some ⟨.other, 1, 8, (some [.nilptr])⟩ := nf
theorem T_16 : E.T 16 = some ⟨.other, 1, 8, (some [.nilptr])⟩ := nf
theorem T_17 : E.T 17 = some ⟨.other, 1, 8, (some [.nilptr])⟩ := nf
theorem T_18 : E.T 18 = some ⟨.struct [(0, 17, 1)] false, 1, 8, (some [.nilptr])⟩ := nf
theorem T_19 : E.T 19 = some ⟨.struct [(0, 17, 1)] false, 1, 8, (some [.nilptr])⟩ := nf
theorem T_20 : E.T 20 = some ⟨.other, 1, 16, none⟩ := nf
theorem T_21 : E.T 21 = some ⟨.int .i32, 1, 4, (some [.int .i32 0])⟩ := nf
theorem T_22 : E.T 22 = some ⟨.slice 62, 1, 24, (some [.nilsl])⟩ := nf
theorem T_23 : E.T 23 = some ⟨.slice 64, 1, 24, (some [.nilsl])⟩ := nf
theorem T_24 : E.T 24 = some ⟨.struct [(0, 22, 1), (1, 23, 1)] false, 2, 48, (some [.nilsl, .nilsl])⟩ := nf
theorem T_25 : E.T 25 = some ⟨.struct [(0, 22, 1), (1, 23, 1)] false, 2, 48, (some [.nilsl, .nilsl])⟩ := nf
theorem T_26 : E.T 26 = some ⟨.other, 1, 8, (some [.nilfunc])⟩ := nf
theorem T_27 : E.T 27 = some ⟨.other, 1, 8, (some [.nilfunc])⟩ := nf
theorem T_28 : E.T 28 = some ⟨.slice 105, 1, 24, (some [.nilsl])⟩ := nf
theorem T_29 : E.T 29 = some ⟨.struct [(0, 28, 1), (1, 23, 1)] false, 2, 48, (some [.nilsl, .nilsl])⟩ := nf
theorem T_30 : E.T 30 = some ⟨.struct [(0, 28, 1), (1, 23, 1)] false, 2, 48, (some [.nilsl, .nilsl])⟩ := nf
theorem T_31 : E.T 31 = some ⟨.other, 1, 8, (some [.nilfunc])⟩ := nf
theorem T_32 : E.T 32 = some ⟨.int .i64, 1, 8, (some [.int .i64 0])⟩ := nf
theorem T_33 : E.T 33 = some ⟨.other, 1, 0, none⟩ := nf
theorem T_34 : E.T 34 = some ⟨.other, 1, 8, (some [.nilfunc])⟩ := nf
theorem T_35 : E.T 35 = some ⟨.other, 1, 8, (some [.nilfunc])⟩ := nf
theorem T_36 : E.T 36 = some ⟨.slice 3, 1, 24, (some [.nilsl])⟩ := nf
theorem T_37 : E.T 37 = some ⟨.other, 1, 0, none⟩ := nf
theorem T_38 : E.T 38 = some ⟨.other, 1, 8, (some [.nilfunc])⟩ := nf
theorem T_39 : E.T 39 = some ⟨.other, 1, 8, (some [.nilfunc])⟩ := nf
theorem T_40 : E.T 40 = some ⟨.other, 1, 8, (some [.nilfunc])⟩ := nf
theorem T_41 : E.T 41 = some ⟨.other, 1, 8, (some [.nilfunc])⟩ := nf
theorem T_42 : E.T 42 = some ⟨.other, 1, 8, (some [.nilfunc])⟩ := nf
theorem T_43 : E.T 43 = some ⟨.other, 1, 8, (some [.nilfunc])⟩ := nf
theorem T_44 : E.T 44 = some ⟨.other, 1, 8, (some [.nilfunc])⟩ := nf
theorem T_45 : E.T 45 = some ⟨.other, 1, 8, (some [.nilfunc])⟩ := nf
theorem T_46 : E.T 46 = some ⟨.other, 1, 8, (some [.nilfunc])⟩ := nf
theorem T_47 : E.T 47 = some ⟨.other, 1, 8, (some [.nilfunc])⟩ := nf
theorem T_48 : E.T 48 = some ⟨.other, 1, 8, (some [.nilfunc])⟩ := nf
theorem T_49 : E.T 49 = some ⟨.other, 1, 8, (some [.nilfunc])⟩ := nf
theorem T_50 : E.T 50 = some ⟨.other, 1, 8, (some [.nilfunc])⟩ := nf
theorem T_51 : E.T 51 = some ⟨.other, 1, 8, (some [.nilfunc])⟩ := nf
theorem T_52 : E.T 52 = some ⟨.other, 1, 8, (some [.nilfunc])⟩ := nf
theorem T_53 : E.T 53 = some ⟨.arr 5 5 true, 5, 5, (some [.int .u8 0, .int .u8 0, .int .u8 0, .int .u8 0, .int .u8 0])⟩ := nf
theorem T_54 : E.T 54 = some ⟨.arr 6 53 false, 30, 30, (some [.int .u8 0, .int .u8 0, .int .u8 0, .int .u8 0, .int .u8 0, .int .u8 0, .int .u8 0, .int .u8 0, .int .u8 0, .int .u8 0, .int .u8 0, .int .u8 0, .int .u8 0, .int .u8 0, .int .u8 0, .int .u8 0, .int .u8 0, .int .u8 0, .int .u8 0, .int .u8 0, .int .u8 0, .int .u8 0, .int .u8 0, .int .u8 0, .int .u8 0, .int .u8 0, .int .u8 0, .int .u8 0, .int .u8 0, .int .u8 0])⟩ := nf
theorem T_55 : E.T 55 = some ⟨.int .u16, 1, 2, (some [.int .u16 0])⟩ := nf
theorem T_56 : E.T 56 = some ⟨.arr 6 5 true, 6, 6, (some [.int .u8 0, .int .u8 0, .int .u8 0, .int .u8 0, .int .u8 0, .int .u8 0])⟩ := nf
theorem T_57 : E.T 57 = some ⟨.struct [(0, 5, 1), (1, 54, 30), (31, 55, 1), (32, 56, 6)] false, 38, 40, (some [.int .u8 0, .int .u8 0, .int .u8 0, .int .u8 0, .int .u8 0, .int .u8 0, .int .u8 0, .int .u8 0, .int .u8 0, .int .u8 0, .int .u8 0, .int .u8 0, .int .u8 0, .int .u8 0, .int .u8 0, .int .u8 0, .int .u8 0, .int .u8 0, .int .u8 0, .int .u8 0, .int .u8 0, .int .u8 0, .int .u8 0, .int .u8 0, .int .u8 0, .int .u8 0, .int .u8 0, .int .u8 0, .int .u8 0, .int .u8 0, .int .u8 0, .int .u16 0, .int .u8 0, .int .u8 0, .int .u8 0, .int .u8 0, .int .u8 0, .int .u8 0])⟩ := nf
theorem T_58 : E.T 58 = some ⟨.struct [(0, 5, 1), (1, 54, 30), (31, 55, 1), (32, 56, 6)] false, 38, 40, (some [.int .u8 0, .int .u8 0, .int .u8 0, .int .u8 0, .int .u8 0, .int .u8 0, .int .u8 0, .int .u8 0, .int .u8 0, .int .u8 0, .int .u8 0, .int .u8 0, .int .u8 0, .int .u8 0, .int .u8 0, .int .u8 0, .int .u8 0, .int .u8 0, .int .u8 0, .int .u8 0, .int .u8 0, .int .u8 0, .int .u8 0, .int .u8 0, .int .u8 0, .int .u8 0, .int .u8 0, .int .u8 0, .int .u8 0, .int .u8 0, .int .u8 0, .int .u16 0, .int .u8 0, .int .u8 0, .int .u8 0, .int .u8 0, .int .u8 0, .int .u8 0])⟩ := nf
theorem T_59 : E.T 59 = some ⟨.other, 1, 8, (some [.nilfunc])⟩ := nf
theorem T_60 : E.T 60 = some ⟨.other, 1, 8, (some [.nilfunc])⟩ := nf
theorem T_61 : E.T 61 = some ⟨.struct [(0, 3, 1), (1, 3, 1), (2, 3, 1), (3, 3, 1), (4, 3, 1)] true, 5, 40, (some [.int .i64 0, .int .i64 0, .int .i64 0, .int .i64 0, .int .i64 0])⟩ := nf
theorem T_62 : E.T 62 = some ⟨.struct [(0, 3, 1), (1, 3, 1), (2, 3, 1), (3, 3, 1), (4, 3, 1)] true, 5, 40, (some [.int .i64 0, .int .i64 0, .int .i64 0, .int .i64 0, .int .i64 0])⟩ := nf
theorem T_63 : E.T 63 = some ⟨.other, 1, 8, (some [.nilfunc])⟩ := nf
theorem T_64 : E.T 64 = some ⟨.arr 2 3 true, 2, 16, (some [.int .i64 0, .int .i64 0])⟩ := nf
theorem T_65 : E.T 65 = some ⟨.other, 1, 8, (some [.nilfunc])⟩ := nf
theorem T_66 : E.T 66 = some ⟨.other, 1, 8, (some [.nilfunc])⟩ := nf
theorem T_67 : E.T 67 = some ⟨.other, 1, 8, (some [.nilfunc])⟩ := nf
theorem T_68 : E.T 68 = some ⟨.other, 1, 8, (some [.nilfunc])⟩ := nf
theorem T_69 : E.T 69 = some ⟨.other, 1, 8, (some [.nilfunc])⟩ := nf
theorem T_70 : E.T 70 = some ⟨.other, 1, 8, (some [.nilfunc])⟩ := nf
theorem T_71 : E.T 71 = some ⟨.other, 1, 8, (some [.nilfunc])⟩ := nf
theorem T_72 : E.T 72 = some ⟨.other, 1, 8, (some [.nilfunc])⟩ := nf
theorem T_73 : E.T 73 = some ⟨.other, 1, 8, (some [.nilfunc])⟩ := nf
theorem T_74 : E.T 74 = some ⟨.other, 1, 8, (some [.nilfunc])⟩ := nf
theorem T_75 : E.T 75 = some ⟨.other, 1, 8, (some [.nilfunc])⟩ := nf
theorem T_76 : E.T 76 = some ⟨.other, 1, 8, (some [.nilfunc])⟩ := nf
theorem T_77 : E.T 77 = some ⟨.other, 1, 8, (some [.nilfunc])⟩ := nf
theorem T_78 : E.T 78 = some ⟨.other, 1, 8, (some [.nilfunc])⟩ := nf
theorem T_79 : E.T 79 = some ⟨.other, 1, 8, (some [.nilfunc])⟩ := nf
theorem T_80 : E.T 80 = some ⟨.other, 1, 8, (some [.nilfunc])⟩ := nf
theorem T_81 : E.T 81 = some ⟨.other, 1, 8, (some [.nilfunc])⟩ := nf
theorem T_82 : E.T 82 = some ⟨.other, 1, 8, (some [.nilfunc])⟩ := nf
theorem T_83 : E.T 83 = some ⟨.other, 1, 8, (some [.nilfunc])⟩ := nf
theorem T_84 : E.T 84 = some ⟨.other, 1, 8, (some [.nilfunc])⟩ := nf
theorem T_85 : E.T 85 = some ⟨.other, 1, 8, (some [.nilfunc])⟩ := nf
theorem T_86 : E.T 86 = some ⟨.other, 1, 8, (some [.nilfunc])⟩ := nf
theorem T_87 : E.T 87 = some ⟨.other, 1, 8, (some [.nilfunc])⟩ := nf
theorem T_88 : E.T 88 = some ⟨.other, 1, 8, (some [.nilfunc])⟩ := nf
theorem T_89 : E.T 89 = some ⟨.other, 1, 8, (some [.nilfunc])⟩ := nf
theorem T_90 : E.T 90 = some ⟨.other, 1, 8, (some [.nilfunc])⟩ := nf
theorem T_91 : E.T 91 = some ⟨.other, 1, 8, (some [.nilfunc])⟩ := nf
theorem T_92 : E.T 92 = some ⟨.slice 5, 1, 24, (some [.nilsl])⟩ := nf
theorem T_93 : E.T 93 = some ⟨.other, 1, 8, (some [.nilfunc])⟩ := nf
theorem T_94 : E.T 94 = some ⟨.other, 1, 8, (some [.nilfunc])⟩ := nf
theorem T_95 : E.T 95 = some ⟨.other, 1, 8, (some [.nilfunc])⟩ := nf
theorem T_96 : E.T 96 = some ⟨.other, 1, 8, (some [.nilfunc])⟩ := nf
theorem T_97 : E.T 97 = some ⟨.other, 1, 8, (some [.nilfunc])⟩ := nf
theorem T_98 : E.T 98 = some ⟨.other, 1, 8, (some [.nilfunc])⟩ := nf
theorem T_99 : E.T 99 = some ⟨.other, 1, 8, (some [.nilfunc])⟩ := nf
theorem Z0nR : E.T 100 = some ⟨.other, 1, 8, (some [.nilfunc])⟩ := nf
theorem Z0nm : E.T 101 = some ⟨.other, 1, 8, (some [.nilfunc])⟩ := nf
theorem Z0lT : E.T 102 = some ⟨.other, 1, 8, (some [.nilfunc])⟩ := nf
theorem Z0lx : E.T 103 = some ⟨.other, 1, 8, (some [.nilfunc])⟩ := nf
theorem Z0m9 : E.T 104 = some ⟨.other, 1, 8, (some [.nilfunc])⟩ := nf
theorem Z0nP : E.T 105 = some ⟨.struct [(0, 3, 1), (1, 3, 1), (2, 3, 1), (3, 3, 1), (4, 3, 1)] true, 5, 40, (some [.int .i64 0, .int .i64 0, .int .i64 0, .int .i64 0, .int .i64 0])⟩ := nf
theorem Z0mi : E.T 106 = some ⟨.slice 126, 1, 24, (some [.nilsl])⟩ := nf
theorem Z0o1 : E.T 107 = some ⟨.slice 121, 1, 24, (some [.nilsl])⟩ := nf
theorem Z0o6 : E.T 108 = some ⟨.struct [(0, 106, 1), (1, 107, 1)] false, 2, 48, (some [.nilsl, .nilsl])⟩ := nf
theorem Z0n4 : E.T 109 = some ⟨.struct [(0, 106, 1), (1, 107, 1)] false, 2, 48, (some [.nilsl, .nilsl])⟩ := nf
theorem Z0l2 : E.T 110 = some ⟨.other, 1, 0, none⟩ := nf
theorem Z0kJ : E.T 111 = some ⟨.other, 1, 8, (some [.nilfunc])⟩ := nf
theorem Z0o8 : E.T 112 = some ⟨.other, 1, 0, none⟩ := nf
theorem Z0kS : E.T 113 = some ⟨.other, 1, 8, (some [.nilfunc])⟩ := nf
theorem Z0lQ : E.T 114 = some ⟨.slice 36, 1, 24, (some [.nilsl])⟩ := nf
theorem Z0mU : E.T 115 = some ⟨.other, 1, 0, none⟩ := nf
theorem Z0o4 : E.T 116 = some ⟨.other, 1, 8, (some [.nilfunc])⟩ := nf
theorem Z0mn : E.T 117 = some ⟨.other, 1, 8, (some [.nilfunc])⟩ := nf
theorem Z0l1 : E.T 118 = some ⟨.other, 1, 8, (some [.nilfunc])⟩ := nf
theorem Z0my : E.T 119 = some ⟨.other, 1, 0, none⟩ := nf
theorem Z0mF : E.T 120 = some ⟨.other, 1, 8, (some [.nilfunc])⟩ := nf
theorem Z0l8 : E.T 121 = some ⟨.int .u64, 1, 8, (some [.int .u64 0])⟩ := nf
theorem Z0kR : E.T 122 = some ⟨.other, 1, 8, (some [.nilfunc])⟩ := nf
theorem Z0lW : E.T 123 = some ⟨.other, 1, 8, (some [.nilfunc])⟩ := nf
theorem Z0n9 : E.T 124 = some ⟨.other, 1, 8, (some [.nilfunc])⟩ := nf
theorem Z0nV : E.T 125 = some ⟨.arr 5 3 true, 5, 40, (some [.int .i64 0, .int .i64 0, .int .i64 0, .int .i64 0, .int .i64 0])⟩ := nf
theorem ZGa : E.T 126 = some ⟨.arr 5 3 true, 5, 40, (some [.int .i64 0, .int .i64 0, .int .i64 0, .int .i64 0, .int .i64 0])⟩ := nf
theorem Z0ll : E.T 127 = some ⟨.other, 1, 8, (some [.nilfunc])⟩ := nf
theorem Z0no : E.T 128 = some ⟨.other, 1, 8, (some [.nilfunc])⟩ := nf
theorem Z0ox : E.T 129 = some ⟨.other, 1, 8, (some [.nilfunc])⟩ := nf
theorem Z0nD : E.T 130 = some ⟨.other, 1, 8, (some [.nilfunc])⟩ := nf
theorem Z0mk : E.T 131 = some ⟨.other, 1, 8, (some [.nilfunc])⟩ := nf
theorem Z0nM : E.T 132 = some ⟨.other, 1, 8, (some [.nilfunc])⟩ := nf
theorem Z0lD : E.T 133 = some ⟨.other, 1, 8, (some [.nilfunc])⟩ := nf
theorem Z0lC : E.T 134 = some ⟨.other, 1, 8, (some [.nilfunc])⟩ := nf
theorem Z0kT : E.T 135 = some ⟨.slice 53, 1, 24, (some [.nilsl])⟩ := nf
theorem Z0oj : E.T 136 = some ⟨.other, 1, 8, (some [.nilfunc])⟩ := nf
theorem Z0kr : E.T 137 = some ⟨.other, 1, 0, none⟩ := nf
theorem Z0kG : E.T 138 = some ⟨.other, 1, 8, (some [.nilfunc])⟩ := nf
theorem Z0oa : E.T 139 = some ⟨.other, 1, 8, (some [.nilfunc])⟩ := nf
theorem Z0lS : E.T 140 = some ⟨.other, 1, 8, (some [.nilfunc])⟩ := nf
theorem Z0mD : E.T 141 = some ⟨.other, 1, 8, (some [.nilfunc])⟩ := nf
theorem Z0kk : E.T 142 = some ⟨.other, 1, 8, (some [.nilfunc])⟩ := nf
theorem Z0lb : E.T 143 = some ⟨.other, 1, 8, (some [.nilfunc])⟩ := nf
theorem Z0nI : E.T 144 = some ⟨.other, 1, 8, (some [.nilfunc])⟩ := nf
theorem Z0nc : E.T 145 = some ⟨.other, 1, 8, (some [.nilfunc])⟩ := nf
theorem Z0km : E.T 146 = some ⟨.other, 1, 8, (some [.nilfunc])⟩ := nf
theorem Z0mN : E.T 147 = some ⟨.other, 1, 8, (some [.nilfunc])⟩ := nf
theorem Z0mH : E.T 148 = some ⟨.int .u32, 1, 4, (some [.int .u32 0])⟩ := nf
theorem Z0l3 : E.T 149 = some ⟨.other, 1, 8, (some [.nilfunc])⟩ := nf
theorem Z0l7 : E.T 150 = some ⟨.int .u64, 1, 8, (some [.int .u64 0])⟩ := nf
theorem Z0n0 : E.T 151 = some ⟨.other, 1, 8, (some [.nilfunc])⟩ := nf
theorem Z0m8 : E.T 152 = some ⟨.other, 1, 8, (some [.nilfunc])⟩ := nf
theorem Z0nC : E.T 153 = some ⟨.other, 1, 8, (some [.nilfunc])⟩ := nf
theorem Z0kE : E.T 154 = some ⟨.arr 32 5 true, 32, 32, (some [.int .u8 0, .int .u8 0, .int .u8 0, .int .u8 0, .int .u8 0, .int .u8 0, .int .u8 0, .int .u8 0, .int .u8 0, .int .u8 0, .int .u8 0, .int .u8 0, .int .u8 0, .int .u8 0, .int .u8 0, .int .u8 0, .int .u8 0, .int .u8 0, .int .u8 0, .int .u8 0, .int .u8 0, .int .u8 0, .int .u8 0, .int .u8 0, .int .u8 0, .int .u8 0, .int .u8 0, .int .u8 0, .int .u8 0, .int .u8 0, .int .u8 0, .int .u8 0])⟩ := nf
theorem Z0lP : E.T 155 = some ⟨.arr 64 5 true, 64, 64, (some [.int .u8 0, .int .u8 0, .int .u8 0, .int .u8 0, .int .u8 0, .int .u8 0, .int .u8 0, .int .u8 0, .int .u8 0, .int .u8 0, .int .u8 0, .int .u8 0, .int .u8 0, .int .u8 0, .int .u8 0, .int .u8 0, .int .u8 0, .int .u8 0, .int .u8 0, .int .u8 0, .int .u8 0, .int .u8 0, .int .u8 0, .int .u8 0, .int .u8 0, .int .u8 0, .int .u8 0, .int .u8 0, .int .u8 0, .int .u8 0, .int .u8 0, .int .u8 0, .int .u8 0, .int .u8 0, .int .u8 0, .int .u8 0, .int .u8 0, .int .u8 0, .int .u8 0, .int .u8 0, .int .u8 0, .int .u8 0, .int .u8 0, .int .u8 0, .int .u8 0, .int .u8 0, .int .u8 0, .int .u8 0, .int .u8 0, .int .u8 0, .int .u8 0, .int .u8 0, .int .u8 0, .int .u8 0, .int .u8 0, .int .u8 0, .int .u8 0, .int .u8 0, .int .u8 0, .int .u8 0, .int .u8 0, .int .u8 0, .int .u8 0, .int .u8 0])⟩ := nf
theorem Z0nS : E.T 156 = some ⟨.other, 1, 8, (some [.nilfunc])⟩ := nf
theorem Z0kl : E.T 157 = some ⟨.struct [(0, 17, 1), (1, 17, 1), (2, 17, 1), (3, 9, 1)] false, 4, 40, (some [.nilptr, .nilptr, .nilptr, .str ⟨#[]⟩])⟩ := nf
theorem Z0mL : E.T 158 = some ⟨.struct [(0, 17, 1), (1, 17, 1), (2, 17, 1), (3, 9, 1)] false, 4, 40, (some [.nilptr, .nilptr, .nilptr, .str ⟨#[]⟩])⟩ := nf
theorem Z0ng : E.T 159 = some ⟨.arr 0 16 false, 0, 0, (some [])⟩ := nf
theorem Z0mQ : E.T 160 = some ⟨.struct [(0, 159, 0)] false, 0, 0, (some [])⟩ := nf
theorem Z0lF : E.T 161 = some ⟨.struct [(0, 159, 0)] false, 0, 0, (some [])⟩ := nf
theorem Z0lf : E.T 162 = some ⟨.other, 1, 8, (some [.nilfunc])⟩ := nf
theorem Z0oe : E.T 163 = some ⟨.int .u8, 1, 1, (some [.int .u8 0])⟩ := nf
theorem Z0mR : E.T 164 = some ⟨.int .u8, 1, 1, (some [.int .u8 0])⟩ := nf
theorem Z0l5 : E.T 165 = some ⟨.other, 1, 8, (some [.nilfunc])⟩ := nf
theorem Z0oo : E.T 166 = some ⟨.other, 1, 8, (some [.nilptr])⟩ := nf
theorem Z0mv : E.T 167 = some ⟨.int .i32, 1, 4, (some [.int .i32 0])⟩ := nf
theorem Z0mq : E.T 168 = some ⟨.int .i32, 1, 4, (some [.int .i32 0])⟩ := nf
theorem Z0mP : E.T 169 = some ⟨.struct [(0, 12, 1), (1, 12, 1), (2, 148, 1), (3, 163, 1), (4, 5, 1), (5, 5, 1), (6, 164, 1), (7, 165, 1), (8, 166, 1), (9, 167, 1), (10, 168, 1)] false, 11, 48, (some [.int .u64 0, .int .u64 0, .int .u32 0, .int .u8 0, .int .u8 0, .int .u8 0, .int .u8 0, .nilfunc, .nilptr, .int .i32 0, .int .i32 0])⟩ := nf
theorem Z0mr : E.T 170 = some ⟨.struct [(0, 12, 1), (1, 12, 1), (2, 148, 1), (3, 163, 1), (4, 5, 1), (5, 5, 1), (6, 164, 1), (7, 165, 1), (8, 166, 1), (9, 167, 1), (10, 168, 1)] false, 11, 48, (some [.int .u64 0, .int .u64 0, .int .u32 0, .int .u8 0, .int .u8 0, .int .u8 0, .int .u8 0, .nilfunc, .nilptr, .int .i32 0, .int .i32 0])⟩ := nf
theorem Z0lh : E.T 171 = some ⟨.other, 1, 8, (some [.nilptr])⟩ := nf
abbrev ZT := And.intro (And.intro (And.intro (And.intro (And.intro (And.intro (And.intro @T_0 @T_1) (And.intro @T_2 (And.intro @T_3 @T_4))) (And.intro (And.intro @T_5 @T_6) (And.intro @T_7 (And.intro @T_8 @T_9)))) (And.intro (And.intro (And.intro @T_10 @T_11) (And.intro @T_12 (And.intro @T_13 @T_14))) (And.intro (And.intro @T_15 (And.intro @T_16 @T_17)) (And.intro @T_18 (And.intro @T_19 @T_20))))) (And.intro (And.intro (And.intro (And.intro @T_21 @T_22) (And.intro @T_23 (And.intro @T_24 @T_25))) (And.intro (And.intro @T_26 (And.intro @T_27 @T_28)) (And.intro @T_29 (And.intro @T_30 @T_31)))) (And.intro (And.intro (And.intro @T_32 @T_33) (And.intro @T_34 (And.intro @T_35 @T_36))) (And.intro (And.intro @T_37 (And.intro @T_38 @T_39)) (And.intro @T_40 (And.intro @T_41 @T_42)))))) (And.intro (And.intro (And.intro (And.intro (And.intro @T_43 @T_44) (And.intro @T_45 (And.intro @T_46 @T_47))) (And.intro (And.intro @T_48 @T_49) (And.intro @T_50 (And.intro @T_51 @T_52)))) (And.intro (And.intro (And.intro @T_53 @T_54) (And.intro @T_55 (And.intro @T_56 @T_57))) (And.intro (And.intro @T_58 (And.intro @T_59 @T_60)) (And.intro @T_61 (And.intro @T_62 @T_63))))) (And.intro (And.intro (And.intro (And.intro @T_64 @T_65) (And.intro @T_66 (And.intro @T_67 @T_68))) (And.intro (And.intro @T_69 (And.intro @T_70 @T_71)) (And.intro @T_72 (And.intro @T_73 @T_74)))) (And.intro (And.intro (And.intro @T_75 @T_76) (And.intro @T_77 (And.intro @T_78 @T_79))) (And.intro (And.intro @T_80 (And.intro @T_81 @T_82)) (And.intro @T_83 (And.intro @T_84 @T_85))))))) (And.intro (And.intro (And.intro (And.intro (And.intro (And.intro @T_86 @T_87) (And.intro @T_88 (And.intro @T_89 @T_90))) (And.intro (And.intro @T_91 @T_92) (And.intro @T_93 (And.intro @T_94 @T_95)))) (And.intro (And.intro (And.intro @T_96 @T_97) (And.intro @T_98 (And.intro @T_99 @Z0nR))) (And.intro (And.intro @Z0nm (And.intro @Z0lT @Z0lx)) (And.intro @Z0m9 (And.intro @Z0nP @Z0mi))))) (And.intro (And.intro (And.intro (And.intro @Z0o1 @Z0o6) (And.intro @Z0n4 (And.intro @Z0l2 @Z0kJ))) (And.intro (And.intro @Z0o8 (And.intro @Z0kS @Z0lQ)) (And.intro @Z0mU (And.intro @Z0o4 @Z0mn)))) (And.intro (And.intro (And.intro @Z0l1 @Z0my) (And.intro @Z0mF (And.intro @Z0l8 @Z0kR))) (And.intro (And.intro @Z0lW (And.intro @Z0n9 @Z0nV)) (And.intro @ZGa (And.intro @Z0ll @Z0no)))))) (And.intro (And.intro (And.intro (And.intro (And.intro @Z0ox @Z0nD) (And.intro @Z0mk (And.intro @Z0nM @Z0lD))) (And.intro (And.intro @Z0lC @Z0kT) (And.intro @Z0oj (And.intro @Z0kr @Z0kG)))) (And.intro (And.intro (And.intro @Z0oa @Z0lS) (And.intro @Z0mD (And.intro @Z0kk @Z0lb))) (And.intro (And.intro @Z0nI (And.intro @Z0nc @Z0km)) (And.intro @Z0mN (And.intro @Z0mH @Z0l3))))) (And.intro (And.intro (And.intro (And.intro @Z0l7 @Z0n0) (And.intro @Z0m8 (And.intro @Z0nC @Z0kE))) (And.intro (And.intro @Z0lP (And.intro @Z0nS @Z0kl)) (And.intro @Z0mL (And.intro @Z0ng @Z0mQ)))) (And.intro (And.intro (And.intro @Z0lF @Z0lf) (And.intro @Z0oe (And.intro @Z0mR @Z0l5))) (And.intro (And.intro @Z0oo (And.intro @Z0mv @Z0mq)) (And.intro @Z0mP (And.intro @Z0mr @Z0lh)))))))
def Z6U := kBody Proofs.Tryd.f126
def ZoY := kL Z6U
def Z53 := kO ZoY
def ZpT := opN Z53 0
def ZrU := opN Z53 1
theorem Z0ji : XG 126 14 ZoY Z53 [0] := Z1 (by rfl) (by rfl) _
theorem ZOO : Z53.toList = [ZpT, ZrU] := nf
theorem ZVq : stepA E C B 14 Z53 ZpT (φ, H) = stp (some 1) φ H (opBox (B + 1) (acells (fget φ 0))) := nf
theorem ZRG : stepA E C B 14 Z53 ZrU (φ, H) = stp (some 2) φ H (opBox (B + 2) (zeroCells E.T 126)) := nf
def Zeq := kR Z6U
def ZnR := kL Zeq
def ZK := kO ZnR
def ZqN := opN ZK 0
def Zyy := opN ZK 1
def Zp4 := opN ZK 2
def ZoB := opN ZK 3
def Zv1 := opN ZK 4
def ZsO := opN ZK 5
def Zy3 := opN ZK 6
def Zkw := opN ZK 7
def Zn9 := opN ZK 8
def Zo6 := opN ZK 9
def Zim := opN ZK 10
def Zha := opN ZK 11
theorem Z0cy : XG 126 14 ZnR ZK [1, 3, 4, 5, 6, 7, 8, 9, 10, 11, 12, 13] := Z1 (by rfl) (by rfl) _
theorem ZYk : ZK.toList = [ZqN, Zyy, Zp4, ZoB, Zv1, ZsO, Zy3, Zkw, Zn9, Zo6, Zim, Zha] := nf
theorem ZML : stepA E C B 14 ZK ZqN (φ, H) = stp (some 3) φ H (just (Z3 E.T 62 (fget φ 1) 0)) := nf
theorem ZSF : stepA E C B 14 ZK Zyy (φ, H) = stp (some 4) φ H (just (aLoad E.T 3 (fget φ 3))) := nf
theorem ZVr : stepA E C B 14 ZK Zp4 (φ, H) = stp (some 5) φ H (just (Z3 E.T 62 (fget φ 1) 1)) := nf
theorem ZOL : stepA E C B 14 ZK ZoB (φ, H) = stp (some 6) φ H (just (aLoad E.T 3 (fget φ 5))) := nf
theorem ZQU : stepA E C B 14 ZK Zv1 (φ, H) = stp (some 7) φ H (just (Z3 E.T 62 (fget φ 1) 2)) := nf
theorem ZMy : stepA E C B 14 ZK ZsO (φ, H) = stp (some 8) φ H (just (aLoad E.T 3 (fget φ 7))) := nf
theorem ZOH : stepA E C B 14 ZK Zy3 (φ, H) = stp (some 9) φ H (just (Z3 E.T 62 (fget φ 1) 3)) := nf
theorem ZPi : stepA E C B 14 ZK Zkw (φ, H) = stp (some 10) φ H (just (aLoad E.T 3 (fget φ 9))) := nf
theorem ZY8 : stepA E C B 14 ZK Zn9 (φ, H) = stp (some 11) φ H (just (Z3 E.T 62 (fget φ 1) 4)) := nf
theorem ZNo : stepA E C B 14 ZK Zo6 (φ, H) = stp (some 12) φ H (just (aLoad E.T 3 (fget φ 11))) := nf
theorem ZHG : stepA E C B 14 ZK Zim (φ, H) = stp (some 13) φ H (justO (aBuild E.T 126 (evO E φ) [(0, Operand.tmp 4), (1, Operand.tmp 6), (2, Operand.tmp 8), (3, Operand.tmp 10), (4, Operand.tmp 12)])) := nf
theorem ZKF : stepA E C B 14 ZK Zha (φ, H) = stp none φ H (opStore E.T 126 (fget φ 2) (fget φ 13)) := nf
def ZHF := kR Zeq
theorem Z0ho : execA E C (fg 126) B 14 E0 N ZHF s = some (.ret, s) := Zl (by rfl) s
theorem Z0fI : XQ 126 14 Zeq ZnR ZHF := Z0 (by rfl) _
theorem Z0fx : XQ 126 14 Z6U ZoY Zeq := Z0 (by rfl) _
theorem Z0i9 : fInfo E 126 = some ⟨14, #[.cell 2 126], Z6U⟩ := nf
theorem Z0nh (args : List AV) : bodyA E C fg N 126 args H B = bodyX E [.cell 2 126] (execA E C (fg 126) B 14 H N Z6U (Z7 args 0 [], H)) := Zn Z0i9 args H
abbrev Z0n8 := And.intro (And.intro (And.intro (And.intro @Z0ji @ZOO) (And.intro @ZVq (And.intro @ZRG @Z0cy))) (And.intro (And.intro @ZYk (And.intro @ZML @ZSF)) (And.intro @ZVr (And.intro @ZOL @ZQU)))) (And.intro (And.intro (And.intro @ZMy @ZOH) (And.intro @ZPi (And.intro @ZY8 @ZNo))) (And.intro (And.intro @ZHG (And.intro @ZKF @Z0ho)) (And.intro @Z0fI (And.intro @Z0fx @Z0nh))))
def Zc5 := kBody Proofs.Tryd.f99
def ZFG := kL Zc5
def Z7Z := kO ZFG
def ZAF := opN Z7Z 0
def ZDY := opN Z7Z 1
theorem Z0nZ : XG 99 16 ZFG Z7Z [0, 4] := Z1 (by rfl) (by rfl) _
theorem Z09w : Z7Z.toList = [ZAF, ZDY] := nf
theorem Z022 : stepA E C B 16 Z7Z ZAF (φ, H) = stp (some 2) φ H (opBox (B + 2) (acells (fget φ 0))) := nf
theorem Z05A : stepA E C B 16 Z7Z ZDY (φ, H) = some (fput φ 4 (.int .i64 0), H) := nf
def ZiR := kR Zc5
def ZFS := kL ZiR
def Z03 := kO ZFS
def ZEm := opN Z03 0
def ZF8 := opN Z03 1
def ZDc := opN Z03 2
def ZD6 := opN Z03 3
def ZBF := opN Z03 4
def ZAM := opN Z03 5
def ZyW := opN Z03 6
def ZDJ := opN Z03 7
def ZA0 := opN Z03 8
def ZCp := opN Z03 9
def Zpn := opN Z03 10
def Zn5 := opN Z03 11
theorem Z0nB : XG 99 16 ZFS Z03 [1, 2, 5, 6, 7, 8, 9, 10, 11, 12, 13, 14, 15] := Z1 (by rfl) (by rfl) _
theorem Z06X : Z03.toList = [ZEm, ZF8, ZDc, ZD6, ZBF, ZAM, ZyW, ZDJ, ZA0, ZCp, Zpn, Zn5] := nf
theorem Z05V : stepA E C B 16 Z03 ZEm (φ, H) = stp (some 5) φ H (just (Z2 E.T 126 (fget φ 2) (.int .i64 4))) := nf
theorem Z07X : stepA E C B 16 Z03 ZF8 (φ, H) = stp (some 6) φ H (just (aLoad E.T 3 (fget φ 5))) := nf
theorem Z04c : stepA E C B 16 Z03 ZDc (φ, H) = stp (some 7) φ H (just (Z2 E.T 126 (fget φ 2) (.int .i64 3))) := nf
theorem Z03v : stepA E C B 16 Z03 ZD6 (φ, H) = stp (some 8) φ H (just (aLoad E.T 3 (fget φ 7))) := nf
theorem Z03O : stepA E C B 16 Z03 ZBF (φ, H) = some (fput φ 9 (fget φ 1), H) := nf
theorem Z01V : stepA E C B 16 Z03 ZAM (φ, H) = stp (some 10) φ H (just (Z2 E.T 126 (fget φ 2) (.int .i64 2))) := nf
theorem Z01j : stepA E C B 16 Z03 ZyW (φ, H) = stp (some 11) φ H (just (aLoad E.T 3 (fget φ 10))) := nf
theorem Z08Z : stepA E C B 16 Z03 ZDJ (φ, H) = stp (some 12) φ H (just (aBin E.T .sub 3 (fget φ 9) (fget φ 11))) := nf
theorem Z02B : stepA E C B 16 Z03 ZA0 (φ, H) = stp (some 13) φ H (Z4 E.T (B + 13) .max #[3, 3] [(.int .i64 0), (fget φ 12)]) := nf
theorem Z016 : stepA E C B 16 Z03 ZCp (φ, H) = stp (some 14) φ H (just (aBin E.T .mul 3 (fget φ 8) (fget φ 13))) := nf
theorem ZUR : stepA E C B 16 Z03 Zpn (φ, H) = stp (some 15) φ H (just (aBin E.T .add 3 (fget φ 6) (fget φ 14))) := nf
theorem ZO5 : stepA E C B 16 Z03 Zn5 (φ, H) = some (fput φ 4 (fget φ 15), H) := nf
def ZZO := kR ZiR
theorem Z0mg : execA E C (fg 99) B 16 E0 N ZZO s = some (.ret, s) := Zl (by rfl) s
theorem Z0lB : XQ 99 16 ZiR ZFS ZZO := Z0 (by rfl) _
theorem Z0n6 : XQ 99 16 Zc5 ZFG ZiR := Z0 (by rfl) _
theorem Z0kM : fInfo E 99 = some ⟨16, #[.tmp 4], Zc5⟩ := nf
theorem b_99 (args : List AV) : bodyA E C fg N 99 args H B = bodyX E [.tmp 4] (execA E C (fg 99) B 16 H N Zc5 (Z7 args 0 [], H)) := Zn Z0kM args H
abbrev F_99 := And.intro (And.intro (And.intro (And.intro @Z0nZ @Z09w) (And.intro @Z022 (And.intro @Z05A @Z0nB))) (And.intro (And.intro @Z06X (And.intro @Z05V @Z07X)) (And.intro @Z04c (And.intro @Z03v @Z03O)))) (And.intro (And.intro (And.intro @Z01V @Z01j) (And.intro @Z08Z (And.intro @Z02B @Z016))) (And.intro (And.intro @ZUR (And.intro @ZO5 @Z0mg)) (And.intro @Z0lB (And.intro @Z0n6 @b_99))))
def Ze1 := kBody Proofs.Tryd.f88
def ZHb := kL Ze1
def Z4R := kO ZHb
def ZFe := opN Z4R 0
def ZFx := opN Z4R 1
def ZDV := opN Z4R 2
theorem Z0kv : XG 88 156 ZHb Z4R [0, 3] := Z1 (by rfl) (by rfl) _
theorem Z06p : Z4R.toList = [ZFe, ZFx, ZDV] := nf
theorem Z00e : stepA E C B 156 Z4R ZFe (φ, H) = stp (some 1) φ H (opBox (B + 1) (acells (fget φ 0))) := nf
theorem Z05G : stepA E C B 156 Z4R ZFx (φ, H) = stp (some 2) φ H (opBox (B + 2) (zeroCells E.T 109)) := nf
theorem Z02N : stepA E C B 156 Z4R ZDV (φ, H) = some (fput φ 3 (.int .i64 0), H) := nf
def Zjw := kR Ze1
def ZFO := kL Zjw
def Z2L := kO ZFO
def ZC6 := opN Z2L 0
def ZDi := opN Z2L 1
def ZCy := opN Z2L 2
def ZBL := opN Z2L 3
theorem Z0md : XG 88 156 ZFO Z2L [15, 16, 17] := Z1 (by rfl) (by rfl) _
theorem Z07k : Z2L.toList = [ZC6, ZDi, ZCy, ZBL] := nf
theorem Z02Q : stepA E C B 156 Z2L ZC6 (φ, H) = stp (some 15) φ H (just (Z3 E.T 25 (fget φ 1) 0)) := nf
theorem Z01B : stepA E C B 156 Z2L ZDi (φ, H) = stp (some 16) φ H (just (aLoad E.T 22 (fget φ 15))) := nf
theorem Z08T : stepA E C B 156 Z2L ZCy (φ, H) = stp (some 17) φ H (Z4 E.T (B + 17) .len #[22] [(fget φ 16)]) := nf
theorem Z08j : stepA E C B 156 Z2L ZBL (φ, H) = some (fput φ 4 (fget φ 17), H) := nf
def ZjY := kR Zjw
def ZHk := kL ZjY
def Zjg := kB ZHk
def ZGM := kL Zjg
def Z4H := kO ZGM
def ZBT := opN Z4H 0
def ZD0 := opN Z4H 1
def ZBZ := opN Z4H 2
theorem Z0ne : XG 88 156 ZGM Z4H [19, 20] := Z1 (by rfl) (by rfl) _
theorem Z03B : Z4H.toList = [ZBT, ZD0, ZBZ] := nf
theorem Z05z : stepA E C B 156 Z4H ZBT (φ, H) = some (fput φ 19 (fget φ 4), H) := nf
theorem Z02U : stepA E C B 156 Z4H ZD0 (φ, H) = stp (some 20) φ H (just (aBin E.T .eql 3 (fget φ 19) (.int .i64 0))) := nf
theorem Z042 : stepA E C B 156 Z4H ZBZ (φ, H) = some (fput φ 18 (fget φ 20), H) := nf
def ZjR := kR Zjg
def ZjC := kT ZjR
def Zwq := kL ZjC
def Z4G := kO Zwq
def ZC3 := opN Z4G 0
def ZEP := opN Z4G 1
def ZFg := opN Z4G 2
theorem Z0h5 : XG 88 156 Zwq Z4G [1, 4, 18, 21] := Z1 (by rfl) (by rfl) _
theorem Z02V : Z4G.toList = [ZC3, ZEP, ZFg] := nf
theorem Z0ba : stepA E C B 156 Z4G ZC3 (φ, H) = stp (some 21) φ H (justO (aBuild E.T 109 (evO E φ) [])) := nf
theorem Z0bf : stepA E C B 156 Z4G ZEP (φ, H) = stp none φ H (opStore E.T 109 (fget φ 2) (fget φ 21)) := nf
theorem Z0ar : stepA E C B 156 Z4G ZFg (φ, H) = some (fput φ 3 (.int .i64 4), H) := nf
def ZJi := kR ZjC
theorem Z0em : execA E C (fg 88) B 156 E0 N ZJi s = some (.ret, s) := Zl (by rfl) s
theorem Z0kX : XQ 88 156 ZjC Zwq ZJi := Z0 (by rfl) _
def Zd5 := kE ZjR
def ZwK := kL Zd5
def Z0n := kO ZwK
def ZEt := opN Z0n 0
def ZBt := opN Z0n 1
def Z3J := opN Z0n 2
def ZDQ := opN Z0n 3
def ZDS := opN Z0n 4
def ZzV := opN Z0n 5
def ZDP := opN Z0n 6
def ZF5 := opN Z0n 7
def ZAR := opN Z0n 8
theorem Z0eG : XG 88 156 ZwK Z0n [18, 23, 24, 25, 26, 27, 28, 29, 30] := Z1 (by rfl) (by rfl) _
theorem Z01n : Z0n.toList = [ZEt, ZBt, Z3J, ZDQ, ZDS, ZzV, ZDP, ZF5, ZAR] := nf
theorem Z06y : stepA E C B 156 Z0n ZEt (φ, H) = some (fput φ 23 (fget φ 4), H) := nf
theorem Z02d : stepA E C B 156 Z0n ZBt (φ, H) = stp (some 24) φ H (just (aBin E.T .gtr 3 (fget φ 23) (.int .i64 6))) := nf
theorem Z08F : stepA E C B 156 Z0n Z3J (φ, H) = some (fput φ 25 (fget φ 24), H) := nf
theorem Z03T : stepA E C B 156 Z0n ZDQ (φ, H) = gd φ 25 false (fun φ => some (fput φ 26 (.tup []), H)) (fun φ => stp (some 26) φ H (just (Z3 E.T 25 (fget φ 1) 1))) := s_gd (j := 2) (oj := Z3J) rfl rfl rfl (fun _ => rfl) (fun _ => rfl)
theorem Z07b : stepA E C B 156 Z0n ZDS (φ, H) = gd φ 25 false (fun φ => some (fput φ 27 (.tup []), H)) (fun φ => stp (some 27) φ H (just (aLoad E.T 23 (fget φ 26)))) := s_gd (j := 2) (oj := Z3J) rfl rfl rfl (fun _ => rfl) (fun _ => rfl)
theorem Z06J : stepA E C B 156 Z0n ZzV (φ, H) = gd φ 25 false (fun φ => some (fput φ 28 (.tup []), H)) (fun φ => stp (some 28) φ H (Z4 E.T (B + 28) .len #[23] [(fget φ 27)])) := s_gd (j := 2) (oj := Z3J) rfl rfl rfl (fun _ => rfl) (fun _ => rfl)
theorem Z02m : stepA E C B 156 Z0n ZDP (φ, H) = gd φ 25 false (fun φ => some (fput φ 29 (.tup []), H)) (fun φ => stp (some 29) φ H (just (aBin E.T .gtr 3 (fget φ 28) (.int .i64 15)))) := s_gd (j := 2) (oj := Z3J) rfl rfl rfl (fun _ => rfl) (fun _ => rfl)
theorem Z03m : stepA E C B 156 Z0n ZF5 (φ, H) = stp (some 30) φ H (opPick (fget φ 25) (.bool true) (fget φ 29)) := nf
theorem Z00g : stepA E C B 156 Z0n ZAR (φ, H) = some (fput φ 22 (fget φ 30), H) := nf
def ZcG := kR Zd5
def ZeO := kT ZcG
def Ztt := kL ZeO
def Z4x := kO Ztt
def ZAH := opN Z4x 0
def ZDf := opN Z4x 1
def ZEb := opN Z4x 2
theorem Z0fm : XG 88 156 Ztt Z4x [1, 4, 22, 31] := Z1 (by rfl) (by rfl) _
theorem Z07u : Z4x.toList = [ZAH, ZDf, ZEb] := nf
theorem Z0aA : stepA E C B 156 Z4x ZAH (φ, H) = stp (some 31) φ H (justO (aBuild E.T 109 (evO E φ) [])) := nf
theorem Z0bb : stepA E C B 156 Z4x ZDf (φ, H) = stp none φ H (opStore E.T 109 (fget φ 2) (fget φ 31)) := nf
theorem Z03I : stepA E C B 156 Z4x ZEb (φ, H) = some (fput φ 3 (.int .i64 3), H) := nf
def ZJj := kR ZeO
theorem Z0gc : execA E C (fg 88) B 156 E0 N ZJj s = some (.ret, s) := Zl (by rfl) s
theorem Z0k6 : XQ 88 156 ZeO Ztt ZJj := Z0 (by rfl) _
def ZJG := kE ZcG
theorem Z0i5 : execA E C (fg 88) B 156 E0 N ZJG s = some (.normal, s) := Zh (by rfl) s
theorem Z0f1 : XC 88 156 ZcG 22 ZeO ZJG := Zb (by rfl) _
theorem Z0gp : XQ 88 156 Zd5 ZwK ZcG := Z0 (by rfl) _
theorem Z0ln : XC 88 156 ZjR 18 ZjC Zd5 := Zb (by rfl) _
theorem Z0od : XQ 88 156 Zjg ZGM ZjR := Z0 (by rfl) _
theorem Z0lz : execA E C (fg 88) B 156 E0 N ZHk s = blockX 0 (fun s => (forget s.1 [22], s.2)) (execA E C (fg 88) B 156 E0 N Zjg s) := Za (by rfl) (by rfl) s
def Zdf := kR ZjY
def ZlQ := kL Zdf
def Z28 := kO ZlQ
def ZAS := opN Z28 0
def ZEn := opN Z28 1
def ZBf := opN Z28 2
def ZyU := opN Z28 3
def ZAh := opN Z28 4
theorem Z0ez : XG 88 156 ZlQ Z28 [32, 33, 34] := Z1 (by rfl) (by rfl) _
theorem Z05T : Z28.toList = [ZAS, ZEn, ZBf, ZyU, ZAh] := nf
theorem Z09h : stepA E C B 156 Z28 ZAS (φ, H) = some (fput φ 32 (fget φ 4), H) := nf
theorem Z06E : stepA E C B 156 Z28 ZEn (φ, H) = stp (some 33) φ H (aMake E.T (B + 33) 107 (fget φ 32) (fget φ 32)) := nf
theorem Z06u : stepA E C B 156 Z28 ZBf (φ, H) = stp (some 34) φ H (justO (aBuild E.T 109 (evO E φ) [(1, Operand.tmp 33)])) := nf
theorem Z07i : stepA E C B 156 Z28 ZyU (φ, H) = stp (some 5) φ H (opBox (B + 5) (zeroCells E.T 109)) := nf
theorem Z00h : stepA E C B 156 Z28 ZAh (φ, H) = stp none φ H (opStore E.T 109 (fget φ 5) (fget φ 34)) := nf
def ZdI := kR Zdf
def ZcM := kL ZdI
def Zke := kL ZcM
def Z2P := kO Zke
def ZzM := opN Z2P 0
def ZDX := opN Z2P 1
def ZAs := opN Z2P 2
def Zzq := opN Z2P 3
theorem Z0e2 : XG 88 156 Zke Z2P [35] := Z1 (by rfl) (by rfl) _
theorem Z03F : Z2P.toList = [ZzM, ZDX, ZAs, Zzq] := nf
theorem Z000 : stepA E C B 156 Z2P ZzM (φ, H) = stp (some 35) φ H (just (Z3 E.T 25 (fget φ 1) 0)) := nf
theorem Z02b : stepA E C B 156 Z2P ZDX (φ, H) = stp (some 36) φ H (just (aLoad E.T 22 (fget φ 35))) := nf
theorem Z06P : stepA E C B 156 Z2P ZAs (φ, H) = stp (some 37) φ H (Z4 E.T (B + 37) .len #[22] [(fget φ 36)]) := nf
theorem Z00F : stepA E C B 156 Z2P Zzq (φ, H) = some (fput φ 38 (.int .i64 0), H) := nf
def ZqF := kR ZcM
def Znu := kB ZqF
def Z1u := kB Znu
def Ztr := kL Z1u
def ZjO := kO Ztr
def Zzn := opN ZjO 0
theorem Z0f2 : XG 88 156 Ztr ZjO [] := Z1 (by rfl) (by rfl) _
theorem Z078 : ZjO.toList = [Zzn] := nf
theorem Z00X : stepA E C B 156 ZjO Zzn (φ, H) = stp (some 39) φ H (just (aBin E.T .lss 3 (fget φ 38) (fget φ 37))) := nf
def Zb4 := kR Z1u
def Ze9 := kL Zb4
def ZK3 := kT Ze9
theorem Z0ja : execA E C (fg 88) B 156 E0 N ZK3 s = some (.normal, s) := Zh (by rfl) s
def ZJW := kE Ze9
theorem Z0fC : execA E C (fg 88) B 156 E0 N ZJW s = some (.exit 1, s) := ZO (by rfl) s
theorem Z0k2 : XC 88 156 Ze9 39 ZK3 ZJW := Zb (by rfl) _
def Zdj := kR Zb4
def ZsP := kL Zdj
def ZeJ := kB ZsP
def Zwx := kL ZeJ
def Z2X := kO Zwx
def ZDR := opN Z2X 0
def ZF4 := opN Z2X 1
def ZBm := opN Z2X 2
def ZAm := opN Z2X 3
theorem Z0fs : XG 88 156 Zwx Z2X [39, 40, 41] := Z1 (by rfl) (by rfl) _
theorem Z09L : Z2X.toList = [ZDR, ZF4, ZBm, ZAm] := nf
theorem Z07B : stepA E C B 156 Z2X ZDR (φ, H) = stp (some 40) φ H (just (Z2 E.T 22 (fget φ 36) (fget φ 38))) := nf
theorem Z0ap : stepA E C B 156 Z2X ZF4 (φ, H) = stp (some 41) φ H (just (aLoad E.T 62 (fget φ 40))) := nf
theorem Z0aY : stepA E C B 156 Z2X ZBm (φ, H) = stp (some 7) φ H (opBox (B + 7) (zeroCells E.T 62)) := nf
theorem Z01o : stepA E C B 156 Z2X ZAm (φ, H) = stp none φ H (opStore E.T 62 (fget φ 7) (fget φ 41)) := nf
def ZbG := kR ZeJ
def Zki := kL ZbG
def Z1W := kO Zki
def ZxV := opN Z1W 0
def Zmq := opN Z1W 1
def Zwm := opN Z1W 2
def Zss := opN Z1W 3
theorem Z0e1 : XG 88 156 Zki Z1W [7, 42, 43] := Z1 (by rfl) (by rfl) _
theorem ZXA : Z1W.toList = [ZxV, Zmq, Zwm, Zss] := nf
theorem ZVt : stepA E C B 156 Z1W ZxV (φ, H) = stp (some 42) φ H (just (aLoad E.T 62 (fget φ 7))) := nf
theorem ZVW : stepA E C B 156 Z1W Zmq (φ, H) = stp (some 43) φ H (aCall C (fun j => B + j * 156 + 43) true 126 [(fget φ 42)]) := nf
theorem ZZ0 : stepA E C B 156 Z1W Zwm (φ, H) = stp (some 8) φ H (opBox (B + 8) (zeroCells E.T 126)) := nf
theorem ZV1 : stepA E C B 156 Z1W Zss (φ, H) = stp none φ H (opStore E.T 126 (fget φ 8) (fget φ 43)) := nf
def ZcC := kR ZbG
def Zt8 := kL ZcC
def ZbW := kB Zt8
def Zna := kL ZbW
def Z0j := kO Zna
def Zta := opN Z0j 0
def Zm3 := opN Z0j 1
def Zn4 := opN Z0j 2
def ZwN := opN Z0j 3
def ZxN := opN Z0j 4
theorem Z0bS : XD 88 156 Zna Z0j [45, 46, 47, 48] := Z1c (by rfl) (by rfl) _
theorem ZSQ : Z0j.toList = [Zta, Zm3, Zn4, ZwN, ZxN] := nf
theorem ZKN : statOk Z0j = true := by kernel_rfl
theorem ZKa : drawA E C B 156 Z0j s = if neat 156 s = true then drX Z0j (runT E C B 156 Z0j Z0j.toList 0 s) else none := Z0G ZKN s
theorem ZLa (l : List (Nat × Tr)) : dynOk Z0j l = (!writing l || Zg [[], [], [1], [0, 1, 2], [0, 1, 2, 3]] (Ze l)) := Z0r (by kernel_rfl) l
theorem ZYy : stepT E C B 156 Z0j Zta (φ, H) = stpT (some 45) φ H (just (aLoad E.T 126 (fget φ 8))) := Z5 rfl (Z8 rfl rfl)
theorem ZS0 : stepT E C B 156 Z0j Zm3 (φ, H) = stpT (some 46) φ H (just (aLoad E.T 126 (fget φ 8))) := Z5 rfl (Z8 rfl rfl)
theorem ZNc : stepT E C B 156 Z0j Zn4 (φ, H) = stpT (some 47) φ H (aCall C (fun j => B + j * 156 + 47) true 127 [(fget φ 46)]) := Z5 rfl (Z8 rfl rfl)
theorem ZN6 : stepT E C B 156 Z0j ZwN (φ, H) = stpT (some 48) φ H (just (aBin E.T .neq 126 (fget φ 45) (fget φ 47))) := Z5 rfl (Z8 rfl rfl)
theorem ZO2 : stepT E C B 156 Z0j ZxN (φ, H) = some ((fput φ 44 (fget φ 48), H), ⟨false, [], []⟩) := Z5 rfl (ZS rfl rfl)
def Zf2 := kR ZbW
def Zbp := kT Zf2
def ZsW := kL Zbp
def Z3m := kO ZsW
def Zll := opN Z3m 0
def ZkM := opN Z3m 1
def Znx := opN Z3m 2
theorem Z0hf : XG 88 156 ZsW Z3m [1, 4, 5, 8, 36, 37, 38, 44, 49] := Z1 (by rfl) (by rfl) _
theorem ZXV : Z3m.toList = [Zll, ZkM, Znx] := nf
theorem ZSI : stepA E C B 156 Z3m Zll (φ, H) = stp (some 49) φ H (justO (aBuild E.T 109 (evO E φ) [])) := nf
theorem ZYX : stepA E C B 156 Z3m ZkM (φ, H) = stp none φ H (opStore E.T 109 (fget φ 2) (fget φ 49)) := nf
theorem ZXT : stepA E C B 156 Z3m Znx (φ, H) = some (fput φ 3 (.int .i64 1), H) := nf
def ZKH := kR Zbp
theorem Z0bK : execA E C (fg 88) B 156 E0 N ZKH s = some (.ret, s) := Zl (by rfl) s
theorem Z0db : XQ 88 156 Zbp ZsW ZKH := Z0 (by rfl) _
def ZeN := kE Zf2
def Zr9 := kL ZeN
def Z0Q := kO Zr9
def Zu3 := opN Z0Q 0
def Zvj := opN Z0Q 1
def Znm := opN Z0Q 2
def ZkI := opN Z0Q 3
def ZxY := opN Z0Q 4
def Zsp := opN Z0Q 5
theorem Z0eR : XG 88 156 Zr9 Z0Q [44, 51, 52, 53, 54, 55] := Z1 (by rfl) (by rfl) _
theorem ZR7 : Z0Q.toList = [Zu3, Zvj, Znm, ZkI, ZxY, Zsp] := nf
theorem ZMt : stepA E C B 156 Z0Q Zu3 (φ, H) = stp (some 51) φ H (just (Z2 E.T 126 (fget φ 8) (.int .i64 0))) := nf
theorem ZZ5 : stepA E C B 156 Z0Q Zvj (φ, H) = stp (some 52) φ H (just (aLoad E.T 3 (fget φ 51))) := nf
theorem ZNu : stepA E C B 156 Z0Q Znm (φ, H) = stp (some 53) φ H (just (Z2 E.T 126 (fget φ 8) (.int .i64 1))) := nf
theorem ZU0 : stepA E C B 156 Z0Q ZkI (φ, H) = stp (some 54) φ H (just (aLoad E.T 3 (fget φ 53))) := nf
theorem ZOB : stepA E C B 156 Z0Q ZxY (φ, H) = stp (some 55) φ H (just (aBin E.T .gtr 3 (fget φ 52) (fget φ 54))) := nf
theorem ZUE : stepA E C B 156 Z0Q Zsp (φ, H) = some (fput φ 50 (fget φ 55), H) := nf
def Zcp := kR ZeN
def Zel := kT Zcp
def ZwC := kL Zel
def Z3v := kO ZwC
def ZpP := opN Z3v 0
def Znr := opN Z3v 1
def Zpy := opN Z3v 2
theorem Z0fo : XG 88 156 ZwC Z3v [1, 4, 5, 8, 36, 37, 38, 50, 56] := Z1 (by rfl) (by rfl) _
theorem ZYw : Z3v.toList = [ZpP, Znr, Zpy] := nf
theorem ZZx : stepA E C B 156 Z3v ZpP (φ, H) = stp (some 56) φ H (justO (aBuild E.T 109 (evO E φ) [])) := nf
theorem ZYY : stepA E C B 156 Z3v Znr (φ, H) = stp none φ H (opStore E.T 109 (fget φ 2) (fget φ 56)) := nf
theorem ZZv : stepA E C B 156 Z3v Zpy (φ, H) = some (fput φ 3 (.int .i64 7), H) := nf
def ZKR := kR Zel
theorem Z0fr : execA E C (fg 88) B 156 E0 N ZKR s = some (.ret, s) := Zl (by rfl) s
theorem Z0gq : XQ 88 156 Zel ZwC ZKR := Z0 (by rfl) _
def ZKG := kE Zcp
theorem Z0gb : execA E C (fg 88) B 156 E0 N ZKG s = some (.normal, s) := Zh (by rfl) s
theorem Z0iy : XC 88 156 Zcp 50 Zel ZKG := Zb (by rfl) _
theorem Z0gz : XQ 88 156 ZeN Zr9 Zcp := Z0 (by rfl) _
theorem Z0bX : XC 88 156 Zf2 44 Zbp ZeN := Zb (by rfl) _
theorem Z0c5 : XQ 88 156 ZbW Zna Zf2 := Z0 (by rfl) _
theorem Z0gE : execA E C (fg 88) B 156 E0 N Zt8 s = blockX 3 (fun s => (forget s.1 [50], s.2)) (execA E C (fg 88) B 156 E0 N ZbW s) := Za (by rfl) (by rfl) s
def Zx0 := kR ZcC
def Z0v := kO Zx0
def ZtW := opN Z0v 0
def Zuy := opN Z0v 1
def ZrI := opN Z0v 2
def Zm1 := opN Z0v 3
def Zyk := opN Z0v 4
def Zqt := opN Z0v 5
def Zxq := opN Z0v 6
theorem Z0en : XG 88 156 Zx0 Z0v [8, 57, 58, 59, 60, 61, 62] := Z1 (by rfl) (by rfl) _
theorem ZV4 : Z0v.toList = [ZtW, Zuy, ZrI, Zm1, Zyk, Zqt, Zxq] := nf
theorem ZOq : stepA E C B 156 Z0v ZtW (φ, H) = stp (some 57) φ H (just (Z3 E.T 109 (fget φ 5) 0)) := nf
theorem ZWO : stepA E C B 156 Z0v Zuy (φ, H) = stp (some 58) φ H (just (aLoad E.T 106 (fget φ 57))) := nf
theorem ZN4 : stepA E C B 156 Z0v ZrI (φ, H) = stp (some 59) φ H (just (aLoad E.T 126 (fget φ 8))) := nf
theorem ZYZ : stepA E C B 156 Z0v Zm1 (φ, H) = stp (some 60) φ H (Zd E.T (B + 60) 106 1 (evO E φ) [(0, Operand.tmp 59)]) := nf
theorem ZN2 : stepA E C B 156 Z0v Zyk (φ, H) = stp (some 61) φ H (Z4 E.T (B + 61) .append #[106, 106] [(fget φ 58), (fget φ 60)]) := nf
theorem ZTV : stepA E C B 156 Z0v Zqt (φ, H) = stp (some 62) φ H (just (Z3 E.T 109 (fget φ 5) 0)) := nf
theorem ZMR : stepA E C B 156 Z0v Zxq (φ, H) = stp none φ H (opStore E.T 106 (fget φ 62) (fget φ 61)) := nf
theorem Z0fF : XQ 88 156 ZcC Zt8 Zx0 := Z0 (by rfl) _
theorem Z0hE : XQ 88 156 ZbG Zki ZcC := Z0 (by rfl) _
theorem Z0ef : XQ 88 156 ZeJ Zwx ZbG := Z0 (by rfl) _
theorem Z0bM : execA E C (fg 88) B 156 E0 N ZsP s = blockX 2 (fun s => (forget s.1 [], s.2)) (execA E C (fg 88) B 156 E0 N ZeJ s) := Za (by rfl) (by rfl) s
def ZkG := kR Zdj
def Z5x := kO ZkG
def ZkY := opN Z5x 0
def Zwk := opN Z5x 1
theorem Z0fX : XG 88 156 ZkG Z5x [63] := Z1 (by rfl) (by rfl) _
theorem ZYF : Z5x.toList = [ZkY, Zwk] := nf
theorem ZUi : stepA E C B 156 Z5x ZkY (φ, H) = stp (some 63) φ H (just (aBin E.T .add 3 (fget φ 38) (.int .i64 1))) := nf
theorem ZSe : stepA E C B 156 Z5x Zwk (φ, H) = some (fput φ 38 (fget φ 63), H) := nf
theorem Z0jO : XQ 88 156 Zdj ZsP ZkG := Z0 (by rfl) _
theorem Z0i4 : XQ 88 156 Zb4 Ze9 Zdj := Z0 (by rfl) _
theorem Z0f3 : XQ 88 156 Z1u Ztr Zb4 := Z0 (by rfl) _
theorem Z0cR : execA E C (fg 88) B 156 E0 N Znu s = iterA (execA E C (fg 88) B 156 E0 N Z1u) (headA E0) N s := ZN (by rfl) s
theorem Z0jt : execA E C (fg 88) B 156 E0 N ZqF s = blockX 1 (fun s => (forget s.1 [36, 37, 38, 39], s.2)) (execA E C (fg 88) B 156 E0 N Znu s) := Za (by rfl) (by rfl) s
theorem Z0cf : XQ 88 156 ZcM Zke ZqF := Z0 (by rfl) _
def ZaV := kR ZdI
def ZeQ := kL ZaV
def ZwQ := kL ZeQ
def Z1N := kO ZwQ
def ZkN := opN Z1N 0
def Zkt := opN Z1N 1
def Zry := opN Z1N 2
def Zly := opN Z1N 3
theorem Z0hn : XG 88 156 ZwQ Z1N [64] := Z1 (by rfl) (by rfl) _
theorem ZXF : Z1N.toList = [ZkN, Zkt, Zry, Zly] := nf
theorem ZXn : stepA E C B 156 Z1N ZkN (φ, H) = stp (some 64) φ H (just (Z3 E.T 25 (fget φ 1) 1)) := nf
theorem ZUv : stepA E C B 156 Z1N Zkt (φ, H) = stp (some 65) φ H (just (aLoad E.T 23 (fget φ 64))) := nf
theorem ZR6 : stepA E C B 156 Z1N Zry (φ, H) = stp (some 66) φ H (Z4 E.T (B + 66) .len #[23] [(fget φ 65)]) := nf
theorem ZTF : stepA E C B 156 Z1N Zly (φ, H) = some (fput φ 67 (.int .i64 0), H) := nf
def ZmC := kR ZeQ
def Zom := kB ZmC
def Z13 := kB Zom
def Zs8 := kL Z13
def ZcI := kO Zs8
def Zun := opN ZcI 0
theorem Z0eE : XG 88 156 Zs8 ZcI [] := Z1 (by rfl) (by rfl) _
theorem ZNz : ZcI.toList = [Zun] := nf
theorem ZQA : stepA E C B 156 ZcI Zun (φ, H) = stp (some 68) φ H (just (aBin E.T .lss 3 (fget φ 67) (fget φ 66))) := nf
def Zdv := kR Z13
def Zc0 := kL Zdv
def ZLi := kT Zc0
theorem Z0c1 : execA E C (fg 88) B 156 E0 N ZLi s = some (.normal, s) := Zh (by rfl) s
def ZKd := kE Zc0
theorem Z0gO : execA E C (fg 88) B 156 E0 N ZKd s = some (.exit 4, s) := ZO (by rfl) s
theorem Z0cE : XC 88 156 Zc0 68 ZLi ZKd := Zb (by rfl) _
def Zd4 := kR Zdv
def Zrn := kL Zd4
def ZaF := kB Zrn
def ZoO := kL ZaF
def Z0O := kO ZoO
def ZoJ := opN Z0O 0
def ZnV := opN Z0O 1
def Zq4 := opN Z0O 2
def ZoX := opN Z0O 3
def Zqi := opN Z0O 4
def Zuq := opN Z0O 5
theorem Z0hO : XG 88 156 ZoO Z0O [68, 69, 70, 71] := Z1 (by rfl) (by rfl) _
theorem ZZd : Z0O.toList = [ZoJ, ZnV, Zq4, ZoX, Zqi, Zuq] := nf
theorem ZSi : stepA E C B 156 Z0O ZoJ (φ, H) = some (fput φ 69 (fget φ 67), H) := nf
theorem ZUB : stepA E C B 156 Z0O ZnV (φ, H) = stp (some 70) φ H (just (Z2 E.T 23 (fget φ 65) (fget φ 67))) := nf
theorem ZO6 : stepA E C B 156 Z0O Zq4 (φ, H) = stp (some 71) φ H (just (aLoad E.T 64 (fget φ 70))) := nf
theorem ZXH : stepA E C B 156 Z0O ZoX (φ, H) = stp (some 10) φ H (opBox (B + 10) (zeroCells E.T 64)) := nf
theorem ZXj : stepA E C B 156 Z0O Zqi (φ, H) = some (fput φ 9 (fget φ 69), H) := nf
theorem ZSS : stepA E C B 156 Z0O Zuq (φ, H) = stp none φ H (opStore E.T 64 (fget φ 10) (fget φ 71)) := nf
def Zb5 := kR ZaF
def Zx8 := kL Zb5
def ZbS := kB Zx8
def ZvS := kL ZbS
def Zs := kO ZvS
def Zm5 := opN Zs 0
def Zy1 := opN Zs 1
def ZnJ := opN Zs 2
def Zwl := opN Zs 3
def ZlV := opN Zs 4
def ZuB := opN Zs 5
def Z16 := opN Zs 6
def Zrd := opN Zs 7
def ZrX := opN Zs 8
def Zp6 := opN Zs 9
def ZhL := opN Zs 10
def Zi7 := opN Zs 11
def ZhK := opN Zs 12
def Ziw := opN Zs 13
def ZiG := opN Zs 14
def Zhc := opN Zs 15
theorem Z0dt : XG 88 156 ZvS Zs [73, 74, 75, 76, 77, 78, 79, 80, 81, 82, 83, 84, 85, 86, 87] := Z1 (by rfl) (by rfl) _
theorem ZWF : Zs.toList = [Zm5, Zy1, ZnJ, Zwl, ZlV, ZuB, Z16, Zrd, ZrX, Zp6, ZhL, Zi7, ZhK, Ziw, ZiG, Zhc] := nf
theorem ZOK : stepA E C B 156 Zs Zm5 (φ, H) = stp (some 73) φ H (just (Z2 E.T 64 (fget φ 10) (.int .i64 0))) := nf
theorem ZTL : stepA E C B 156 Zs Zy1 (φ, H) = stp (some 74) φ H (just (aLoad E.T 3 (fget φ 73))) := nf
theorem ZZE : stepA E C B 156 Zs ZnJ (φ, H) = stp (some 75) φ H (just (Z2 E.T 64 (fget φ 10) (.int .i64 1))) := nf
theorem ZYS : stepA E C B 156 Zs Zwl (φ, H) = stp (some 76) φ H (just (aLoad E.T 3 (fget φ 75))) := nf
theorem ZZl : stepA E C B 156 Zs ZlV (φ, H) = stp (some 77) φ H (Z4 E.T (B + 77) .min #[3, 3] [(fget φ 74), (fget φ 76)]) := nf
theorem ZUY : stepA E C B 156 Zs ZuB (φ, H) = stp (some 78) φ H (just (aBin E.T .lss 3 (fget φ 77) (.int .i64 0))) := nf
theorem ZU4 : stepA E C B 156 Zs Z16 (φ, H) = some (fput φ 79 (fget φ 78), H) := nf
theorem ZWZ : stepA E C B 156 Zs Zrd (φ, H) = gd φ 79 false (fun φ => some (fput φ 80 (.tup []), H)) (fun φ => stp (some 80) φ H (just (Z2 E.T 64 (fget φ 10) (.int .i64 0)))) := s_gd (j := 6) (oj := Z16) rfl rfl rfl (fun _ => rfl) (fun _ => rfl)
theorem ZQH : stepA E C B 156 Zs ZrX (φ, H) = gd φ 79 false (fun φ => some (fput φ 81 (.tup []), H)) (fun φ => stp (some 81) φ H (just (aLoad E.T 3 (fget φ 80)))) := s_gd (j := 6) (oj := Z16) rfl rfl rfl (fun _ => rfl) (fun _ => rfl)
theorem ZVe : stepA E C B 156 Zs Zp6 (φ, H) = gd φ 79 false (fun φ => some (fput φ 82 (.tup []), H)) (fun φ => stp (some 82) φ H (just (Z2 E.T 64 (fget φ 10) (.int .i64 1)))) := s_gd (j := 6) (oj := Z16) rfl rfl rfl (fun _ => rfl) (fun _ => rfl)
theorem ZHT : stepA E C B 156 Zs ZhL (φ, H) = gd φ 79 false (fun φ => some (fput φ 83 (.tup []), H)) (fun φ => stp (some 83) φ H (just (aLoad E.T 3 (fget φ 82)))) := s_gd (j := 6) (oj := Z16) rfl rfl rfl (fun _ => rfl) (fun _ => rfl)
theorem ZHy : stepA E C B 156 Zs Zi7 (φ, H) = gd φ 79 false (fun φ => some (fput φ 84 (.tup []), H)) (fun φ => stp (some 84) φ H (Z4 E.T (B + 84) .max #[3, 3] [(fget φ 81), (fget φ 83)])) := s_gd (j := 6) (oj := Z16) rfl rfl rfl (fun _ => rfl) (fun _ => rfl)
theorem ZI2 : stepA E C B 156 Zs ZhK (φ, H) = gd φ 79 false (fun φ => some (fput φ 85 (.tup []), H)) (fun φ => some (fput φ 85 (fget φ 4), H)) := s_gd (j := 6) (oj := Z16) rfl rfl rfl (fun _ => rfl) (fun _ => rfl)
theorem ZIs : stepA E C B 156 Zs Ziw (φ, H) = gd φ 79 false (fun φ => some (fput φ 86 (.tup []), H)) (fun φ => stp (some 86) φ H (just (aBin E.T .geq 3 (fget φ 84) (fget φ 85)))) := s_gd (j := 6) (oj := Z16) rfl rfl rfl (fun _ => rfl) (fun _ => rfl)
theorem ZK2 : stepA E C B 156 Zs ZiG (φ, H) = stp (some 87) φ H (opPick (fget φ 79) (.bool true) (fget φ 86)) := nf
theorem ZKI : stepA E C B 156 Zs Zhc (φ, H) = some (fput φ 72 (fget φ 87), H) := nf
def ZcF := kR ZbS
def ZaS := kT ZcF
def Ztd := kL ZaS
def Z3a := kO Ztd
def Zv4 := opN Z3a 0
def Zso := opN Z3a 1
def Zuf := opN Z3a 2
theorem Z0gr : XG 88 156 Ztd Z3a [1, 4, 5, 9, 10, 65, 66, 67, 72, 88] := Z1 (by rfl) (by rfl) _
theorem ZWh : Z3a.toList = [Zv4, Zso, Zuf] := nf
theorem ZWa : stepA E C B 156 Z3a Zv4 (φ, H) = stp (some 88) φ H (justO (aBuild E.T 109 (evO E φ) [])) := nf
theorem ZOU : stepA E C B 156 Z3a Zso (φ, H) = stp none φ H (opStore E.T 109 (fget φ 2) (fget φ 88)) := nf
theorem ZO7 : stepA E C B 156 Z3a Zuf (φ, H) = some (fput φ 3 (.int .i64 2), H) := nf
def ZHE := kR ZaS
theorem Z0jT : execA E C (fg 88) B 156 E0 N ZHE s = some (.ret, s) := Zl (by rfl) s
theorem Z0j2 : XQ 88 156 ZaS Ztd ZHE := Z0 (by rfl) _
def ZcR := kE ZcF
def Zyu := kL ZcR
def ZX := kO Zyu
def ZwS := opN ZX 0
def Zqj := opN ZX 1
def ZvM := opN ZX 2
def ZqT := opN ZX 3
def ZvO := opN ZX 4
def ZpO := opN ZX 5
def ZmQ := opN ZX 6
theorem Z0dn : XD 88 156 Zyu ZX [9, 72, 90, 91, 92, 93, 94, 95] := Z1c (by rfl) (by rfl) _
theorem ZQ3 : ZX.toList = [ZwS, Zqj, ZvM, ZqT, ZvO, ZpO, ZmQ] := nf
theorem ZID : statOk ZX = true := by kernel_rfl
theorem ZJS : drawA E C B 156 ZX s = if neat 156 s = true then drX ZX (runT E C B 156 ZX ZX.toList 0 s) else none := Z0G ZID s
theorem ZI1 (l : List (Nat × Tr)) : dynOk ZX l = (!writing l || Zg [[], [0], [], [0, 1, 2], [], [0, 1, 2, 3, 4], [0, 1, 2, 3, 4, 5]] (Ze l)) := Z0r (by kernel_rfl) l
theorem ZNL : stepT E C B 156 ZX ZwS (φ, H) = stpT (some 90) φ H (just (Z3 E.T 25 (fget φ 1) 1)) := Z5 rfl (Z8 rfl rfl)
theorem ZWH : stepT E C B 156 ZX Zqj (φ, H) = stpT (some 91) φ H (just (aLoad E.T 23 (fget φ 90))) := Z5 rfl (Z8 rfl rfl)
theorem ZMS : stepT E C B 156 ZX ZvM (φ, H) = some ((fput φ 92 (fget φ 9), H), ⟨false, [], []⟩) := Z5 rfl (ZS rfl rfl)
theorem ZOI : stepT E C B 156 ZX ZqT (φ, H) = stpT (some 93) φ H (just (aSlice E.T 23 (fget φ 91) none (some (fget φ 92)) none)) := Z5 rfl (Z8 rfl rfl)
theorem ZRZ : stepT E C B 156 ZX ZvO (φ, H) = stpT (some 94) φ H (just (aLoad E.T 64 (fget φ 10))) := Z5 rfl (Z8 rfl rfl)
theorem ZUt : stepT E C B 156 ZX ZpO (φ, H) = stpT (some 95) φ H (aCall C (fun j => B + j * 156 + 95) true 79 [(fget φ 93), (fget φ 94)]) := Z5 rfl (Z8 rfl rfl)
theorem ZP4 : stepT E C B 156 ZX ZmQ (φ, H) = some ((fput φ 89 (fget φ 95), H), ⟨false, [], []⟩) := Z5 rfl (ZS rfl rfl)
def Zei := kR ZcR
def Zfh := kT Zei
def Zwt := kL Zfh
def Z3s := kO Zwt
def Zvl := opN Z3s 0
def Zsi := opN Z3s 1
def ZxK := opN Z3s 2
theorem Z0fp : XG 88 156 Zwt Z3s [1, 4, 5, 10, 65, 66, 67, 89, 96] := Z1 (by rfl) (by rfl) _
theorem ZZa : Z3s.toList = [Zvl, Zsi, ZxK] := nf
theorem ZLV : stepA E C B 156 Z3s Zvl (φ, H) = stp (some 96) φ H (justO (aBuild E.T 109 (evO E φ) [])) := nf
theorem ZPo : stepA E C B 156 Z3s Zsi (φ, H) = stp none φ H (opStore E.T 109 (fget φ 2) (fget φ 96)) := nf
theorem ZSB : stepA E C B 156 Z3s ZxK (φ, H) = some (fput φ 3 (.int .i64 6), H) := nf
def ZKV := kR Zfh
theorem Z0dk : execA E C (fg 88) B 156 E0 N ZKV s = some (.ret, s) := Zl (by rfl) s
theorem Z0eU : XQ 88 156 Zfh Zwt ZKV := Z0 (by rfl) _
def ZI6 := kE Zei
theorem Z0hV : execA E C (fg 88) B 156 E0 N ZI6 s = some (.normal, s) := Zh (by rfl) s
theorem Z0cO : XC 88 156 Zei 89 Zfh ZI6 := Zb (by rfl) _
theorem Z0iY : XQ 88 156 ZcR Zyu Zei := Z0 (by rfl) _
theorem Z0k0 : XC 88 156 ZcF 72 ZaS ZcR := Zb (by rfl) _
theorem Z0jN : XQ 88 156 ZbS ZvS ZcF := Z0 (by rfl) _
theorem Z0gU : execA E C (fg 88) B 156 E0 N Zx8 s = blockX 6 (fun s => (forget s.1 [89], s.2)) (execA E C (fg 88) B 156 E0 N ZbS s) := Za (by rfl) (by rfl) s
def ZqH := kR Zb5
def Zw := kO ZqH
def Zy7 := opN Zw 0
def Zs0 := opN Zw 1
def Zrf := opN Zw 2
def Zr4 := opN Zw 3
def Zk8 := opN Zw 4
def ZtI := opN Zw 5
def ZrC := opN Zw 6
def ZvC := opN Zw 7
def Zr1 := opN Zw 8
def Zl3 := opN Zw 9
def Zi8 := opN Zw 10
def Zh9 := opN Zw 11
theorem Z0h3 : XD 88 156 ZqH Zw [10, 97, 98, 99, 100, 101, 102, 103, 104, 105, 106, 107] := Z1c (by rfl) (by rfl) _
theorem ZMa : Zw.toList = [Zy7, Zs0, Zrf, Zr4, Zk8, ZtI, ZrC, ZvC, Zr1, Zl3, Zi8, Zh9] := nf
theorem ZLx : statOk Zw = true := by kernel_rfl
theorem ZJD : drawA E C B 156 Zw s = if neat 156 s = true then drX Zw (runT E C B 156 Zw Zw.toList 0 s) else none := Z0G ZLx s
theorem ZIJ (l : List (Nat × Tr)) : dynOk Zw l = (!writing l || Zg [[], [0], [], [2], [0, 1, 2, 3], [0, 1, 2, 3, 4], [], [6], [6, 7], [0, 1, 2, 3, 4, 5, 6, 7, 8], [0, 1, 2, 3, 4, 5, 6, 7, 8, 9], [0, 1, 2, 3, 4, 5, 6, 7, 8, 9, 10]] (Ze l)) := Z0r (by kernel_rfl) l
theorem ZRu : stepT E C B 156 Zw Zy7 (φ, H) = stpT (some 97) φ H (just (Z3 E.T 109 (fget φ 5) 1)) := Z5 rfl (Z8 rfl rfl)
theorem ZUL : stepT E C B 156 Zw Zs0 (φ, H) = stpT (some 98) φ H (just (aLoad E.T 107 (fget φ 97))) := Z5 rfl (Z8 rfl rfl)
theorem ZPx : stepT E C B 156 Zw Zrf (φ, H) = stpT (some 99) φ H (just (Z2 E.T 64 (fget φ 10) (.int .i64 0))) := Z5 rfl (Z8 rfl rfl)
theorem ZTx : stepT E C B 156 Zw Zr4 (φ, H) = stpT (some 100) φ H (just (aLoad E.T 3 (fget φ 99))) := Z5 rfl (Z8 rfl rfl)
theorem ZMA : stepT E C B 156 Zw Zk8 (φ, H) = stpT (some 101) φ H (just (Z2 E.T 107 (fget φ 98) (fget φ 100))) := Z5 rfl (Z8 rfl rfl)
theorem ZVX : stepT E C B 156 Zw ZtI (φ, H) = stpT (some 102) φ H (just (aLoad E.T 121 (fget φ 101))) := Z5 rfl (Z8 rfl rfl)
theorem ZPp : stepT E C B 156 Zw ZrC (φ, H) = stpT (some 103) φ H (just (Z2 E.T 64 (fget φ 10) (.int .i64 1))) := Z5 rfl (Z8 rfl rfl)
theorem ZM0 : stepT E C B 156 Zw ZvC (φ, H) = stpT (some 104) φ H (just (aLoad E.T 3 (fget φ 103))) := Z5 rfl (Z8 rfl rfl)
theorem ZOl : stepT E C B 156 Zw Zr1 (φ, H) = stpT (some 105) φ H (just (aBin E.T .shl 121 (.int .u64 1) (fget φ 104))) := Z5 rfl (Z8 rfl rfl)
theorem ZOe : stepT E C B 156 Zw Zl3 (φ, H) = stpT (some 106) φ H (just (aBin E.T .or 121 (fget φ 102) (fget φ 105))) := Z5 rfl (Z8 rfl rfl)
theorem ZKw : stepT E C B 156 Zw Zi8 (φ, H) = stpT (some 107) φ H (just (Z2 E.T 107 (fget φ 98) (fget φ 100))) := Z5 rfl (Z8 rfl rfl)
theorem ZJB : stepT E C B 156 Zw Zh9 (φ, H) = stpT none φ H (opStore E.T 121 (fget φ 107) (fget φ 106)) := Z5 rfl (Z8 rfl rfl)
theorem Z0jg : XQ 88 156 Zb5 Zx8 ZqH := Z0 (by rfl) _
theorem Z0j3 : XQ 88 156 ZaF ZoO Zb5 := Z0 (by rfl) _
theorem Z0gy : execA E C (fg 88) B 156 E0 N Zrn s = blockX 5 (fun s => (forget s.1 [], s.2)) (execA E C (fg 88) B 156 E0 N ZaF s) := Za (by rfl) (by rfl) s
def Zuh := kR Zd4
def Z6b := kO Zuh
def ZlK := opN Z6b 0
def ZlW := opN Z6b 1
theorem Z0kc : XG 88 156 Zuh Z6b [108] := Z1 (by rfl) (by rfl) _
theorem ZUw : Z6b.toList = [ZlK, ZlW] := nf
theorem ZSh : stepA E C B 156 Z6b ZlK (φ, H) = stp (some 108) φ H (just (aBin E.T .add 3 (fget φ 67) (.int .i64 1))) := nf
theorem ZMJ : stepA E C B 156 Z6b ZlW (φ, H) = some (fput φ 67 (fget φ 108), H) := nf
theorem Z0gk : XQ 88 156 Zd4 Zrn Zuh := Z0 (by rfl) _
theorem Z0ga : XQ 88 156 Zdv Zc0 Zd4 := Z0 (by rfl) _
theorem Z0jk : XQ 88 156 Z13 Zs8 Zdv := Z0 (by rfl) _
theorem Z0c9 : execA E C (fg 88) B 156 E0 N Zom s = iterA (execA E C (fg 88) B 156 E0 N Z13) (headA E0) N s := ZN (by rfl) s
theorem Z0gv : execA E C (fg 88) B 156 E0 N ZmC s = blockX 4 (fun s => (forget s.1 [1, 65, 66, 67, 68], s.2)) (execA E C (fg 88) B 156 E0 N Zom s) := Za (by rfl) (by rfl) s
theorem Z0jr : XQ 88 156 ZeQ ZwQ ZmC := Z0 (by rfl) _
def ZaZ := kR ZaV
def ZeL := kL ZaZ
def Zrp := kL ZeL
def Z5K := kO Zrp
def ZtH := opN Z5K 0
def Zut := opN Z5K 1
theorem Z0fv : XG 88 156 Zrp Z5K [] := Z1 (by rfl) (by rfl) _
theorem ZWj : Z5K.toList = [ZtH, Zut] := nf
theorem ZLS : stepA E C B 156 Z5K ZtH (φ, H) = some (fput φ 109 (fget φ 4), H) := nf
theorem ZVs : stepA E C B 156 Z5K Zut (φ, H) = some (fput φ 110 (.int .i64 0), H) := nf
def Zkl := kR ZeL
def Zsm := kB Zkl
def Z5M := kB Zsm
def Zo0 := kL Z5M
def ZeK := kO Zo0
def ZlN := opN ZeK 0
theorem Z0f9 : XG 88 156 Zo0 ZeK [] := Z1 (by rfl) (by rfl) _
theorem ZQ6 : ZeK.toList = [ZlN] := nf
theorem ZW0 : stepA E C B 156 ZeK ZlN (φ, H) = stp (some 111) φ H (just (aBin E.T .lss 3 (fget φ 110) (fget φ 109))) := nf
def Zcs := kR Z5M
def Ze2 := kL Zcs
def ZHx := kT Ze2
theorem Z0hD : execA E C (fg 88) B 156 E0 N ZHx s = some (.normal, s) := Zh (by rfl) s
def ZJs := kE Ze2
theorem Z0c6 : execA E C (fg 88) B 156 E0 N ZJs s = some (.exit 7, s) := ZO (by rfl) s
theorem Z0ev : XC 88 156 Ze2 111 ZHx ZJs := Zb (by rfl) _
def Zen := kR Zcs
def Zub := kL Zen
def Z88 := kB Zub
def ZfL := kL Z88
def Z5t := kO ZfL
def Zxe := opN Z5t 0
def Zkd := opN Z5t 1
theorem Z03q : XG 88 156 ZfL Z5t [111, 112] := Z1 (by rfl) (by rfl) _
theorem ZLH : Z5t.toList = [Zxe, Zkd] := nf
theorem ZVN : stepA E C B 156 Z5t Zxe (φ, H) = some (fput φ 112 (fget φ 110), H) := nf
theorem ZQh : stepA E C B 156 Z5t Zkd (φ, H) = some (fput φ 11 (fget φ 112), H) := nf
def Z9N := kR Z88
def Zg0 := kL Z9N
def Z5g := kO Zg0
def ZsD := opN Z5g 0
def ZtV := opN Z5g 1
theorem Z01S : XG 88 156 Zg0 Z5g [] := Z1 (by rfl) (by rfl) _
theorem ZQ0 : Z5g.toList = [ZsD, ZtV] := nf
theorem ZOb : stepA E C B 156 Z5g ZsD (φ, H) = some (fput φ 113 (fget φ 4), H) := nf
theorem ZVh : stepA E C B 156 Z5g ZtV (φ, H) = some (fput φ 114 (.int .i64 0), H) := nf
def Zfu := kR Z9N
def ZfR := kB Zfu
def Z3I := kB ZfR
def Zfq := kL Z3I
def ZbB := kO Zfq
def ZtZ := opN ZbB 0
theorem Z02k : XG 88 156 Zfq ZbB [] := Z1 (by rfl) (by rfl) _
theorem ZPk : ZbB.toList = [ZtZ] := nf
theorem ZPU : stepA E C B 156 ZbB ZtZ (φ, H) = stp (some 115) φ H (just (aBin E.T .lss 3 (fget φ 114) (fget φ 113))) := nf
def Z8c := kR Z3I
def Z8B := kL Z8c
def ZBn := kT Z8B
theorem Z05O : execA E C (fg 88) B 156 E0 N ZBn s = some (.normal, s) := Zh (by rfl) s
def ZB9 := kE Z8B
theorem Z04M : execA E C (fg 88) B 156 E0 N ZB9 s = some (.exit 9, s) := ZO (by rfl) s
theorem Z068 : XC 88 156 Z8B 115 ZBn ZB9 := Zb (by rfl) _
def Z8Y := kR Z8c
def ZfY := kL Z8Y
def Z8w := kB ZfY
def ZgH := kL Z8w
def Z5l := kO ZgH
def Zsc := opN Z5l 0
def Zw7 := opN Z5l 1
theorem Z07e : XG 88 156 ZgH Z5l [115, 116] := Z1 (by rfl) (by rfl) _
theorem ZYN : Z5l.toList = [Zsc, Zw7] := nf
theorem ZTX : stepA E C B 156 Z5l Zsc (φ, H) = some (fput φ 116 (fget φ 114), H) := nf
theorem ZVM : stepA E C B 156 Z5l Zw7 (φ, H) = some (fput φ 12 (fget φ 116), H) := nf
def Z94 := kR Z8w
def Zfy := kL Z94
def Z0b := kO Zfy
def ZpJ := opN Z0b 0
def ZuA := opN Z0b 1
def Zws := opN Z0b 2
def Zvd := opN Z0b 3
def ZpQ := opN Z0b 4
def Zu5 := opN Z0b 5
def Zxm := opN Z0b 6
def ZmO := opN Z0b 7
def Ztl := opN Z0b 8
theorem Z00I : XG 88 156 Zfy Z0b [117, 118, 119, 120, 121, 122, 123, 124] := Z1 (by rfl) (by rfl) _
theorem ZQQ : Z0b.toList = [ZpJ, ZuA, Zws, Zvd, ZpQ, Zu5, Zxm, ZmO, Ztl] := nf
theorem ZTt : stepA E C B 156 Z0b ZpJ (φ, H) = stp (some 117) φ H (just (Z3 E.T 109 (fget φ 5) 1)) := nf
theorem ZWv : stepA E C B 156 Z0b ZuA (φ, H) = stp (some 118) φ H (just (aLoad E.T 107 (fget φ 117))) := nf
theorem ZQy : stepA E C B 156 Z0b Zws (φ, H) = some (fput φ 119 (fget φ 12), H) := nf
theorem ZYH : stepA E C B 156 Z0b Zvd (φ, H) = stp (some 120) φ H (just (Z2 E.T 107 (fget φ 118) (fget φ 119))) := nf
theorem ZM6 : stepA E C B 156 Z0b ZpQ (φ, H) = stp (some 121) φ H (just (aLoad E.T 121 (fget φ 120))) := nf
theorem ZRn : stepA E C B 156 Z0b Zu5 (φ, H) = some (fput φ 122 (fget φ 11), H) := nf
theorem ZPY : stepA E C B 156 Z0b Zxm (φ, H) = stp (some 123) φ H (just (aBin E.T .shr 121 (fget φ 121) (fget φ 122))) := nf
theorem ZZp : stepA E C B 156 Z0b ZmO (φ, H) = stp (some 124) φ H (just (aBin E.T .and 121 (fget φ 123) (.int .u64 1))) := nf
theorem ZUb : stepA E C B 156 Z0b Ztl (φ, H) = stp (some 125) φ H (just (aBin E.T .eql 121 (fget φ 124) (.int .u64 1))) := nf
def Z9H := kR Z94
def ZgO := kT Z9H
def Zt := kO ZgO
def Zra := opN Zt 0
def Zxt := opN Zt 1
def Zlr := opN Zt 2
def Zpq := opN Zt 3
def Zx3 := opN Zt 4
def ZtG := opN Zt 5
def ZvT := opN Zt 6
def ZuI := opN Zt 7
def Zvr := opN Zt 8
def Zqg := opN Zt 9
def Zip := opN Zt 10
def Zi6 := opN Zt 11
def Zix := opN Zt 12
theorem Z03C : XD 88 156 ZgO Zt [12, 125, 126, 127, 128, 129, 130, 131, 132, 133, 134, 135, 136, 137] := Z1c (by rfl) (by rfl) _
theorem ZTz : Zt.toList = [Zra, Zxt, Zlr, Zpq, Zx3, ZtG, ZvT, ZuI, Zvr, Zqg, Zip, Zi6, Zix] := nf
theorem ZJ3 : statOk Zt = true := by kernel_rfl
theorem ZKX : drawA E C B 156 Zt s = if neat 156 s = true then drX Zt (runT E C B 156 Zt Zt.toList 0 s) else none := Z0G ZJ3 s
theorem ZLw (l : List (Nat × Tr)) : dynOk Zt l = (!writing l || Zg [[], [0], [], [0, 1, 2], [0, 1, 2, 3], [], [5], [], [5, 6, 7], [5, 6, 7, 8], [0, 1, 2, 3, 4, 5, 6, 7, 8, 9], [0, 1, 2, 3, 4, 5, 6, 7, 8, 9, 10], [0, 1, 2, 3, 4, 5, 6, 7, 8, 9, 10, 11]] (Ze l)) := Z0r (by kernel_rfl) l
theorem ZNf : stepT E C B 156 Zt Zra (φ, H) = stpT (some 126) φ H (just (Z3 E.T 109 (fget φ 5) 1)) := Z5 rfl (Z8 rfl rfl)
theorem ZUJ : stepT E C B 156 Zt Zxt (φ, H) = stpT (some 127) φ H (just (aLoad E.T 107 (fget φ 126))) := Z5 rfl (Z8 rfl rfl)
theorem ZWm : stepT E C B 156 Zt Zlr (φ, H) = some ((fput φ 128 (fget φ 12), H), ⟨false, [], []⟩) := Z5 rfl (ZS rfl rfl)
theorem ZTU : stepT E C B 156 Zt Zpq (φ, H) = stpT (some 129) φ H (just (Z2 E.T 107 (fget φ 127) (fget φ 128))) := Z5 rfl (Z8 rfl rfl)
theorem ZMN : stepT E C B 156 Zt Zx3 (φ, H) = stpT (some 130) φ H (just (aLoad E.T 121 (fget φ 129))) := Z5 rfl (Z8 rfl rfl)
theorem ZX2 : stepT E C B 156 Zt ZtG (φ, H) = stpT (some 131) φ H (just (Z3 E.T 109 (fget φ 5) 1)) := Z5 rfl (Z8 rfl rfl)
theorem ZSw : stepT E C B 156 Zt ZvT (φ, H) = stpT (some 132) φ H (just (aLoad E.T 107 (fget φ 131))) := Z5 rfl (Z8 rfl rfl)
theorem ZMm : stepT E C B 156 Zt ZuI (φ, H) = some ((fput φ 133 (fget φ 11), H), ⟨false, [], []⟩) := Z5 rfl (ZS rfl rfl)
theorem ZY4 : stepT E C B 156 Zt Zvr (φ, H) = stpT (some 134) φ H (just (Z2 E.T 107 (fget φ 132) (fget φ 133))) := Z5 rfl (Z8 rfl rfl)
theorem ZUy : stepT E C B 156 Zt Zqg (φ, H) = stpT (some 135) φ H (just (aLoad E.T 121 (fget φ 134))) := Z5 rfl (Z8 rfl rfl)
theorem ZHp : stepT E C B 156 Zt Zip (φ, H) = stpT (some 136) φ H (just (aBin E.T .or 121 (fget φ 130) (fget φ 135))) := Z5 rfl (Z8 rfl rfl)
theorem ZJC : stepT E C B 156 Zt Zi6 (φ, H) = stpT (some 137) φ H (just (Z2 E.T 107 (fget φ 127) (fget φ 128))) := Z5 rfl (Z8 rfl rfl)
theorem ZJH : stepT E C B 156 Zt Zix (φ, H) = stpT none φ H (opStore E.T 121 (fget φ 137) (fget φ 136)) := Z5 rfl (Z8 rfl rfl)
def ZFi := kE Z9H
theorem Z01v : execA E C (fg 88) B 156 E0 N ZFi s = some (.normal, s) := Zh (by rfl) s
theorem Z059 : XC 88 156 Z9H 125 ZgO ZFi := Zb (by rfl) _
theorem Z05o : XQ 88 156 Z94 Zfy Z9H := Z0 (by rfl) _
theorem Z07C : XQ 88 156 Z8w ZgH Z94 := Z0 (by rfl) _
theorem Z0a7 : execA E C (fg 88) B 156 E0 N ZfY s = blockX 10 (fun s => (forget s.1 [12, 125], s.2)) (execA E C (fg 88) B 156 E0 N Z8w s) := Za (by rfl) (by rfl) s
def Zga := kR Z8Y
def Z5D := kO Zga
def ZqD := opN Z5D 0
def ZlE := opN Z5D 1
theorem Z01g : XG 88 156 Zga Z5D [138] := Z1 (by rfl) (by rfl) _
theorem ZTJ : Z5D.toList = [ZqD, ZlE] := nf
theorem ZNX : stepA E C B 156 Z5D ZqD (φ, H) = stp (some 138) φ H (just (aBin E.T .add 3 (fget φ 114) (.int .i64 1))) := nf
theorem ZTp : stepA E C B 156 Z5D ZlE (φ, H) = some (fput φ 114 (fget φ 138), H) := nf
theorem Z0a3 : XQ 88 156 Z8Y ZfY Zga := Z0 (by rfl) _
theorem Z05j : XQ 88 156 Z8c Z8B Z8Y := Z0 (by rfl) _
theorem Z07v : XQ 88 156 Z3I Zfq Z8c := Z0 (by rfl) _
theorem Z0a9 : execA E C (fg 88) B 156 E0 N ZfR s = iterA (execA E C (fg 88) B 156 E0 N Z3I) (headA E0) N s := ZN (by rfl) s
theorem Z027 : execA E C (fg 88) B 156 E0 N Zfu s = blockX 9 (fun s => (forget s.1 [11, 113, 114, 115], s.2)) (execA E C (fg 88) B 156 E0 N ZfR s) := Za (by rfl) (by rfl) s
theorem Z07d : XQ 88 156 Z9N Zg0 Zfu := Z0 (by rfl) _
theorem Z01J : XQ 88 156 Z88 ZfL Z9N := Z0 (by rfl) _
theorem Z0co : execA E C (fg 88) B 156 E0 N Zub s = blockX 8 (fun s => (forget s.1 [], s.2)) (execA E C (fg 88) B 156 E0 N Z88 s) := Za (by rfl) (by rfl) s
def ZgT := kR Zen
def Z5d := kO ZgT
def ZvX := opN Z5d 0
def Ztk := opN Z5d 1
theorem Z00K : XG 88 156 ZgT Z5d [139] := Z1 (by rfl) (by rfl) _
theorem ZSa : Z5d.toList = [ZvX, Ztk] := nf
theorem ZVx : stepA E C B 156 Z5d ZvX (φ, H) = stp (some 139) φ H (just (aBin E.T .add 3 (fget φ 110) (.int .i64 1))) := nf
theorem ZT1 : stepA E C B 156 Z5d Ztk (φ, H) = some (fput φ 110 (fget φ 139), H) := nf
theorem Z0dI : XQ 88 156 Zen Zub ZgT := Z0 (by rfl) _
theorem Z0ik : XQ 88 156 Zcs Ze2 Zen := Z0 (by rfl) _
theorem Z0dy : XQ 88 156 Z5M Zo0 Zcs := Z0 (by rfl) _
theorem Z0ed : execA E C (fg 88) B 156 E0 N Zsm s = iterA (execA E C (fg 88) B 156 E0 N Z5M) (headA E0) N s := ZN (by rfl) s
theorem Z0by : execA E C (fg 88) B 156 E0 N Zkl s = blockX 7 (fun s => (forget s.1 [4, 109, 110, 111], s.2)) (execA E C (fg 88) B 156 E0 N Zsm s) := Za (by rfl) (by rfl) s
theorem Z0bu : XQ 88 156 ZeL Zrp Zkl := Z0 (by rfl) _
def Z9e := kR ZaZ
def Z9p := kL Z9e
def Zg2 := kL Z9p
def Z1Q := kO Zg2
def Zkj := opN Z1Q 0
def Zxg := opN Z1Q 1
def Zk9 := opN Z1Q 2
def ZrS := opN Z1Q 3
theorem Z015 : XG 88 156 Zg2 Z1Q [140] := Z1 (by rfl) (by rfl) _
theorem ZVK : Z1Q.toList = [Zkj, Zxg, Zk9, ZrS] := nf
theorem ZVf : stepA E C B 156 Z1Q Zkj (φ, H) = stp (some 140) φ H (just (Z3 E.T 109 (fget φ 5) 1)) := nf
theorem ZPS : stepA E C B 156 Z1Q Zxg (φ, H) = stp (some 141) φ H (just (aLoad E.T 107 (fget φ 140))) := nf
theorem ZPs : stepA E C B 156 Z1Q Zk9 (φ, H) = stp (some 142) φ H (Z4 E.T (B + 142) .len #[107] [(fget φ 141)]) := nf
theorem ZQ8 : stepA E C B 156 Z1Q ZrS (φ, H) = some (fput φ 143 (.int .i64 0), H) := nf
def ZfB := kR Z9p
def ZfP := kB ZfB
def Z12 := kB ZfP
def Zfz := kL Z12
def ZbR := kO Zfz
def ZmM := opN ZbR 0
theorem Z07r : XG 88 156 Zfz ZbR [] := Z1 (by rfl) (by rfl) _
theorem ZNH : ZbR.toList = [ZmM] := nf
theorem ZZC : stepA E C B 156 ZbR ZmM (φ, H) = stp (some 144) φ H (just (aBin E.T .lss 3 (fget φ 143) (fget φ 142))) := nf
def Z99 := kR Z12
def Z8l := kL Z99
def ZFE := kT Z8l
theorem Z05B : execA E C (fg 88) B 156 E0 N ZFE s = some (.normal, s) := Zh (by rfl) s
def ZAr := kE Z8l
theorem Z07z : execA E C (fg 88) B 156 E0 N ZAr s = some (.exit 11, s) := ZO (by rfl) s
theorem Z02A : XC 88 156 Z8l 144 ZFE ZAr := Zb (by rfl) _
def Z9q := kR Z99
def ZgZ := kL Z9q
def Z9C := kB ZgZ
def ZfA := kL Z9C
def Z1b := kO ZfA
def Zop := opN Z1b 0
def Zw0 := opN Z1b 1
def Zxr := opN Z1b 2
def Zm2 := opN Z1b 3
def Zu1 := opN Z1b 4
theorem Z093 : XG 88 156 ZfA Z1b [144, 145, 146, 147] := Z1 (by rfl) (by rfl) _
theorem ZS6 : Z1b.toList = [Zop, Zw0, Zxr, Zm2, Zu1] := nf
theorem ZUn : stepA E C B 156 Z1b Zop (φ, H) = some (fput φ 145 (fget φ 143), H) := nf
theorem ZQP : stepA E C B 156 Z1b Zw0 (φ, H) = stp (some 146) φ H (just (Z2 E.T 107 (fget φ 141) (fget φ 143))) := nf
theorem ZPK : stepA E C B 156 Z1b Zxr (φ, H) = stp (some 147) φ H (just (aLoad E.T 121 (fget φ 146))) := nf
theorem ZRt : stepA E C B 156 Z1b Zm2 (φ, H) = some (fput φ 13 (fget φ 145), H) := nf
theorem ZMZ : stepA E C B 156 Z1b Zu1 (φ, H) = some (fput φ 14 (fget φ 147), H) := nf
def Z8y := kR Z9C
def Zft := kL Z8y
def Z1j := kO Zft
def ZvZ := opN Z1j 0
def Zq8 := opN Z1j 1
def ZwT := opN Z1j 2
def Znf := opN Z1j 3
def ZoT := opN Z1j 4
theorem Z00m : XG 88 156 Zft Z1j [13, 14, 148, 149, 150, 151] := Z1 (by rfl) (by rfl) _
theorem ZMz : Z1j.toList = [ZvZ, Zq8, ZwT, Znf, ZoT] := nf
theorem ZY6 : stepA E C B 156 Z1j ZvZ (φ, H) = some (fput φ 148 (fget φ 14), H) := nf
theorem ZMK : stepA E C B 156 Z1j Zq8 (φ, H) = some (fput φ 149 (fget φ 13), H) := nf
theorem ZPW : stepA E C B 156 Z1j ZwT (φ, H) = stp (some 150) φ H (just (aBin E.T .shr 121 (fget φ 148) (fget φ 149))) := nf
theorem ZZy : stepA E C B 156 Z1j Znf (φ, H) = stp (some 151) φ H (just (aBin E.T .and 121 (fget φ 150) (.int .u64 1))) := nf
theorem ZMD : stepA E C B 156 Z1j ZoT (φ, H) = stp (some 152) φ H (just (aBin E.T .eql 121 (fget φ 151) (.int .u64 1))) := nf
def Z8A := kR Z8y
def Z9O := kT Z8A
def Zfl := kL Z9O
def Z3n := kO Zfl
def Zq0 := opN Z3n 0
def Zxk := opN Z3n 1
def ZuP := opN Z3n 2
theorem Z01E : XG 88 156 Zfl Z3n [5, 141, 142, 143, 152, 153] := Z1 (by rfl) (by rfl) _
theorem ZRr : Z3n.toList = [Zq0, Zxk, ZuP] := nf
theorem ZYr : stepA E C B 156 Z3n Zq0 (φ, H) = stp (some 153) φ H (justO (aBuild E.T 109 (evO E φ) [])) := nf
theorem ZW2 : stepA E C B 156 Z3n Zxk (φ, H) = stp none φ H (opStore E.T 109 (fget φ 2) (fget φ 153)) := nf
theorem ZQu : stepA E C B 156 Z3n ZuP (φ, H) = some (fput φ 3 (.int .i64 13), H) := nf
def Zzk := kR Z9O
theorem Z031 : execA E C (fg 88) B 156 E0 N Zzk s = some (.ret, s) := Zl (by rfl) s
theorem Z03w : XQ 88 156 Z9O Zfl Zzk := Z0 (by rfl) _
def ZzP := kE Z8A
theorem Z088 : execA E C (fg 88) B 156 E0 N ZzP s = some (.normal, s) := Zh (by rfl) s
theorem Z0a1 : XC 88 156 Z8A 152 Z9O ZzP := Zb (by rfl) _
theorem Z07T : XQ 88 156 Z8y Zft Z8A := Z0 (by rfl) _
theorem Z09B : XQ 88 156 Z9C ZfA Z8y := Z0 (by rfl) _
theorem Z058 : execA E C (fg 88) B 156 E0 N ZgZ s = blockX 12 (fun s => (forget s.1 [152], s.2)) (execA E C (fg 88) B 156 E0 N Z9C s) := Za (by rfl) (by rfl) s
def ZfD := kR Z9q
def Z5V := kO ZfD
def Zy5 := opN Z5V 0
def Zsf := opN Z5V 1
theorem Z05s : XG 88 156 ZfD Z5V [154] := Z1 (by rfl) (by rfl) _
theorem ZNO : Z5V.toList = [Zy5, Zsf] := nf
theorem ZP0 : stepA E C B 156 Z5V Zy5 (φ, H) = stp (some 154) φ H (just (aBin E.T .add 3 (fget φ 143) (.int .i64 1))) := nf
theorem ZTC : stepA E C B 156 Z5V Zsf (φ, H) = some (fput φ 143 (fget φ 154), H) := nf
theorem Z09a : XQ 88 156 Z9q ZgZ ZfD := Z0 (by rfl) _
theorem Z04E : XQ 88 156 Z99 Z8l Z9q := Z0 (by rfl) _
theorem Z03Q : XQ 88 156 Z12 Zfz Z99 := Z0 (by rfl) _
theorem Z004 : execA E C (fg 88) B 156 E0 N ZfP s = iterA (execA E C (fg 88) B 156 E0 N Z12) (headA E0) N s := ZN (by rfl) s
theorem Z07S : execA E C (fg 88) B 156 E0 N ZfB s = blockX 11 (fun s => (forget s.1 [141, 142, 143, 144], s.2)) (execA E C (fg 88) B 156 E0 N ZfP s) := Za (by rfl) (by rfl) s
theorem Z06K : XQ 88 156 Z9p Zg2 ZfB := Z0 (by rfl) _
def Z7V := kR Z9e
def ZfJ := kL Z7V
def Z3o := kO ZfJ
def Zmv := opN Z3o 0
def Zlj := opN Z3o 1
def Zlk := opN Z3o 2
theorem Z080 : XG 88 156 ZfJ Z3o [5, 155] := Z1 (by rfl) (by rfl) _
theorem ZZu : Z3o.toList = [Zmv, Zlj, Zlk] := nf
theorem ZP7 : stepA E C B 156 Z3o Zmv (φ, H) = stp (some 155) φ H (just (aLoad E.T 109 (fget φ 5))) := nf
theorem ZWS : stepA E C B 156 Z3o Zlj (φ, H) = stp none φ H (opStore E.T 109 (fget φ 2) (fget φ 155)) := nf
theorem ZTq : stepA E C B 156 Z3o Zlk (φ, H) = some (fput φ 3 (.int .i64 0), H) := nf
def Zzy := kR Z7V
theorem Z00j : execA E C (fg 88) B 156 E0 N Zzy s = some (.ret, s) := Zl (by rfl) s
theorem Z00D : XQ 88 156 Z7V ZfJ Zzy := Z0 (by rfl) _
theorem Z06o : XQ 88 156 Z9e Z9p Z7V := Z0 (by rfl) _
theorem Z0jh : XQ 88 156 ZaZ ZeL Z9e := Z0 (by rfl) _
theorem Z0jB : XQ 88 156 ZaV ZeQ ZaZ := Z0 (by rfl) _
theorem Z0jm : XQ 88 156 ZdI ZcM ZaV := Z0 (by rfl) _
theorem Z0cS : XQ 88 156 Zdf ZlQ ZdI := Z0 (by rfl) _
theorem Z0or : XQ 88 156 ZjY ZHk Zdf := Z0 (by rfl) _
theorem Z0nk : XQ 88 156 Zjw ZFO ZjY := Z0 (by rfl) _
theorem Z0ot : XQ 88 156 Ze1 ZHb Zjw := Z0 (by rfl) _
theorem Z0lV : fInfo E 88 = some ⟨156, #[.cell 2 109, .tmp 3], Ze1⟩ := nf
theorem b_88 (args : List AV) : bodyA E C fg N 88 args H B = bodyX E [.cell 2 109, .tmp 3] (execA E C (fg 88) B 156 H N Ze1 (Z7 args 0 [], H)) := Zn Z0lV args H
abbrev F_88 := And.intro (And.intro (And.intro (And.intro (And.intro (And.intro (And.intro (And.intro @Z0kv @Z06p) (And.intro @Z00e (And.intro @Z05G @Z02N))) (And.intro (And.intro @Z0md (And.intro @Z07k @Z02Q)) (And.intro @Z01B (And.intro @Z08T @Z08j)))) (And.intro (And.intro (And.intro @Z0ne (And.intro @Z03B @Z05z)) (And.intro @Z02U (And.intro @Z042 @Z0h5))) (And.intro (And.intro @Z02V (And.intro @Z0ba @Z0bf)) (And.intro @Z0ar (And.intro @Z0em @Z0kX))))) (And.intro (And.intro (And.intro (And.intro @Z0eG (And.intro @Z01n @Z06y)) (And.intro @Z02d (And.intro @Z08F @Z03T))) (And.intro (And.intro @Z07b (And.intro @Z06J @Z02m)) (And.intro @Z03m (And.intro @Z00g @Z0fm)))) (And.intro (And.intro (And.intro @Z07u (And.intro @Z0aA @Z0bb)) (And.intro @Z03I (And.intro @Z0gc @Z0k6))) (And.intro (And.intro @Z0i5 (And.intro @Z0f1 @Z0gp)) (And.intro @Z0ln (And.intro @Z0od @Z0lz)))))) (And.intro (And.intro (And.intro (And.intro (And.intro @Z0ez (And.intro @Z05T @Z09h)) (And.intro @Z06E (And.intro @Z06u @Z07i))) (And.intro (And.intro @Z00h (And.intro @Z0e2 @Z03F)) (And.intro @Z000 (And.intro @Z02b @Z06P)))) (And.intro (And.intro (And.intro @Z00F (And.intro @Z0f2 @Z078)) (And.intro @Z00X (And.intro @Z0ja @Z0fC))) (And.intro (And.intro @Z0k2 (And.intro @Z0fs @Z09L)) (And.intro @Z07B (And.intro @Z0ap @Z0aY))))) (And.intro (And.intro (And.intro (And.intro @Z01o (And.intro @Z0e1 @ZXA)) (And.intro @ZVt (And.intro @ZVW @ZZ0))) (And.intro (And.intro @ZV1 (And.intro @Z0bS @ZSQ)) (And.intro @ZKa (And.intro @ZLa @ZYy)))) (And.intro (And.intro (And.intro @ZS0 (And.intro @ZNc @ZN6)) (And.intro @ZO2 (And.intro @Z0hf @ZXV))) (And.intro (And.intro @ZSI (And.intro @ZYX @ZXT)) (And.intro @Z0bK (And.intro @Z0db @Z0eR))))))) (And.intro (And.intro (And.intro (And.intro (And.intro (And.intro @ZR7 (And.intro @ZMt @ZZ5)) (And.intro @ZNu (And.intro @ZU0 @ZOB))) (And.intro (And.intro @ZUE (And.intro @Z0fo @ZYw)) (And.intro @ZZx (And.intro @ZYY @ZZv)))) (And.intro (And.intro (And.intro @Z0fr (And.intro @Z0gq @Z0gb)) (And.intro @Z0iy (And.intro @Z0gz @Z0bX))) (And.intro (And.intro @Z0c5 (And.intro @Z0gE @Z0en)) (And.intro @ZV4 (And.intro @ZOq @ZWO))))) (And.intro (And.intro (And.intro (And.intro @ZN4 (And.intro @ZYZ @ZN2)) (And.intro @ZTV (And.intro @ZMR @Z0fF))) (And.intro (And.intro @Z0hE (And.intro @Z0ef @Z0bM)) (And.intro @Z0fX (And.intro @ZYF @ZUi)))) (And.intro (And.intro (And.intro @ZSe (And.intro @Z0jO @Z0i4)) (And.intro @Z0f3 (And.intro @Z0cR @Z0jt))) (And.intro (And.intro @Z0cf (And.intro @Z0hn @ZXF)) (And.intro @ZXn (And.intro @ZUv @ZR6)))))) (And.intro (And.intro (And.intro (And.intro (And.intro @ZTF (And.intro @Z0eE @ZNz)) (And.intro @ZQA (And.intro @Z0c1 @Z0gO))) (And.intro (And.intro @Z0cE (And.intro @Z0hO @ZZd)) (And.intro @ZSi (And.intro @ZUB @ZO6)))) (And.intro (And.intro (And.intro @ZXH (And.intro @ZXj @ZSS)) (And.intro @Z0dt (And.intro @ZWF @ZOK))) (And.intro (And.intro @ZTL (And.intro @ZZE @ZYS)) (And.intro @ZZl (And.intro @ZUY @ZU4))))) (And.intro (And.intro (And.intro (And.intro @ZWZ (And.intro @ZQH @ZVe)) (And.intro @ZHT (And.intro @ZHy @ZI2))) (And.intro (And.intro @ZIs (And.intro @ZK2 @ZKI)) (And.intro @Z0gr (And.intro @ZWh @ZWa)))) (And.intro (And.intro (And.intro @ZOU (And.intro @ZO7 @Z0jT)) (And.intro @Z0j2 (And.intro @Z0dn @ZQ3))) (And.intro (And.intro @ZJS (And.intro @ZI1 @ZNL)) (And.intro @ZWH (And.intro @ZMS @ZOI)))))))) (And.intro (And.intro (And.intro (And.intro (And.intro (And.intro (And.intro @ZRZ (And.intro @ZUt @ZP4)) (And.intro @Z0fp (And.intro @ZZa @ZLV))) (And.intro (And.intro @ZPo (And.intro @ZSB @Z0dk)) (And.intro @Z0eU (And.intro @Z0hV @Z0cO)))) (And.intro (And.intro (And.intro @Z0iY (And.intro @Z0k0 @Z0jN)) (And.intro @Z0gU (And.intro @Z0h3 @ZMa))) (And.intro (And.intro @ZJD (And.intro @ZIJ @ZRu)) (And.intro @ZUL (And.intro @ZPx @ZTx))))) (And.intro (And.intro (And.intro (And.intro @ZMA (And.intro @ZVX @ZPp)) (And.intro @ZM0 (And.intro @ZOl @ZOe))) (And.intro (And.intro @ZKw (And.intro @ZJB @Z0jg)) (And.intro @Z0j3 (And.intro @Z0gy @Z0kc)))) (And.intro (And.intro (And.intro @ZUw (And.intro @ZSh @ZMJ)) (And.intro @Z0gk (And.intro @Z0ga @Z0jk))) (And.intro (And.intro @Z0c9 (And.intro @Z0gv @Z0jr)) (And.intro @Z0fv (And.intro @ZWj @ZLS)))))) (And.intro (And.intro (And.intro (And.intro (And.intro @ZVs (And.intro @Z0f9 @ZQ6)) (And.intro @ZW0 (And.intro @Z0hD @Z0c6))) (And.intro (And.intro @Z0ev (And.intro @Z03q @ZLH)) (And.intro @ZVN (And.intro @ZQh @Z01S)))) (And.intro (And.intro (And.intro @ZQ0 (And.intro @ZOb @ZVh)) (And.intro @Z02k (And.intro @ZPk @ZPU))) (And.intro (And.intro @Z05O (And.intro @Z04M @Z068)) (And.intro @Z07e (And.intro @ZYN @ZTX))))) (And.intro (And.intro (And.intro (And.intro @ZVM (And.intro @Z00I @ZQQ)) (And.intro @ZTt (And.intro @ZWv @ZQy))) (And.intro (And.intro @ZYH (And.intro @ZM6 @ZRn)) (And.intro @ZPY (And.intro @ZZp @ZUb)))) (And.intro (And.intro (And.intro @Z03C (And.intro @ZTz @ZKX)) (And.intro @ZLw (And.intro @ZNf @ZUJ))) (And.intro (And.intro @ZWm (And.intro @ZTU @ZMN)) (And.intro @ZX2 (And.intro @ZSw @ZMm))))))) (And.intro (And.intro (And.intro (And.intro (And.intro (And.intro @ZY4 (And.intro @ZUy @ZHp)) (And.intro @ZJC (And.intro @ZJH @Z01v))) (And.intro (And.intro @Z059 (And.intro @Z05o @Z07C)) (And.intro @Z0a7 (And.intro @Z01g @ZTJ)))) (And.intro (And.intro (And.intro @ZNX (And.intro @ZTp @Z0a3)) (And.intro @Z05j (And.intro @Z07v @Z0a9))) (And.intro (And.intro @Z027 (And.intro @Z07d @Z01J)) (And.intro @Z0co (And.intro @Z00K @ZSa))))) (And.intro (And.intro (And.intro (And.intro @ZVx (And.intro @ZT1 @Z0dI)) (And.intro @Z0ik (And.intro @Z0dy @Z0ed))) (And.intro (And.intro @Z0by (And.intro @Z0bu @Z015)) (And.intro @ZVK (And.intro @ZVf @ZPS)))) (And.intro (And.intro (And.intro @ZPs (And.intro @ZQ8 @Z07r)) (And.intro @ZNH (And.intro @ZZC @Z05B))) (And.intro (And.intro @Z07z (And.intro @Z02A @Z093)) (And.intro @ZS6 (And.intro @ZUn @ZQP)))))) (And.intro (And.intro (And.intro (And.intro (And.intro @ZPK (And.intro @ZRt @ZMZ)) (And.intro @Z00m (And.intro @ZMz @ZY6))) (And.intro (And.intro @ZMK (And.intro @ZPW @ZZy)) (And.intro @ZMD (And.intro @Z01E @ZRr)))) (And.intro (And.intro (And.intro @ZYr (And.intro @ZW2 @ZQu)) (And.intro @Z031 (And.intro @Z03w @Z088))) (And.intro (And.intro @Z0a1 (And.intro @Z07T @Z09B)) (And.intro @Z058 (And.intro @Z05s @ZNO))))) (And.intro (And.intro (And.intro (And.intro @ZP0 (And.intro @ZTC @Z09a)) (And.intro @Z04E (And.intro @Z03Q @Z004))) (And.intro (And.intro @Z07S (And.intro @Z06K @Z080)) (And.intro @ZZu (And.intro @ZP7 @ZWS)))) (And.intro (And.intro (And.intro @ZTq (And.intro @Z00j @Z00D)) (And.intro @Z06o (And.intro @Z0jh @Z0jB))) (And.intro (And.intro @Z0jm (And.intro @Z0cS @Z0or)) (And.intro @Z0nk (And.intro @Z0ot @b_88))))))))
def Zby := kBody Proofs.Tryd.f95
def ZG6 := kL Zby
def Z85 := kO ZG6
def ZEw := opN Z85 0
def ZEd := opN Z85 1
theorem Z0mp : XG 95 8 ZG6 Z85 [0, 2] := Z1 (by rfl) (by rfl) _
theorem Z0aO : Z85.toList = [ZEw, ZEd] := nf
theorem Z0b2 : stepA E C B 8 Z85 ZEw (φ, H) = stp (some 1) φ H (opBox (B + 1) (acells (fget φ 0))) := nf
theorem Z02h : stepA E C B 8 Z85 ZEd (φ, H) = some (fput φ 2 (.int .u64 0), H) := nf
def ZiQ := kR Zby
def ZGs := kL ZiQ
def Z1q := kO ZGs
def ZFC := opN Z1q 0
def ZyV := opN Z1q 1
def ZCH := opN Z1q 2
def ZFz := opN Z1q 3
def ZB8 := opN Z1q 4
def ZD2 := opN Z1q 5
theorem Z0ls : XG 95 8 ZGs Z1q [1, 3, 4, 5, 6, 7] := Z1 (by rfl) (by rfl) _
theorem Z05h : Z1q.toList = [ZFC, ZyV, ZCH, ZFz, ZB8, ZD2] := nf
theorem Z01G : stepA E C B 8 Z1q ZFC (φ, H) = stp (some 3) φ H (just (Z3 E.T 109 (fget φ 1) 0)) := nf
theorem Z01K : stepA E C B 8 Z1q ZyV (φ, H) = stp (some 4) φ H (just (aLoad E.T 106 (fget φ 3))) := nf
theorem Z06R : stepA E C B 8 Z1q ZCH (φ, H) = stp (some 5) φ H (Z4 E.T (B + 5) .len #[106] [(fget φ 4)]) := nf
theorem Z00B : stepA E C B 8 Z1q ZFz (φ, H) = stp (some 6) φ H (just (aBin E.T .shl 121 (.int .u64 1) (fget φ 5))) := nf
theorem Z035 : stepA E C B 8 Z1q ZB8 (φ, H) = stp (some 7) φ H (just (aBin E.T .sub 121 (fget φ 6) (.int .u64 1))) := nf
theorem Z001 : stepA E C B 8 Z1q ZD2 (φ, H) = some (fput φ 2 (fget φ 7), H) := nf
def ZZR := kR ZiQ
theorem Z0o2 : execA E C (fg 95) B 8 E0 N ZZR s = some (.ret, s) := Zl (by rfl) s
theorem Z0ms : XQ 95 8 ZiQ ZGs ZZR := Z0 (by rfl) _
theorem Z0kx : XQ 95 8 Zby ZG6 ZiQ := Z0 (by rfl) _
theorem Z0ko : fInfo E 95 = some ⟨8, #[.tmp 2], Zby⟩ := nf
theorem b_95 (args : List AV) : bodyA E C fg N 95 args H B = bodyX E [.tmp 2] (execA E C (fg 95) B 8 H N Zby (Z7 args 0 [], H)) := Zn Z0ko args H
abbrev F_95 := And.intro (And.intro (And.intro (And.intro @Z0mp @Z0aO) (And.intro @Z0b2 @Z02h)) (And.intro (And.intro @Z0ls @Z05h) (And.intro @Z01G @Z01K))) (And.intro (And.intro (And.intro @Z06R @Z00B) (And.intro @Z035 @Z001)) (And.intro (And.intro @Z0o2 @Z0ms) (And.intro @Z0kx @b_95)))
def Z6R := kBody Proofs.Tryd.f128
def Zse := kL Z6R
def Z3b := kO Zse
def Zuz := opN Z3b 0
def Zmc := opN Z3b 1
def ZpW := opN Z3b 2
theorem Z0ic : XG 128 9 Zse Z3b [0, 1, 4] := Z1 (by rfl) (by rfl) _
theorem ZMq : Z3b.toList = [Zuz, Zmc, ZpW] := nf
theorem ZRP : stepA E C B 9 Z3b Zuz (φ, H) = stp (some 2) φ H (opBox (B + 2) (acells (fget φ 0))) := nf
theorem ZZt : stepA E C B 9 Z3b Zmc (φ, H) = stp (some 3) φ H (opBox (B + 3) (acells (fget φ 1))) := nf
theorem ZUM : stepA E C B 9 Z3b ZpW (φ, H) = some (fput φ 4 (.nilsl), H) := nf
def ZeH := kR Z6R
def Ztp := kL ZeH
def Z1a := kO Ztp
def Znq := opN Z1a 0
def Zqh := opN Z1a 1
def ZxS := opN Z1a 2
def ZpH := opN Z1a 3
def ZmD := opN Z1a 4
theorem Z0gN : XG 128 9 Ztp Z1a [2, 3, 5, 6, 7, 8] := Z1 (by rfl) (by rfl) _
theorem ZM3 : Z1a.toList = [Znq, Zqh, ZxS, ZpH, ZmD] := nf
theorem ZRk : stepA E C B 9 Z1a Znq (φ, H) = stp (some 5) φ H (just (aLoad E.T 121 (fget φ 3))) := nf
theorem ZWU : stepA E C B 9 Z1a Zqh (φ, H) = stp (some 6) φ H (aCall C (fun j => B + j * 9 + 6) true 97 [(fget φ 5)]) := nf
theorem ZUx : stepA E C B 9 Z1a ZxS (φ, H) = stp (some 7) φ H (.pure (.clo 141 [(fget φ 2), (fget φ 3)], [])) := nf
theorem ZRI : stepA E C B 9 Z1a ZpH (φ, H) = mutX (some 8) φ (C 140 [(fget φ 6), (fget φ 7)] H (B + 9 * 8)) := nf
theorem ZQ4 : stepA E C B 9 Z1a ZmD (φ, H) = some (fput φ 4 (fget φ 8), H) := nf
def ZIP := kR ZeH
theorem Z0dq : execA E C (fg 128) B 9 E0 N ZIP s = some (.ret, s) := Zl (by rfl) s
theorem Z0fy : XQ 128 9 ZeH Ztp ZIP := Z0 (by rfl) _
theorem Z0gg : XQ 128 9 Z6R Zse ZeH := Z0 (by rfl) _
theorem Z0cF : fInfo E 128 = some ⟨9, #[.tmp 4], Z6R⟩ := nf
theorem Z0m2 (args : List AV) : bodyA E C fg N 128 args H B = bodyX E [.tmp 4] (execA E C (fg 128) B 9 H N Z6R (Z7 args 0 [], H)) := Zn Z0cF args H
abbrev Z0nQ := And.intro (And.intro (And.intro (And.intro @Z0ic @ZMq) (And.intro @ZRP @ZZt)) (And.intro (And.intro @ZUM @Z0gN) (And.intro @ZM3 @ZRk))) (And.intro (And.intro (And.intro @ZWU @ZUx) (And.intro @ZRI @ZQ4)) (And.intro (And.intro @Z0dq @Z0fy) (And.intro @Z0gg @Z0m2)))
def Z7q := kBody Proofs.Tryd.f141
def ZsJ := kL Z7q
def Zcd := kO ZsJ
def Zoc := opN Zcd 0
theorem Z0dU : XG 141 13 ZsJ Zcd [4] := Z1 (by rfl) (by rfl) _
theorem ZTG : Zcd.toList = [Zoc] := nf
theorem ZYn : stepA E C B 13 Zcd Zoc (φ, H) = some (fput φ 4 (.bool false), H) := nf
def ZeV := kR Z7q
def Zne := kL ZeV
def ZL := kO Zne
def ZpN := opN ZL 0
def Zst := opN ZL 1
def Zwz := opN ZL 2
def ZuC := opN ZL 3
def ZwD := opN ZL 4
def Ztw := opN ZL 5
def ZqK := opN ZL 6
def ZuD := opN ZL 7
def Zqw := opN ZL 8
theorem Z0gV : XD 141 13 Zne ZL [0, 1, 2, 5, 6, 7, 8, 9, 10, 11, 12] := Z1c (by rfl) (by rfl) _
theorem ZR5 : ZL.toList = [ZpN, Zst, Zwz, ZuC, ZwD, Ztw, ZqK, ZuD, Zqw] := nf
theorem ZJu : statOk ZL = true := by kernel_rfl
theorem ZLp : drawA E C B 13 ZL s = if neat 13 s = true then drX ZL (runT E C B 13 ZL ZL.toList 0 s) else none := Z0G ZJu s
theorem ZHD (l : List (Nat × Tr)) : dynOk ZL l = (!writing l || Zg [[], [0], [], [0, 1, 2], [0, 1, 2, 3], [], [0, 1, 2, 3, 4, 5], [0, 1, 2, 3, 4, 5, 6], [0, 1, 2, 3, 4, 5, 6, 7]] (Ze l)) := Z0r (by kernel_rfl) l
theorem ZVl : stepT E C B 13 ZL ZpN (φ, H) = stpT (some 5) φ H (just (Z3 E.T 109 (fget φ 1) 1)) := Z5 rfl (Z8 rfl rfl)
theorem ZZA : stepT E C B 13 ZL Zst (φ, H) = stpT (some 6) φ H (just (aLoad E.T 107 (fget φ 5))) := Z5 rfl (Z8 rfl rfl)
theorem ZOw : stepT E C B 13 ZL Zwz (φ, H) = some ((fput φ 7 (fget φ 0), H), ⟨false, [], []⟩) := Z5 rfl (ZS rfl rfl)
theorem ZMT : stepT E C B 13 ZL ZuC (φ, H) = stpT (some 8) φ H (just (Z2 E.T 107 (fget φ 6) (fget φ 7))) := Z5 rfl (Z8 rfl rfl)
theorem ZRi : stepT E C B 13 ZL ZwD (φ, H) = stpT (some 9) φ H (just (aLoad E.T 121 (fget φ 8))) := Z5 rfl (Z8 rfl rfl)
theorem ZWl : stepT E C B 13 ZL Ztw (φ, H) = stpT (some 10) φ H (just (aLoad E.T 121 (fget φ 2))) := Z5 rfl (Z8 rfl rfl)
theorem ZQq : stepT E C B 13 ZL ZqK (φ, H) = stpT (some 11) φ H (just (aBin E.T .and 121 (fget φ 9) (fget φ 10))) := Z5 rfl (Z8 rfl rfl)
theorem ZUX : stepT E C B 13 ZL ZuD (φ, H) = stpT (some 12) φ H (just (aBin E.T .neq 121 (fget φ 11) (.int .u64 0))) := Z5 rfl (Z8 rfl rfl)
theorem ZXO : stepT E C B 13 ZL Zqw (φ, H) = some ((fput φ 4 (fget φ 12), H), ⟨false, [], []⟩) := Z5 rfl (ZS rfl rfl)
def ZKU := kR ZeV
theorem Z0iQ : execA E C (fg 141) B 13 E0 N ZKU s = some (.ret, s) := Zl (by rfl) s
theorem Z0ij : XQ 141 13 ZeV Zne ZKU := Z0 (by rfl) _
theorem Z0cu : XQ 141 13 Z7q ZsJ ZeV := Z0 (by rfl) _
theorem Zcl : fInfo E 141 = some ⟨13, #[.tmp 4], Z7q⟩ := nf
theorem Z0lr (args : List AV) : bodyA E C fg N 141 args H B = bodyX E [.tmp 4] (execA E C (fg 141) B 13 H N Z7q (Z7 args 0 [], H)) := Zn Zcl args H
abbrev Z0mh := And.intro (And.intro (And.intro (And.intro @Z0dU @ZTG) (And.intro @ZYn (And.intro @Z0gV @ZR5))) (And.intro (And.intro @ZLp @ZHD) (And.intro @ZVl (And.intro @ZZA @ZOw)))) (And.intro (And.intro (And.intro @ZMT @ZRi) (And.intro @ZWl (And.intro @ZQq @ZUX))) (And.intro (And.intro @ZXO @Z0iQ) (And.intro @Z0ij (And.intro @Z0cu @Z0lr))))
def Z6S := kBody Proofs.Tryd.f100
def ZvJ := kL Z6S
def Z5w := kO ZvJ
def Zk4 := opN Z5w 0
def ZqU := opN Z5w 1
theorem Z0h6 : XG 100 25 ZvJ Z5w [0, 4] := Z1 (by rfl) (by rfl) _
theorem ZZb : Z5w.toList = [Zk4, ZqU] := nf
theorem ZPn : stepA E C B 25 Z5w Zk4 (φ, H) = stp (some 2) φ H (opBox (B + 2) (acells (fget φ 0))) := nf
theorem ZNe : stepA E C B 25 Z5w ZqU (φ, H) = some (fput φ 4 (.int .i64 0), H) := nf
def ZcD := kR Z6S
def Zld := kL ZcD
def Zej := kO Zld
def ZqJ := opN Zej 0
theorem Z0fY : XG 100 25 Zld Zej [] := Z1 (by rfl) (by rfl) _
theorem ZNp : Zej.toList = [ZqJ] := nf
theorem ZOa : stepA E C B 25 Zej ZqJ (φ, H) = some (fput φ 5 (.int .i64 0), H) := nf
def Zdk := kR ZcD
def Zf5 := kL Zdk
def Zwr := kL Zf5
def Z1J := kO Zwr
def ZqA := opN Z1J 0
def Zpj := opN Z1J 1
def Zml := opN Z1J 2
def ZvD := opN Z1J 3
theorem Z0h9 : XG 100 25 Zwr Z1J [1, 8] := Z1 (by rfl) (by rfl) _
theorem ZTR : Z1J.toList = [ZqA, Zpj, Zml, ZvD] := nf
theorem ZVJ : stepA E C B 25 Z1J ZqA (φ, H) = some (fput φ 8 (fget φ 1), H) := nf
theorem ZOQ : stepA E C B 25 Z1J Zpj (φ, H) = stp (some 9) φ H (aCall C (fun j => B + j * 25 + 9) true 97 [(fget φ 8)]) := nf
theorem ZYR : stepA E C B 25 Z1J Zml (φ, H) = stp (some 10) φ H (Z4 E.T (B + 10) .len #[36] [(fget φ 9)]) := nf
theorem ZLF : stepA E C B 25 Z1J ZvD (φ, H) = some (fput φ 11 (.int .i64 0), H) := nf
def Zv3 := kR Zf5
def ZoH := kB Zv3
def Z40 := kB ZoH
def Zfv := kL Z40
def ZdH := kO Zfv
def ZtB := opN ZdH 0
theorem Z08N : XG 100 25 Zfv ZdH [] := Z1 (by rfl) (by rfl) _
theorem ZLX : ZdH.toList = [ZtB] := nf
theorem ZMU : stepA E C B 25 ZdH ZtB (φ, H) = stp (some 12) φ H (just (aBin E.T .lss 3 (fget φ 11) (fget φ 10))) := nf
def Z8X := kR Z40
def Z7N := kL Z8X
def ZAl := kT Z7N
theorem Z09e : execA E C (fg 100) B 25 E0 N ZAl s = some (.normal, s) := Zh (by rfl) s
def ZA5 := kE Z7N
theorem Z044 : execA E C (fg 100) B 25 E0 N ZA5 s = some (.exit 0, s) := ZO (by rfl) s
theorem Z03f : XC 100 25 Z7N 12 ZAl ZA5 := Zb (by rfl) _
def Z8m := kR Z8X
def Zfx := kL Z8m
def Z8U := kB Zfx
def Zh4 := kL Z8U
def Z33 := kO Zh4
def ZrR := opN Z33 0
def ZpF := opN Z33 1
def Zqx := opN Z33 2
theorem Z09M : XG 100 25 Zh4 Z33 [12, 13, 14] := Z1 (by rfl) (by rfl) _
theorem ZX0 : Z33.toList = [ZrR, ZpF, Zqx] := nf
theorem ZQG : stepA E C B 25 Z33 ZrR (φ, H) = stp (some 13) φ H (just (Z2 E.T 36 (fget φ 9) (fget φ 11))) := nf
theorem ZRN : stepA E C B 25 Z33 ZpF (φ, H) = stp (some 14) φ H (just (aLoad E.T 3 (fget φ 13))) := nf
theorem ZWV : stepA E C B 25 Z33 Zqx (φ, H) = some (fput φ 7 (fget φ 14), H) := nf
def Zgs := kR Z8U
def Z0d := kO Zgs
def Zyh := opN Z0d 0
def Zww := opN Z0d 1
def Zup := opN Z0d 2
def Zyp := opN Z0d 3
def Zu0 := opN Z0d 4
def Zxz := opN Z0d 5
def Zn1 := opN Z0d 6
def Zl7 := opN Z0d 7
def ZkA := opN Z0d 8
theorem Z05k : XG 100 25 Zgs Z0d [7, 15, 16, 17, 18, 19, 20, 21, 22] := Z1 (by rfl) (by rfl) _
theorem ZUg : Z0d.toList = [Zyh, Zww, Zup, Zyp, Zu0, Zxz, Zn1, Zl7, ZkA] := nf
theorem ZLM : stepA E C B 25 Z0d Zyh (φ, H) = some (fput φ 15 (fget φ 5), H) := nf
theorem ZSC : stepA E C B 25 Z0d Zww (φ, H) = stp (some 16) φ H (just (Z3 E.T 109 (fget φ 2) 0)) := nf
theorem ZM2 : stepA E C B 25 Z0d Zup (φ, H) = stp (some 17) φ H (just (aLoad E.T 106 (fget φ 16))) := nf
theorem ZTN : stepA E C B 25 Z0d Zyp (φ, H) = some (fput φ 18 (fget φ 7), H) := nf
theorem ZVV : stepA E C B 25 Z0d Zu0 (φ, H) = stp (some 19) φ H (just (Z2 E.T 106 (fget φ 17) (fget φ 18))) := nf
theorem ZMx : stepA E C B 25 Z0d Zxz (φ, H) = stp (some 20) φ H (just (Z2 E.T 126 (fget φ 19) (.int .i64 1))) := nf
theorem ZWI : stepA E C B 25 Z0d Zn1 (φ, H) = stp (some 21) φ H (just (aLoad E.T 3 (fget φ 20))) := nf
theorem ZMp : stepA E C B 25 Z0d Zl7 (φ, H) = stp (some 22) φ H (just (aBin E.T .add 3 (fget φ 15) (fget φ 21))) := nf
theorem ZMl : stepA E C B 25 Z0d ZkA (φ, H) = some (fput φ 5 (fget φ 22), H) := nf
theorem Z08K : XQ 100 25 Z8U Zh4 Zgs := Z0 (by rfl) _
theorem Z05x : execA E C (fg 100) B 25 E0 N Zfx s = blockX 1 (fun s => (forget s.1 [], s.2)) (execA E C (fg 100) B 25 E0 N Z8U s) := Za (by rfl) (by rfl) s
def Zgz := kR Z8m
def Z5y := kO Zgz
def Zvo := opN Z5y 0
def Zlx := opN Z5y 1
theorem Z05I : XG 100 25 Zgz Z5y [23] := Z1 (by rfl) (by rfl) _
theorem ZUV : Z5y.toList = [Zvo, Zlx] := nf
theorem ZOh : stepA E C B 25 Z5y Zvo (φ, H) = stp (some 23) φ H (just (aBin E.T .add 3 (fget φ 11) (.int .i64 1))) := nf
theorem ZUa : stepA E C B 25 Z5y Zlx (φ, H) = some (fput φ 11 (fget φ 23), H) := nf
theorem Z06Z : XQ 100 25 Z8m Zfx Zgz := Z0 (by rfl) _
theorem Z04r : XQ 100 25 Z8X Z7N Z8m := Z0 (by rfl) _
theorem Z0ct : XQ 100 25 Z40 Zfv Z8X := Z0 (by rfl) _
theorem Z0gn : execA E C (fg 100) B 25 E0 N ZoH s = iterA (execA E C (fg 100) B 25 E0 N Z40) (headA E0) N s := ZN (by rfl) s
theorem Z0je : execA E C (fg 100) B 25 E0 N Zv3 s = blockX 0 (fun s => (forget s.1 [2, 9, 10, 11, 12], s.2)) (execA E C (fg 100) B 25 E0 N ZoH s) := Za (by rfl) (by rfl) s
theorem Z0dV : XQ 100 25 Zf5 Zwr Zv3 := Z0 (by rfl) _
def Z8a := kR Zdk
def Zh8 := kL Z8a
def Z6c := kO Zh8
def ZsB := opN Z6c 0
def ZlY := opN Z6c 1
theorem Z02I : XG 100 25 Zh8 Z6c [5, 24] := Z1 (by rfl) (by rfl) _
theorem ZLO : Z6c.toList = [ZsB, ZlY] := nf
theorem ZQM : stepA E C B 25 Z6c ZsB (φ, H) = some (fput φ 24 (fget φ 5), H) := nf
theorem ZYj : stepA E C B 25 Z6c ZlY (φ, H) = some (fput φ 4 (fget φ 24), H) := nf
def ZDp := kR Z8a
theorem Z09F : execA E C (fg 100) B 25 E0 N ZDp s = some (.ret, s) := Zl (by rfl) s
theorem Z03J : XQ 100 25 Z8a Zh8 ZDp := Z0 (by rfl) _
theorem Z0h4 : XQ 100 25 Zdk Zf5 Z8a := Z0 (by rfl) _
theorem Z0g9 : XQ 100 25 ZcD Zld Zdk := Z0 (by rfl) _
theorem Z0gt : XQ 100 25 Z6S ZvJ ZcD := Z0 (by rfl) _
theorem Z0dR : fInfo E 100 = some ⟨25, #[.tmp 4], Z6S⟩ := nf
theorem Z0kA (args : List AV) : bodyA E C fg N 100 args H B = bodyX E [.tmp 4] (execA E C (fg 100) B 25 H N Z6S (Z7 args 0 [], H)) := Zn Z0dR args H
abbrev ZdW := And.intro (And.intro (And.intro (And.intro (And.intro @Z0h6 (And.intro @ZZb @ZPn)) (And.intro (And.intro @ZNe @Z0fY) (And.intro @ZNp @ZOa))) (And.intro (And.intro @Z0h9 (And.intro @ZTR @ZVJ)) (And.intro (And.intro @ZOQ @ZYR) (And.intro @ZLF @Z08N)))) (And.intro (And.intro (And.intro @ZLX (And.intro @ZMU @Z09e)) (And.intro (And.intro @Z044 @Z03f) (And.intro @Z09M @ZX0))) (And.intro (And.intro @ZQG (And.intro @ZRN @ZWV)) (And.intro (And.intro @Z05k @ZUg) (And.intro @ZLM @ZSC))))) (And.intro (And.intro (And.intro (And.intro @ZM2 (And.intro @ZTN @ZVV)) (And.intro (And.intro @ZMx @ZWI) (And.intro @ZMp @ZMl))) (And.intro (And.intro @Z08K (And.intro @Z05x @Z05I)) (And.intro (And.intro @ZUV @ZOh) (And.intro @ZUa @Z06Z)))) (And.intro (And.intro (And.intro @Z04r (And.intro @Z0ct @Z0gn)) (And.intro (And.intro @Z0je @Z0dV) (And.intro @Z02I @ZLO))) (And.intro (And.intro (And.intro @ZQM @ZYj) (And.intro @Z09F @Z03J)) (And.intro (And.intro @Z0h4 @Z0g9) (And.intro @Z0gt @Z0kA)))))
def Z7t := kBody Proofs.Tryd.f105
def Zye := kL Z7t
def Z5L := kO Zye
def Zov := opN Z5L 0
def ZkT := opN Z5L 1
theorem Z0jf : XG 105 62 Zye Z5L [0, 4] := Z1 (by rfl) (by rfl) _
theorem ZRF : Z5L.toList = [Zov, ZkT] := nf
theorem ZWz : stepA E C B 62 Z5L Zov (φ, H) = stp (some 2) φ H (opBox (B + 2) (acells (fget φ 0))) := nf
theorem ZMP : stepA E C B 62 Z5L ZkT (φ, H) = some (fput φ 4 (.int .i64 0), H) := nf
def ZcK := kR Z7t
def ZaG := kL ZcK
def Zvz := kL ZaG
def Z0W := kO Zvz
def ZlS := opN Z0W 0
def Zwj := opN Z0W 1
def ZlD := opN Z0W 2
def Zqu := opN Z0W 3
def ZxX := opN Z0W 4
def Zod := opN Z0W 5
theorem Z0ix : XG 105 62 Zvz Z0W [10, 11, 12, 13, 14] := Z1 (by rfl) (by rfl) _
theorem ZVy : Z0W.toList = [ZlS, Zwj, ZlD, Zqu, ZxX, Zod] := nf
theorem ZWn : stepA E C B 62 Z0W ZlS (φ, H) = some (fput φ 10 (fget φ 1), H) := nf
theorem ZQx : stepA E C B 62 Z0W Zwj (φ, H) = stp (some 11) φ H (Z4 E.T (B + 11) .len #[36] [(fget φ 10)]) := nf
theorem ZOE : stepA E C B 62 Z0W ZlD (φ, H) = stp (some 12) φ H (just (Z3 E.T 109 (fget φ 2) 0)) := nf
theorem ZPq : stepA E C B 62 Z0W Zqu (φ, H) = stp (some 13) φ H (just (aLoad E.T 106 (fget φ 12))) := nf
theorem ZSu : stepA E C B 62 Z0W ZxX (φ, H) = stp (some 14) φ H (Z4 E.T (B + 14) .len #[106] [(fget φ 13)]) := nf
theorem ZXk : stepA E C B 62 Z0W Zod (φ, H) = stp (some 15) φ H (just (aBin E.T .neq 3 (fget φ 11) (fget φ 14))) := nf
def Zdy := kR ZaG
def Zez := kT Zdy
def ZxI := kL Zez
def ZdC := kO ZxI
def ZtX := opN ZdC 0
theorem Z0eC : XG 105 62 ZxI ZdC [1, 2, 15] := Z1 (by rfl) (by rfl) _
theorem ZOP : ZdC.toList = [ZtX] := nf
theorem ZSk : stepA E C B 62 ZdC ZtX (φ, H) = some (fput φ 4 (.int .i64 5), H) := nf
def ZIn := kR Zez
theorem Z0cm : execA E C (fg 105) B 62 E0 N ZIn s = some (.ret, s) := Zl (by rfl) s
theorem Z0h0 : XQ 105 62 Zez ZxI ZIn := Z0 (by rfl) _
def ZJJ := kE Zdy
theorem Z0j8 : execA E C (fg 105) B 62 E0 N ZJJ s = some (.normal, s) := Zh (by rfl) s
theorem Z0gB : XC 105 62 Zdy 15 Zez ZJJ := Zb (by rfl) _
theorem Z0e0 : XQ 105 62 ZaG Zvz Zdy := Z0 (by rfl) _
def Z9s := kR ZcK
def Zg9 := kL Z9s
def Z3r := kO Zg9
def Zn7 := opN Z3r 0
def Zr6 := opN Z3r 1
def Zux := opN Z3r 2
theorem Z0bh : XG 105 62 Zg9 Z3r [15, 16, 17] := Z1 (by rfl) (by rfl) _
theorem ZVS : Z3r.toList = [Zn7, Zr6, Zux] := nf
theorem ZVg : stepA E C B 62 Z3r Zn7 (φ, H) = stp (some 16) φ H (just (aLoad E.T 109 (fget φ 2))) := nf
theorem ZX3 : stepA E C B 62 Z3r Zr6 (φ, H) = stp (some 17) φ H (aCall C (fun j => B + j * 62 + 17) true 95 [(fget φ 16)]) := nf
theorem ZZs : stepA E C B 62 Z3r Zux (φ, H) = some (fput φ 5 (fget φ 17), H) := nf
def Z7M := kR Z9s
def Z7U := kL Z7M
def ZfX := kL Z7U
def Z32 := kO ZfX
def Zrm := opN Z32 0
def Zmo := opN Z32 1
def ZlP := opN Z32 2
theorem Z03o : XG 105 62 ZfX Z32 [1] := Z1 (by rfl) (by rfl) _
theorem ZY0 : Z32.toList = [Zrm, Zmo, ZlP] := nf
theorem ZWo : stepA E C B 62 Z32 Zrm (φ, H) = some (fput φ 18 (fget φ 1), H) := nf
theorem ZWc : stepA E C B 62 Z32 Zmo (φ, H) = stp (some 19) φ H (Z4 E.T (B + 19) .len #[36] [(fget φ 18)]) := nf
theorem ZOV : stepA E C B 62 Z32 ZlP (φ, H) = some (fput φ 20 (.int .i64 0), H) := nf
def ZfF := kR Z7U
def ZfI := kB ZfF
def Z1A := kB ZfI
def Zfw := kL Z1A
def Zec := kO Zfw
def Zti := opN Zec 0
theorem Z06M : XG 105 62 Zfw Zec [] := Z1 (by rfl) (by rfl) _
theorem ZXS : Zec.toList = [Zti] := nf
theorem ZT7 : stepA E C B 62 Zec Zti (φ, H) = stp (some 21) φ H (just (aBin E.T .lss 3 (fget φ 20) (fget φ 19))) := nf
def Z9v := kR Z1A
def Z7K := kL Z9v
def ZzU := kT Z7K
theorem Z0aJ : execA E C (fg 105) B 62 E0 N ZzU s = some (.normal, s) := Zh (by rfl) s
def ZCQ := kE Z7K
theorem Z06s : execA E C (fg 105) B 62 E0 N ZCQ s = some (.exit 0, s) := ZO (by rfl) s
theorem Z08h : XC 105 62 Z7K 21 ZzU ZCQ := Zb (by rfl) _
def Z9g := kR Z9v
def ZgU := kL Z9g
def Z7X := kB ZgU
def Zge := kL Z7X
def Z39 := kO Zge
def Zoj := opN Z39 0
def ZkD := opN Z39 1
def Zlp := opN Z39 2
theorem Z00C : XG 105 62 Zge Z39 [21, 22, 23] := Z1 (by rfl) (by rfl) _
theorem ZPm : Z39.toList = [Zoj, ZkD, Zlp] := nf
theorem ZU6 : stepA E C B 62 Z39 Zoj (φ, H) = stp (some 22) φ H (just (Z2 E.T 36 (fget φ 18) (fget φ 20))) := nf
theorem ZPP : stepA E C B 62 Z39 ZkD (φ, H) = stp (some 23) φ H (just (aLoad E.T 3 (fget φ 22))) := nf
theorem ZXc : stepA E C B 62 Z39 Zlp (φ, H) = some (fput φ 7 (fget φ 23), H) := nf
def Z9b := kR Z7X
def ZfZ := kL Z9b
def Z8H := kB ZfZ
def ZfU := kL Z8H
def Z01 := kO ZfU
def Zoe := opN Z01 0
def Zv2 := opN Z01 1
def Z2b := opN Z01 2
def Zsx := opN Z01 3
def ZkC := opN Z01 4
def Zqa := opN Z01 5
def ZnX := opN Z01 6
def Zlz := opN Z01 7
def Zmt := opN Z01 8
def ZmW := opN Z01 9
theorem Z02X : XG 105 62 ZfU Z01 [25, 26, 27, 28, 29, 30, 31, 32, 33] := Z1 (by rfl) (by rfl) _
theorem ZVa : Z01.toList = [Zoe, Zv2, Z2b, Zsx, ZkC, Zqa, ZnX, Zlz, Zmt, ZmW] := nf
theorem ZP9 : stepA E C B 62 Z01 Zoe (φ, H) = some (fput φ 25 (fget φ 7), H) := nf
theorem ZXu : stepA E C B 62 Z01 Zv2 (φ, H) = stp (some 26) φ H (just (aBin E.T .lss 3 (fget φ 25) (.int .i64 0))) := nf
theorem ZMj : stepA E C B 62 Z01 Z2b (φ, H) = some (fput φ 27 (fget φ 26), H) := nf
theorem ZSL : stepA E C B 62 Z01 Zsx (φ, H) = gd φ 27 false (fun φ => some (fput φ 28 (.tup []), H)) (fun φ => some (fput φ 28 (fget φ 7), H)) := s_gd (j := 2) (oj := Z2b) rfl rfl rfl (fun _ => rfl) (fun _ => rfl)
theorem ZM4 : stepA E C B 62 Z01 ZkC (φ, H) = gd φ 27 false (fun φ => some (fput φ 29 (.tup []), H)) (fun φ => stp (some 29) φ H (just (Z3 E.T 109 (fget φ 2) 0))) := s_gd (j := 2) (oj := Z2b) rfl rfl rfl (fun _ => rfl) (fun _ => rfl)
theorem ZTB : stepA E C B 62 Z01 Zqa (φ, H) = gd φ 27 false (fun φ => some (fput φ 30 (.tup []), H)) (fun φ => stp (some 30) φ H (just (aLoad E.T 106 (fget φ 29)))) := s_gd (j := 2) (oj := Z2b) rfl rfl rfl (fun _ => rfl) (fun _ => rfl)
theorem ZR1 : stepA E C B 62 Z01 ZnX (φ, H) = gd φ 27 false (fun φ => some (fput φ 31 (.tup []), H)) (fun φ => stp (some 31) φ H (Z4 E.T (B + 31) .len #[106] [(fget φ 30)])) := s_gd (j := 2) (oj := Z2b) rfl rfl rfl (fun _ => rfl) (fun _ => rfl)
theorem ZMX : stepA E C B 62 Z01 Zlz (φ, H) = gd φ 27 false (fun φ => some (fput φ 32 (.tup []), H)) (fun φ => stp (some 32) φ H (just (aBin E.T .geq 3 (fget φ 28) (fget φ 31)))) := s_gd (j := 2) (oj := Z2b) rfl rfl rfl (fun _ => rfl) (fun _ => rfl)
theorem ZS1 : stepA E C B 62 Z01 Zmt (φ, H) = stp (some 33) φ H (opPick (fget φ 27) (.bool true) (fget φ 32)) := nf
theorem ZRj : stepA E C B 62 Z01 ZmW (φ, H) = some (fput φ 24 (fget φ 33), H) := nf
def Z8J := kR Z8H
def Z9a := kT Z8J
def Zgt := kL Z9a
def Zbo := kO Zgt
def Zo2 := opN Zbo 0
theorem Z08w : XG 105 62 Zgt Zbo [2, 5, 7, 18, 19, 20, 24] := Z1 (by rfl) (by rfl) _
theorem ZQJ : Zbo.toList = [Zo2] := nf
theorem ZPG : stepA E C B 62 Zbo Zo2 (φ, H) = some (fput φ 4 (.int .i64 2), H) := nf
def ZyZ := kR Z9a
theorem Z03N : execA E C (fg 105) B 62 E0 N ZyZ s = some (.ret, s) := Zl (by rfl) s
theorem Z00H : XQ 105 62 Z9a Zgt ZyZ := Z0 (by rfl) _
def Z8S := kE Z8J
def Zfs := kL Z8S
def Z10 := kO Zfs
def Zqk := opN Z10 0
def ZvP := opN Z10 1
def ZmG := opN Z10 2
def ZxQ := opN Z10 3
def Zyl := opN Z10 4
def ZsX := opN Z10 5
theorem Z0al : XG 105 62 Zfs Z10 [24, 35, 36, 37, 38, 39] := Z1 (by rfl) (by rfl) _
theorem ZTW : Z10.toList = [Zqk, ZvP, ZmG, ZxQ, Zyl, ZsX] := nf
theorem ZYa : stepA E C B 62 Z10 Zqk (φ, H) = some (fput φ 35 (fget φ 5), H) := nf
theorem ZPN : stepA E C B 62 Z10 ZvP (φ, H) = some (fput φ 36 (fget φ 7), H) := nf
theorem ZSZ : stepA E C B 62 Z10 ZmG (φ, H) = stp (some 37) φ H (just (aBin E.T .shr 121 (fget φ 35) (fget φ 36))) := nf
theorem ZQF : stepA E C B 62 Z10 ZxQ (φ, H) = stp (some 38) φ H (just (aBin E.T .and 121 (fget φ 37) (.int .u64 1))) := nf
theorem ZQm : stepA E C B 62 Z10 Zyl (φ, H) = stp (some 39) φ H (just (aBin E.T .eql 121 (fget φ 38) (.int .u64 0))) := nf
theorem ZRp : stepA E C B 62 Z10 ZsX (φ, H) = some (fput φ 34 (fget φ 39), H) := nf
def Z8D := kR Z8S
def Z9m := kT Z8D
def Zfr := kL Z9m
def Z83 := kO Zfr
def ZhP := opN Z83 0
theorem Z02n : XG 105 62 Zfr Z83 [2, 5, 7, 18, 19, 20, 34] := Z1 (by rfl) (by rfl) _
theorem ZIB : Z83.toList = [ZhP] := nf
theorem ZL4 : stepA E C B 62 Z83 ZhP (φ, H) = some (fput φ 4 (.int .i64 6), H) := nf
def ZBY := kR Z9m
theorem Z02e : execA E C (fg 105) B 62 E0 N ZBY s = some (.ret, s) := Zl (by rfl) s
theorem Z0ay : XQ 105 62 Z9m Zfr ZBY := Z0 (by rfl) _
def ZEJ := kE Z8D
theorem Z04P : execA E C (fg 105) B 62 E0 N ZEJ s = some (.normal, s) := Zh (by rfl) s
theorem Z09k : XC 105 62 Z8D 34 Z9m ZEJ := Zb (by rfl) _
theorem Z01Y : XQ 105 62 Z8S Zfs Z8D := Z0 (by rfl) _
theorem Z07t : XC 105 62 Z8J 24 Z9a Z8S := Zb (by rfl) _
theorem Z0as : XQ 105 62 Z8H ZfU Z8J := Z0 (by rfl) _
theorem Z028 : execA E C (fg 105) B 62 E0 N ZfZ s = blockX 2 (fun s => (forget s.1 [34], s.2)) (execA E C (fg 105) B 62 E0 N Z8H s) := Za (by rfl) (by rfl) s
def Z9h := kR Z9b
def ZgF := kL Z9h
def Z0F := kO ZgF
def Zhw := opN Z0F 0
def Zib := opN Z0F 1
def Zhq := opN Z0F 2
def Zi2 := opN Z0F 3
def Zir := opN Z0F 4
theorem Z04f : XG 105 62 ZgF Z0F [40, 41, 42, 43] := Z1 (by rfl) (by rfl) _
theorem ZJ7 : Z0F.toList = [Zhw, Zib, Zhq, Zi2, Zir] := nf
theorem ZHR : stepA E C B 62 Z0F Zhw (φ, H) = some (fput φ 40 (fget φ 5), H) := nf
theorem ZLh : stepA E C B 62 Z0F Zib (φ, H) = some (fput φ 41 (fget φ 7), H) := nf
theorem ZJX : stepA E C B 62 Z0F Zhq (φ, H) = stp (some 42) φ H (just (aBin E.T .shl 121 (.int .u64 1) (fget φ 41))) := nf
theorem ZLq : stepA E C B 62 Z0F Zi2 (φ, H) = stp (some 43) φ H (just (aBin E.T .andNot 121 (fget φ 40) (fget φ 42))) := nf
theorem ZJU : stepA E C B 62 Z0F Zir (φ, H) = some (fput φ 5 (fget φ 43), H) := nf
def Z8i := kR Z9h
def ZgE := kL Z8i
def Z1n := kO ZgE
def Zho := opN Z1n 0
def ZhR := opN Z1n 1
def ZiB := opN Z1n 2
def Zin := opN Z1n 3
theorem Z07I : XG 105 62 ZgE Z1n [44] := Z1 (by rfl) (by rfl) _
theorem ZJf : Z1n.toList = [Zho, ZhR, ZiB, Zin] := nf
theorem ZHL : stepA E C B 62 Z1n Zho (φ, H) = some (fput φ 44 (fget φ 5), H) := nf
theorem ZJZ : stepA E C B 62 Z1n ZhR (φ, H) = stp (some 45) φ H (aCall C (fun j => B + j * 62 + 45) true 97 [(fget φ 44)]) := nf
theorem ZLc : stepA E C B 62 Z1n ZiB (φ, H) = stp (some 46) φ H (Z4 E.T (B + 46) .len #[36] [(fget φ 45)]) := nf
theorem ZIZ : stepA E C B 62 Z1n Zin (φ, H) = some (fput φ 47 (.int .i64 0), H) := nf
def ZgV := kR Z8i
def ZfC := kB ZgV
def Z1D := kB ZfC
def Zgu := kL Z1D
def Z8g := kO Zgu
def Zhn := opN Z8g 0
theorem Z0bd : XG 105 62 Zgu Z8g [] := Z1 (by rfl) (by rfl) _
theorem ZLm : Z8g.toList = [Zhn] := nf
theorem ZI3 : stepA E C B 62 Z8g Zhn (φ, H) = stp (some 48) φ H (just (aBin E.T .lss 3 (fget φ 47) (fget φ 46))) := nf
def Z8k := kR Z1D
def Z82 := kL Z8k
def ZAv := kT Z82
theorem Z013 : execA E C (fg 105) B 62 E0 N ZAv s = some (.normal, s) := Zh (by rfl) s
def ZEq := kE Z82
theorem Z00u : execA E C (fg 105) B 62 E0 N ZEq s = some (.exit 3, s) := ZO (by rfl) s
theorem Z08U : XC 105 62 Z82 48 ZAv ZEq := Zb (by rfl) _
def Z9K := kR Z8k
def ZgM := kL Z9K
def Z7L := kB ZgM
def ZfV := kL Z7L
def Z2l := kO ZfV
def Zhg := opN Z2l 0
def Zi3 := opN Z2l 1
def ZhM := opN Z2l 2
theorem Z02Y : XG 105 62 ZfV Z2l [48, 49, 50] := Z1 (by rfl) (by rfl) _
theorem ZIR : Z2l.toList = [Zhg, Zi3, ZhM] := nf
theorem ZJT : stepA E C B 62 Z2l Zhg (φ, H) = stp (some 49) φ H (just (Z2 E.T 36 (fget φ 45) (fget φ 47))) := nf
theorem ZJO : stepA E C B 62 Z2l Zi3 (φ, H) = stp (some 50) φ H (just (aLoad E.T 3 (fget φ 49))) := nf
theorem ZIV : stepA E C B 62 Z2l ZhM (φ, H) = some (fput φ 9 (fget φ 50), H) := nf
def Z7R := kR Z7L
def Zfm := kL Z7R
def ZR := kO Zfm
def Ziu := opN ZR 0
def Ziz := opN ZR 1
def Zhe := opN ZR 2
def Zi5 := opN ZR 3
def Ziy := opN ZR 4
def ZhS := opN ZR 5
def Zie := opN ZR 6
def Zhy := opN ZR 7
def Zhz := opN ZR 8
theorem Z06a : XG 105 62 Zfm ZR [9, 51, 52, 53, 54, 55, 56, 57, 58] := Z1 (by rfl) (by rfl) _
theorem ZHv : ZR.toList = [Ziu, Ziz, Zhe, Zi5, Ziy, ZhS, Zie, Zhy, Zhz] := nf
theorem ZIC : stepA E C B 62 ZR Ziu (φ, H) = stp (some 51) φ H (just (Z3 E.T 109 (fget φ 2) 1)) := nf
theorem ZK4 : stepA E C B 62 ZR Ziz (φ, H) = stp (some 52) φ H (just (aLoad E.T 107 (fget φ 51))) := nf
theorem ZHI : stepA E C B 62 ZR Zhe (φ, H) = some (fput φ 53 (fget φ 9), H) := nf
theorem ZKo : stepA E C B 62 ZR Zi5 (φ, H) = stp (some 54) φ H (just (Z2 E.T 107 (fget φ 52) (fget φ 53))) := nf
theorem ZLv : stepA E C B 62 ZR Ziy (φ, H) = stp (some 55) φ H (just (aLoad E.T 121 (fget φ 54))) := nf
theorem ZHB : stepA E C B 62 ZR ZhS (φ, H) = some (fput φ 56 (fget φ 7), H) := nf
theorem ZIz : stepA E C B 62 ZR Zie (φ, H) = stp (some 57) φ H (just (aBin E.T .shr 121 (fget φ 55) (fget φ 56))) := nf
theorem ZHY : stepA E C B 62 ZR Zhy (φ, H) = stp (some 58) φ H (just (aBin E.T .and 121 (fget φ 57) (.int .u64 1))) := nf
theorem ZKu : stepA E C B 62 ZR Zhz (φ, H) = stp (some 59) φ H (just (aBin E.T .eql 121 (fget φ 58) (.int .u64 1))) := nf
def Z86 := kR Z7R
def Z93 := kT Z86
def Zgy := kL Z93
def Z8h := kO Zgy
def Zi1 := opN Z8h 0
theorem Z06x : XG 105 62 Zgy Z8h [2, 5, 7, 18, 19, 20, 45, 46, 47, 59] := Z1 (by rfl) (by rfl) _
theorem ZHZ : Z8h.toList = [Zi1] := nf
theorem ZKQ : stepA E C B 62 Z8h Zi1 (φ, H) = some (fput φ 4 (.int .i64 21), H) := nf
def ZCc := kR Z93
theorem Z03g : execA E C (fg 105) B 62 E0 N ZCc s = some (.ret, s) := Zl (by rfl) s
theorem Z03r : XQ 105 62 Z93 Zgy ZCc := Z0 (by rfl) _
def ZAf := kE Z86
theorem Z05t : execA E C (fg 105) B 62 E0 N ZAf s = some (.normal, s) := Zh (by rfl) s
theorem Z05p : XC 105 62 Z86 59 Z93 ZAf := Zb (by rfl) _
theorem Z09Q : XQ 105 62 Z7R Zfm Z86 := Z0 (by rfl) _
theorem Z08D : XQ 105 62 Z7L ZfV Z7R := Z0 (by rfl) _
theorem Z00y : execA E C (fg 105) B 62 E0 N ZgM s = blockX 4 (fun s => (forget s.1 [59], s.2)) (execA E C (fg 105) B 62 E0 N Z7L s) := Za (by rfl) (by rfl) s
def Zfi := kR Z9K
def Z3G := kO Zfi
def Zik := opN Z3G 0
def Ziq := opN Z3G 1
theorem Z02x : XG 105 62 Zfi Z3G [60] := Z1 (by rfl) (by rfl) _
theorem ZJw : Z3G.toList = [Zik, Ziq] := nf
theorem ZLn : stepA E C B 62 Z3G Zik (φ, H) = stp (some 60) φ H (just (aBin E.T .add 3 (fget φ 47) (.int .i64 1))) := nf
theorem ZJv : stepA E C B 62 Z3G Ziq (φ, H) = some (fput φ 47 (fget φ 60), H) := nf
theorem Z05c : XQ 105 62 Z9K ZgM Zfi := Z0 (by rfl) _
theorem Z07H : XQ 105 62 Z8k Z82 Z9K := Z0 (by rfl) _
theorem Z05e : XQ 105 62 Z1D Zgu Z8k := Z0 (by rfl) _
theorem Z09o : execA E C (fg 105) B 62 E0 N ZfC s = iterA (execA E C (fg 105) B 62 E0 N Z1D) (headA E0) N s := ZN (by rfl) s
theorem Z02D : execA E C (fg 105) B 62 E0 N ZgV s = blockX 3 (fun s => (forget s.1 [7, 45, 46, 47, 48], s.2)) (execA E C (fg 105) B 62 E0 N ZfC s) := Za (by rfl) (by rfl) s
theorem Z06v : XQ 105 62 Z8i ZgE ZgV := Z0 (by rfl) _
theorem Z01w : XQ 105 62 Z9h ZgF Z8i := Z0 (by rfl) _
theorem Z0aL : XQ 105 62 Z9b ZfZ Z9h := Z0 (by rfl) _
theorem Z070 : XQ 105 62 Z7X Zge Z9b := Z0 (by rfl) _
theorem Z02L : execA E C (fg 105) B 62 E0 N ZgU s = blockX 1 (fun s => (forget s.1 [], s.2)) (execA E C (fg 105) B 62 E0 N Z7X s) := Za (by rfl) (by rfl) s
def ZgY := kR Z9g
def Z3D := kO ZgY
def Zi4 := opN Z3D 0
def ZhN := opN Z3D 1
theorem Z0ab : XG 105 62 ZgY Z3D [61] := Z1 (by rfl) (by rfl) _
theorem ZKs : Z3D.toList = [Zi4, ZhN] := nf
theorem ZIX : stepA E C B 62 Z3D Zi4 (φ, H) = stp (some 61) φ H (just (aBin E.T .add 3 (fget φ 20) (.int .i64 1))) := nf
theorem ZKZ : stepA E C B 62 Z3D ZhN (φ, H) = some (fput φ 20 (fget φ 61), H) := nf
theorem Z045 : XQ 105 62 Z9g ZgU ZgY := Z0 (by rfl) _
theorem Z06h : XQ 105 62 Z9v Z7K Z9g := Z0 (by rfl) _
theorem Z06z : XQ 105 62 Z1A Zfw Z9v := Z0 (by rfl) _
theorem Z00o : execA E C (fg 105) B 62 E0 N ZfI s = iterA (execA E C (fg 105) B 62 E0 N Z1A) (headA E0) N s := ZN (by rfl) s
theorem Z09j : execA E C (fg 105) B 62 E0 N ZfF s = blockX 0 (fun s => (forget s.1 [2, 5, 18, 19, 20, 21], s.2)) (execA E C (fg 105) B 62 E0 N ZfI s) := Za (by rfl) (by rfl) s
theorem Z00x : XQ 105 62 Z7U ZfX ZfF := Z0 (by rfl) _
def Z7F := kR Z7M
def ZgR := kL Z7F
def Z8O := kO ZgR
def ZhT := opN Z8O 0
theorem Z020 : XG 105 62 ZgR Z8O [] := Z1 (by rfl) (by rfl) _
theorem ZLs : Z8O.toList = [ZhT] := nf
theorem ZLk : stepA E C B 62 Z8O ZhT (φ, H) = some (fput φ 4 (.int .i64 0), H) := nf
def ZCo := kR Z7F
theorem Z02H : execA E C (fg 105) B 62 E0 N ZCo s = some (.ret, s) := Zl (by rfl) s
theorem Z0au : XQ 105 62 Z7F ZgR ZCo := Z0 (by rfl) _
theorem Z02w : XQ 105 62 Z7M Z7U Z7F := Z0 (by rfl) _
theorem Z03U : XQ 105 62 Z9s Zg9 Z7M := Z0 (by rfl) _
theorem Z0eP : XQ 105 62 ZcK ZaG Z9s := Z0 (by rfl) _
theorem Z0iq : XQ 105 62 Z7t Zye ZcK := Z0 (by rfl) _
theorem Z0i1 : fInfo E 105 = some ⟨62, #[.tmp 4], Z7t⟩ := nf
theorem Z0kq (args : List AV) : bodyA E C fg N 105 args H B = bodyX E [.tmp 4] (execA E C (fg 105) B 62 H N Z7t (Z7 args 0 [], H)) := Zn Z0i1 args H
abbrev Z17 := And.intro (And.intro (And.intro (And.intro (And.intro (And.intro (And.intro @Z0jf @ZRF) (And.intro @ZWz @ZMP)) (And.intro (And.intro @Z0ix @ZVy) (And.intro @ZWn (And.intro @ZQx @ZOE)))) (And.intro (And.intro (And.intro @ZPq @ZSu) (And.intro @ZXk (And.intro @Z0eC @ZOP))) (And.intro (And.intro @ZSk @Z0cm) (And.intro @Z0h0 (And.intro @Z0j8 @Z0gB))))) (And.intro (And.intro (And.intro (And.intro @Z0e0 @Z0bh) (And.intro @ZVS (And.intro @ZVg @ZX3))) (And.intro (And.intro @ZZs @Z03o) (And.intro @ZY0 (And.intro @ZWo @ZWc)))) (And.intro (And.intro (And.intro @ZOV @Z06M) (And.intro @ZXS (And.intro @ZT7 @Z0aJ))) (And.intro (And.intro @Z06s @Z08h) (And.intro @Z00C (And.intro @ZPm @ZU6)))))) (And.intro (And.intro (And.intro (And.intro (And.intro @ZPP @ZXc) (And.intro @Z02X @ZVa)) (And.intro (And.intro @ZP9 @ZXu) (And.intro @ZMj (And.intro @ZSL @ZM4)))) (And.intro (And.intro (And.intro @ZTB @ZR1) (And.intro @ZMX (And.intro @ZS1 @ZRj))) (And.intro (And.intro @Z08w @ZQJ) (And.intro @ZPG (And.intro @Z03N @Z00H))))) (And.intro (And.intro (And.intro (And.intro @Z0al @ZTW) (And.intro @ZYa (And.intro @ZPN @ZSZ))) (And.intro (And.intro @ZQF @ZQm) (And.intro @ZRp (And.intro @Z02n @ZIB)))) (And.intro (And.intro (And.intro @ZL4 @Z02e) (And.intro @Z0ay (And.intro @Z04P @Z09k))) (And.intro (And.intro @Z01Y @Z07t) (And.intro @Z0as (And.intro @Z028 @Z04f))))))) (And.intro (And.intro (And.intro (And.intro (And.intro (And.intro @ZJ7 @ZHR) (And.intro @ZLh @ZJX)) (And.intro (And.intro @ZLq @ZJU) (And.intro @Z07I (And.intro @ZJf @ZHL)))) (And.intro (And.intro (And.intro @ZJZ @ZLc) (And.intro @ZIZ (And.intro @Z0bd @ZLm))) (And.intro (And.intro @ZI3 @Z013) (And.intro @Z00u (And.intro @Z08U @Z02Y))))) (And.intro (And.intro (And.intro (And.intro @ZIR @ZJT) (And.intro @ZJO (And.intro @ZIV @Z06a))) (And.intro (And.intro @ZHv @ZIC) (And.intro @ZK4 (And.intro @ZHI @ZKo)))) (And.intro (And.intro (And.intro @ZLv @ZHB) (And.intro @ZIz (And.intro @ZHY @ZKu))) (And.intro (And.intro @Z06x @ZHZ) (And.intro @ZKQ (And.intro @Z03g @Z03r)))))) (And.intro (And.intro (And.intro (And.intro (And.intro @Z05t @Z05p) (And.intro @Z09Q @Z08D)) (And.intro (And.intro @Z00y @Z02x) (And.intro @ZJw (And.intro @ZLn @ZJv)))) (And.intro (And.intro (And.intro @Z05c @Z07H) (And.intro @Z05e (And.intro @Z09o @Z02D))) (And.intro (And.intro @Z06v @Z01w) (And.intro @Z0aL (And.intro @Z070 @Z02L))))) (And.intro (And.intro (And.intro (And.intro @Z0ab @ZKs) (And.intro @ZIX (And.intro @ZKZ @Z045))) (And.intro (And.intro @Z06h @Z06z) (And.intro @Z00o (And.intro @Z09j @Z00x)))) (And.intro (And.intro (And.intro @Z020 @ZLs) (And.intro @ZLk (And.intro @Z02H @Z0au))) (And.intro (And.intro @Z02w @Z03U) (And.intro @Z0eP (And.intro @Z0iq @Z0kq)))))))
def Zc4 := kBody Proofs.Tryd.f50
def ZGC := kL Zc4
def Z8R := kO ZGC
def ZBN := opN Z8R 0
def ZEh := opN Z8R 1
theorem Z0ns : XG 50 18 ZGC Z8R [0, 4] := Z1 (by rfl) (by rfl) _
theorem Z08B : Z8R.toList = [ZBN, ZEh] := nf
theorem Z04m : stepA E C B 18 Z8R ZBN (φ, H) = stp (some 2) φ H (opBox (B + 2) (acells (fget φ 0))) := nf
theorem Z0a0 : stepA E C B 18 Z8R ZEh (φ, H) = some (fput φ 4 (.int .i64 0), H) := nf
def ZjB := kR Zc4
def ZGq := kL ZjB
def Z0D := kO ZGq
def ZFb := opN Z0D 0
def ZCD := opN Z0D 1
def ZC8 := opN Z0D 2
def ZzC := opN Z0D 3
def ZEe := opN Z0D 4
def ZzB := opN Z0D 5
def ZDH := opN Z0D 6
def Zzc := opN Z0D 7
theorem Z0l4 : XG 50 18 ZGq Z0D [2, 7, 8, 9, 10, 11] := Z1 (by rfl) (by rfl) _
theorem Z0be : Z0D.toList = [ZFb, ZCD, ZC8, ZzC, ZEe, ZzB, ZDH, Zzc] := nf
theorem Z06q : stepA E C B 18 Z0D ZFb (φ, H) = stp (some 8) φ H (just (aLoad E.T 25 (fget φ 2))) := nf
theorem Z09m : stepA E C B 18 Z0D ZCD (φ, H) = stp (some 9) φ H (aCall C (fun j => B + j * 18 + 9) true 88 [(fget φ 8)]) := nf
theorem Z085 : stepA E C B 18 Z0D ZC8 (φ, H) = some (fput φ 7 (fget φ 9), H) := nf
theorem Z09U : stepA E C B 18 Z0D ZzC (φ, H) = stp (some 10) φ H (ZG (fget φ 7) 0) := nf
theorem Z09Z : stepA E C B 18 Z0D ZEe (φ, H) = stp (some 11) φ H (ZG (fget φ 7) 1) := nf
theorem Z05u : stepA E C B 18 Z0D ZzB (φ, H) = stp (some 5) φ H (opBox (B + 5) (zeroCells E.T 109)) := nf
theorem Z066 : stepA E C B 18 Z0D ZDH (φ, H) = stp none φ H (opStore E.T 109 (fget φ 5) (fget φ 10)) := nf
theorem Z04Q : stepA E C B 18 Z0D Zzc (φ, H) = some (fput φ 6 (fget φ 11), H) := nf
def ZiY := kR ZjB
def Zj5 := kL ZiY
def ZGT := kL Zj5
def Z81 := kO ZGT
def Zzu := opN Z81 0
def ZCM := opN Z81 1
theorem Z0mc : XG 50 18 ZGT Z81 [12] := Z1 (by rfl) (by rfl) _
theorem Z026 : Z81.toList = [Zzu, ZCM] := nf
theorem Z041 : stepA E C B 18 Z81 Zzu (φ, H) = some (fput φ 12 (fget φ 6), H) := nf
theorem Z05Q : stepA E C B 18 Z81 ZCM (φ, H) = stp (some 13) φ H (just (aBin E.T .neq 32 (fget φ 12) (.int .i64 0))) := nf
def Zj4 := kR Zj5
def Zjx := kT Zj4
def ZGo := kL Zjx
def Z92 := kO ZGo
def ZFy := opN Z92 0
def ZF1 := opN Z92 1
theorem Z0ml : XG 50 18 ZGo Z92 [1, 5, 6, 13, 14] := Z1 (by rfl) (by rfl) _
theorem Z011 : Z92.toList = [ZFy, ZF1] := nf
theorem Z03D : stepA E C B 18 Z92 ZFy (φ, H) = some (fput φ 14 (fget φ 6), H) := nf
theorem Z05l : stepA E C B 18 Z92 ZF1 (φ, H) = some (fput φ 4 (fget φ 14), H) := nf
def ZLe := kR Zjx
theorem Z0bE : execA E C (fg 50) B 18 E0 N ZLe s = some (.ret, s) := Zl (by rfl) s
theorem Z0kV : XQ 50 18 Zjx ZGo ZLe := Z0 (by rfl) _
def ZJA := kE Zj4
theorem Z0js : execA E C (fg 50) B 18 E0 N ZJA s = some (.normal, s) := Zh (by rfl) s
theorem Z0kP : XC 50 18 Zj4 13 Zjx ZJA := Zb (by rfl) _
theorem Z0mG : XQ 50 18 Zj5 ZGT Zj4 := Z0 (by rfl) _
def Zct := kR ZiY
def Zpw := kL Zct
def Z2O := kO Zpw
def ZDg := opN Z2O 0
def ZzA := opN Z2O 1
def ZCB := opN Z2O 2
def Zze := opN Z2O 3
theorem Z0ge : XG 50 18 Zpw Z2O [1, 5, 6, 13, 15, 16, 17] := Z1 (by rfl) (by rfl) _
theorem Z006 : Z2O.toList = [ZDg, ZzA, ZCB, Zze] := nf
theorem Z03Z : stepA E C B 18 Z2O ZDg (φ, H) = stp (some 15) φ H (just (aLoad E.T 109 (fget φ 5))) := nf
theorem Z07Y : stepA E C B 18 Z2O ZzA (φ, H) = some (fput φ 16 (fget φ 1), H) := nf
theorem Z05U : stepA E C B 18 Z2O ZCB (φ, H) = stp (some 17) φ H (aCall C (fun j => B + j * 18 + 17) true 105 [(fget φ 15), (fget φ 16)]) := nf
theorem Z07M : stepA E C B 18 Z2O Zze (φ, H) = some (fput φ 4 (fget φ 17), H) := nf
def ZJg := kR Zct
theorem Z0c4 : execA E C (fg 50) B 18 E0 N ZJg s = some (.ret, s) := Zl (by rfl) s
theorem Z0jM : XQ 50 18 Zct Zpw ZJg := Z0 (by rfl) _
theorem Z0mW : XQ 50 18 ZiY Zj5 Zct := Z0 (by rfl) _
theorem Z0lp : XQ 50 18 ZjB ZGq ZiY := Z0 (by rfl) _
theorem Z0mb : XQ 50 18 Zc4 ZGC ZjB := Z0 (by rfl) _
theorem Z0nK : fInfo E 50 = some ⟨18, #[.tmp 4], Zc4⟩ := nf
theorem b_50 (args : List AV) : bodyA E C fg N 50 args H B = bodyX E [.tmp 4] (execA E C (fg 50) B 18 H N Zc4 (Z7 args 0 [], H)) := Zn Z0nK args H
abbrev F_50 := And.intro (And.intro (And.intro (And.intro (And.intro @Z0ns @Z08B) (And.intro @Z04m @Z0a0)) (And.intro (And.intro @Z0l4 @Z0be) (And.intro @Z06q (And.intro @Z09m @Z085)))) (And.intro (And.intro (And.intro @Z09U @Z09Z) (And.intro @Z05u (And.intro @Z066 @Z04Q))) (And.intro (And.intro @Z0mc @Z026) (And.intro @Z041 (And.intro @Z05Q @Z0ml))))) (And.intro (And.intro (And.intro (And.intro @Z011 @Z03D) (And.intro @Z05l (And.intro @Z0bE @Z0kV))) (And.intro (And.intro @Z0js @Z0kP) (And.intro @Z0mG (And.intro @Z0ge @Z006)))) (And.intro (And.intro (And.intro @Z03Z @Z07Y) (And.intro @Z05U (And.intro @Z07M @Z0c4))) (And.intro (And.intro @Z0jM @Z0mW) (And.intro @Z0lp (And.intro @Z0mb @b_50)))))
def Z7E := kBody Proofs.Tryd.f140
def Zsa := kL Z7E
def Zdq := kO Zsa
def ZwB := opN Zdq 0
theorem Z0hK : XG 140 42 Zsa Zdq [4] := Z1 (by rfl) (by rfl) _
theorem ZMn : Zdq.toList = [ZwB] := nf
theorem ZQR : stepA E C B 42 Zdq ZwB (φ, H) = some (fput φ 4 (.nilsl), H) := nf
def Zee := kR Z7E
def ZvY := kL Zee
def Z1T := kO ZvY
def Zp8 := opN Z1T 0
def Ztx := opN Z1T 1
def Zmi := opN Z1T 2
def Zyw := opN Z1T 3
theorem Z0iN : XG 140 42 ZvY Z1T [8, 9, 10] := Z1 (by rfl) (by rfl) _
theorem ZXo : Z1T.toList = [Zp8, Ztx, Zmi, Zyw] := nf
theorem ZUp : stepA E C B 42 Z1T Zp8 (φ, H) = some (fput φ 8 (fget φ 0), H) := nf
theorem ZOD : stepA E C B 42 Z1T Ztx (φ, H) = some (fput φ 9 (fget φ 1), H) := nf
theorem ZSO : stepA E C B 42 Z1T Zmi (φ, H) = stp (some 10) φ H (aCall C (fun j => B + j * 42 + 10) true 54 [(fget φ 8), (fget φ 9)]) := nf
theorem ZV5 : stepA E C B 42 Z1T Zyw (φ, H) = some (fput φ 5 (fget φ 10), H) := nf
def Zdh := kR Zee
def ZcX := kL Zdh
def Zms := kL ZcX
def Z5Y := kO Zms
def ZtM := opN Z5Y 0
def ZsG := opN Z5Y 1
theorem Z0hr : XG 140 42 Zms Z5Y [11] := Z1 (by rfl) (by rfl) _
theorem ZSR : Z5Y.toList = [ZtM, ZsG] := nf
theorem ZPF : stepA E C B 42 Z5Y ZtM (φ, H) = some (fput φ 11 (fget φ 5), H) := nf
theorem ZYC : stepA E C B 42 Z5Y ZsG (φ, H) = stp (some 12) φ H (just (aBin E.T .eql 3 (fget φ 11) (.int .i64 (-1)))) := nf
def ZeU := kR ZcX
def Zdz := kT ZeU
def Zvn := kL Zdz
def Z5E := kO Zvn
def ZlH := opN Z5E 0
def ZtN := opN Z5E 1
theorem Z0cK : XG 140 42 Zvn Z5E [0, 1, 5, 12, 13] := Z1 (by rfl) (by rfl) _
theorem ZZc : Z5E.toList = [ZlH, ZtN] := nf
theorem ZOt : stepA E C B 42 Z5E ZlH (φ, H) = some (fput φ 13 (fget φ 0), H) := nf
theorem ZW3 : stepA E C B 42 Z5E ZtN (φ, H) = some (fput φ 4 (fget φ 13), H) := nf
def ZCU := kR Zdz
theorem Z07c : execA E C (fg 140) B 42 E0 N ZCU s = some (.ret, s) := Zl (by rfl) s
theorem Z0k1 : XQ 140 42 Zdz Zvn ZCU := Z0 (by rfl) _
def ZA9 := kE ZeU
theorem Z0af : execA E C (fg 140) B 42 E0 N ZA9 s = some (.normal, s) := Zh (by rfl) s
theorem Z0bN : XC 140 42 ZeU 12 Zdz ZA9 := Zb (by rfl) _
theorem Z0bx : XQ 140 42 ZcX Zms ZeU := Z0 (by rfl) _
def Z8u := kR Zdh
def Z8I := kL Z8u
def Zgn := kL Z8I
def Z3t := kO Zgn
def ZrV := opN Z3t 0
def ZkF := opN Z3t 1
def Zre := opN Z3t 2
theorem Z07E : XG 140 42 Zgn Z3t [12, 14, 15] := Z1 (by rfl) (by rfl) _
theorem ZTr : Z3t.toList = [ZrV, ZkF, Zre] := nf
theorem ZOG : stepA E C B 42 Z3t ZrV (φ, H) = some (fput φ 14 (fget φ 5), H) := nf
theorem ZXN : stepA E C B 42 Z3t ZkF (φ, H) = stp (some 15) φ H (just (aBin E.T .add 3 (fget φ 14) (.int .i64 1))) := nf
theorem ZOC : stepA E C B 42 Z3t Zre (φ, H) = some (fput φ 6 (fget φ 15), H) := nf
def Zfk := kR Z8I
def ZgK := kB Zfk
def Z3M := kB ZgK
def Z8F := kL Z3M
def Zgj := kL Z8F
def Z1S := kO Zgj
def Zq9 := opN Z1S 0
def ZxC := opN Z1S 1
def Zxj := opN Z1S 2
def ZoU := opN Z1S 3
theorem Z03t : XG 140 42 Zgj Z1S [16, 17, 18] := Z1 (by rfl) (by rfl) _
theorem ZLL : Z1S.toList = [Zq9, ZxC, Zxj, ZoU] := nf
theorem ZVY : stepA E C B 42 Z1S Zq9 (φ, H) = some (fput φ 16 (fget φ 6), H) := nf
theorem ZUf : stepA E C B 42 Z1S ZxC (φ, H) = some (fput φ 17 (fget φ 0), H) := nf
theorem ZT9 : stepA E C B 42 Z1S Zxj (φ, H) = stp (some 18) φ H (Z4 E.T (B + 18) .len #[36] [(fget φ 17)]) := nf
theorem ZPf : stepA E C B 42 Z1S ZoU (φ, H) = stp (some 19) φ H (just (aBin E.T .lss 3 (fget φ 16) (fget φ 18))) := nf
def Z9u := kR Z8F
def ZCg := kT Z9u
theorem Z07a : execA E C (fg 140) B 42 E0 N ZCg s = some (.normal, s) := Zh (by rfl) s
def ZBR := kE Z9u
theorem Z05P : execA E C (fg 140) B 42 E0 N ZBR s = some (.exit 0, s) := ZO (by rfl) s
theorem Z05Y : XC 140 42 Z9u 19 ZCg ZBR := Zb (by rfl) _
theorem Z09i : XQ 140 42 Z8F Zgj Z9u := Z0 (by rfl) _
def Z7T := kR Z3M
def ZfW := kL Z7T
def Z9d := kB ZfW
def Zgp := kL Z9d
def Z1d := kO Zgp
def Zs4 := opN Z1d 0
def Zng := opN Z1d 1
def Zsu := opN Z1d 2
def Zko := opN Z1d 3
def ZxM := opN Z1d 4
theorem Z09n : XG 140 42 Zgp Z1d [19, 22, 23, 24, 25] := Z1 (by rfl) (by rfl) _
theorem ZQg : Z1d.toList = [Zs4, Zng, Zsu, Zko, ZxM] := nf
theorem ZTv : stepA E C B 42 Z1d Zs4 (φ, H) = some (fput φ 22 (fget φ 0), H) := nf
theorem ZXw : stepA E C B 42 Z1d Zng (φ, H) = some (fput φ 23 (fget φ 6), H) := nf
theorem ZSN : stepA E C B 42 Z1d Zsu (φ, H) = stp (some 24) φ H (just (Z2 E.T 36 (fget φ 22) (fget φ 23))) := nf
theorem ZT0 : stepA E C B 42 Z1d Zko (φ, H) = stp (some 25) φ H (just (aLoad E.T 3 (fget φ 24))) := nf
theorem ZXC : stepA E C B 42 Z1d ZxM (φ, H) = some (fput φ 7 (fget φ 25), H) := nf
def Z96 := kR Z9d
def Zgm := kL Z96
def Z1R := kO Zgm
def Zxo := opN Z1R 0
def ZuF := opN Z1R 1
def Zoz := opN Z1R 2
def ZkQ := opN Z1R 3
theorem Z08y : XG 140 42 Zgm Z1R [26, 27, 28] := Z1 (by rfl) (by rfl) _
theorem ZOM : Z1R.toList = [Zxo, ZuF, Zoz, ZkQ] := nf
theorem ZS4 : stepA E C B 42 Z1R Zxo (φ, H) = some (fput φ 26 (fget φ 1), H) := nf
theorem ZOo : stepA E C B 42 Z1R ZuF (φ, H) = some (fput φ 27 (fget φ 7), H) := nf
theorem ZTZ : stepA E C B 42 Z1R Zoz (φ, H) = callV E C (B + 42 * 8) (some 28) (fun j => B + j * 42 + 28) φ H (fget φ 26) [(fget φ 27)] true := nf
theorem ZXq : stepA E C B 42 Z1R ZkQ (φ, H) = stp (some 29) φ H (justO (aUn .not (fget φ 28))) := nf
def Z8W := kR Z96
def Z8s := kT Z8W
def Zgo := kL Z8s
def Z1e := kO Zgo
def Zrw := opN Z1e 0
def Zsy := opN Z1e 1
def Znn := opN Z1e 2
def Zlg := opN Z1e 3
def Zri := opN Z1e 4
theorem Z099 : XG 140 42 Zgo Z1e [7, 29, 30, 31, 32, 33] := Z1 (by rfl) (by rfl) _
theorem ZYl : Z1e.toList = [Zrw, Zsy, Znn, Zlg, Zri] := nf
theorem ZMv : stepA E C B 42 Z1e Zrw (φ, H) = some (fput φ 30 (fget φ 0), H) := nf
theorem ZPh : stepA E C B 42 Z1e Zsy (φ, H) = some (fput φ 31 (fget φ 5), H) := nf
theorem ZVU : stepA E C B 42 Z1e Znn (φ, H) = some (fput φ 32 (fget φ 7), H) := nf
theorem ZW7 : stepA E C B 42 Z1e Zlg (φ, H) = stp (some 33) φ H (just (Z2 E.T 36 (fget φ 30) (fget φ 31))) := nf
theorem ZQ7 : stepA E C B 42 Z1e Zri (φ, H) = stp none φ H (opStore E.T 3 (fget φ 33) (fget φ 32)) := nf
def Zfj := kR Z8s
def Z2m := kO Zfj
def Zic := opN Z2m 0
def ZhV := opN Z2m 1
def Zih := opN Z2m 2
theorem Z050 : XG 140 42 Zfj Z2m [34, 35] := Z1 (by rfl) (by rfl) _
theorem ZJ9 : Z2m.toList = [Zic, ZhV, Zih] := nf
theorem ZHN : stepA E C B 42 Z2m Zic (φ, H) = some (fput φ 34 (fget φ 5), H) := nf
theorem ZHo : stepA E C B 42 Z2m ZhV (φ, H) = stp (some 35) φ H (just (aBin E.T .add 3 (fget φ 34) (.int .i64 1))) := nf
theorem ZK8 : stepA E C B 42 Z2m Zih (φ, H) = some (fput φ 5 (fget φ 35), H) := nf
theorem Z02F : XQ 140 42 Z8s Zgo Zfj := Z0 (by rfl) _
def ZDx := kE Z8W
theorem Z02q : execA E C (fg 140) B 42 E0 N ZDx s = some (.normal, s) := Zh (by rfl) s
theorem Z09E : XC 140 42 Z8W 29 Z8s ZDx := Zb (by rfl) _
theorem Z0b3 : XQ 140 42 Z96 Zgm Z8W := Z0 (by rfl) _
theorem Z06k : XQ 140 42 Z9d Zgp Z96 := Z0 (by rfl) _
theorem Z02a : execA E C (fg 140) B 42 E0 N ZfW s = blockX 1 (fun s => (forget s.1 [7, 29], s.2)) (execA E C (fg 140) B 42 E0 N Z9d s) := Za (by rfl) (by rfl) s
def Zh0 := kR Z7T
def Z3f := kO Zh0
def Zvm := opN Z3f 0
def Zme := opN Z3f 1
def Zx4 := opN Z3f 2
theorem Z030 : XG 140 42 Zh0 Z3f [20, 21] := Z1 (by rfl) (by rfl) _
theorem ZSJ : Z3f.toList = [Zvm, Zme, Zx4] := nf
theorem ZUr : stepA E C B 42 Z3f Zvm (φ, H) = some (fput φ 20 (fget φ 6), H) := nf
theorem ZOg : stepA E C B 42 Z3f Zme (φ, H) = stp (some 21) φ H (just (aBin E.T .add 3 (fget φ 20) (.int .i64 1))) := nf
theorem ZXR : stepA E C B 42 Z3f Zx4 (φ, H) = some (fput φ 6 (fget φ 21), H) := nf
theorem Z04F : XQ 140 42 Z7T ZfW Zh0 := Z0 (by rfl) _
theorem Z08J : XQ 140 42 Z3M Z8F Z7T := Z0 (by rfl) _
theorem Z06w : execA E C (fg 140) B 42 E0 N ZgK s = iterA (execA E C (fg 140) B 42 E0 N Z3M) (headA E0) N s := ZN (by rfl) s
theorem Z06l : execA E C (fg 140) B 42 E0 N Zfk s = blockX 0 (fun s => (forget s.1 [1, 6, 19], s.2)) (execA E C (fg 140) B 42 E0 N ZgK s) := Za (by rfl) (by rfl) s
theorem Z03V : XQ 140 42 Z8I Zgn Zfk := Z0 (by rfl) _
def Z9E := kR Z8u
def Zgx := kL Z9E
def Z1p := kO Zgx
def ZhC := opN Z1p 0
def Zhl := opN Z1p 1
def Zi9 := opN Z1p 2
def Zi0 := opN Z1p 3
theorem Z0aG : XG 140 42 Zgx Z1p [36, 37, 38] := Z1 (by rfl) (by rfl) _
theorem ZIT : Z1p.toList = [ZhC, Zhl, Zi9, Zi0] := nf
theorem ZIk : stepA E C B 42 Z1p ZhC (φ, H) = some (fput φ 36 (fget φ 0), H) := nf
theorem ZJ5 : stepA E C B 42 Z1p Zhl (φ, H) = some (fput φ 37 (fget φ 5), H) := nf
theorem ZJL : stepA E C B 42 Z1p Zi9 (φ, H) = stp (some 38) φ H (just (aSlice E.T 36 (fget φ 36) (some (fget φ 37)) none none)) := nf
theorem ZKp : stepA E C B 42 Z1p Zi0 (φ, H) = stp none φ H (Z4 E.T (B + 0) .clear #[36] [(fget φ 38)]) := nf
def Z9k := kR Z9E
def ZfG := kL Z9k
def Z1m := kO ZfG
def Zhf := opN Z1m 0
def ZhB := opN Z1m 1
def Zhj := opN Z1m 2
def ZhZ := opN Z1m 3
theorem Z05N : XG 140 42 ZfG Z1m [0, 5, 39, 40, 41] := Z1 (by rfl) (by rfl) _
theorem ZJz : Z1m.toList = [Zhf, ZhB, Zhj, ZhZ] := nf
theorem ZHX : stepA E C B 42 Z1m Zhf (φ, H) = some (fput φ 39 (fget φ 0), H) := nf
theorem ZJY : stepA E C B 42 Z1m ZhB (φ, H) = some (fput φ 40 (fget φ 5), H) := nf
theorem ZLt : stepA E C B 42 Z1m Zhj (φ, H) = stp (some 41) φ H (just (aSlice E.T 36 (fget φ 39) none (some (fget φ 40)) none)) := nf
theorem ZKK : stepA E C B 42 Z1m ZhZ (φ, H) = some (fput φ 4 (fget φ 41), H) := nf
def ZEL := kR Z9k
theorem Z03a : execA E C (fg 140) B 42 E0 N ZEL s = some (.ret, s) := Zl (by rfl) s
theorem Z07P : XQ 140 42 Z9k ZfG ZEL := Z0 (by rfl) _
theorem Z00W : XQ 140 42 Z9E Zgx Z9k := Z0 (by rfl) _
theorem Z02t : XQ 140 42 Z8u Z8I Z9E := Z0 (by rfl) _
theorem Z0cC : XQ 140 42 Zdh ZcX Z8u := Z0 (by rfl) _
theorem Z0fh : XQ 140 42 Zee ZvY Zdh := Z0 (by rfl) _
theorem Z0dE : XQ 140 42 Z7E Zsa Zee := Z0 (by rfl) _
theorem Z0fE : fInfo E 140 = some ⟨42, #[.tmp 4], Z7E⟩ := nf
theorem Z0ol (args : List AV) : bodyA E C fg N 140 args H B = bodyX E [.tmp 4] (execA E C (fg 140) B 42 H N Z7E (Z7 args 0 [], H)) := Zn Z0fE args H
abbrev ZeZ := And.intro (And.intro (And.intro (And.intro (And.intro (And.intro @Z0hK (And.intro @ZMn @ZQR)) (And.intro @Z0iN (And.intro @ZXo @ZUp))) (And.intro (And.intro @ZOD (And.intro @ZSO @ZV5)) (And.intro @Z0hr (And.intro @ZSR @ZPF)))) (And.intro (And.intro (And.intro @ZYC (And.intro @Z0cK @ZZc)) (And.intro @ZOt (And.intro @ZW3 @Z07c))) (And.intro (And.intro @Z0k1 (And.intro @Z0af @Z0bN)) (And.intro @Z0bx (And.intro @Z07E @ZTr))))) (And.intro (And.intro (And.intro (And.intro @ZOG (And.intro @ZXN @ZOC)) (And.intro @Z03t (And.intro @ZLL @ZVY))) (And.intro (And.intro @ZUf (And.intro @ZT9 @ZPf)) (And.intro @Z07a (And.intro @Z05P @Z05Y)))) (And.intro (And.intro (And.intro @Z09i (And.intro @Z09n @ZQg)) (And.intro @ZTv (And.intro @ZXw @ZSN))) (And.intro (And.intro @ZT0 (And.intro @ZXC @Z08y)) (And.intro (And.intro @ZOM @ZS4) (And.intro @ZOo @ZTZ)))))) (And.intro (And.intro (And.intro (And.intro (And.intro @ZXq (And.intro @Z099 @ZYl)) (And.intro @ZMv (And.intro @ZPh @ZVU))) (And.intro (And.intro @ZW7 (And.intro @ZQ7 @Z050)) (And.intro @ZJ9 (And.intro @ZHN @ZHo)))) (And.intro (And.intro (And.intro @ZK8 (And.intro @Z02F @Z02q)) (And.intro @Z09E (And.intro @Z0b3 @Z06k))) (And.intro (And.intro @Z02a (And.intro @Z030 @ZSJ)) (And.intro @ZUr (And.intro @ZOg @ZXR))))) (And.intro (And.intro (And.intro (And.intro @Z04F (And.intro @Z08J @Z06w)) (And.intro @Z06l (And.intro @Z03V @Z0aG))) (And.intro (And.intro @ZIT (And.intro @ZIk @ZJ5)) (And.intro @ZJL (And.intro @ZKp @Z05N)))) (And.intro (And.intro (And.intro @ZJz (And.intro @ZHX @ZJY)) (And.intro @ZLt (And.intro @ZKK @Z03a))) (And.intro (And.intro @Z07P (And.intro @Z00W @Z02t)) (And.intro (And.intro @Z0cC @Z0fh) (And.intro @Z0dE @Z0ol))))))
def Zf6 := kBody Proofs.Tryd.f54
def ZH9 := kL Zf6
def ZiS := kO ZH9
def ZCC := opN ZiS 0
theorem Z0m3 : XG 54 19 ZH9 ZiS [4] := Z1 (by rfl) (by rfl) _
theorem Z0ao : ZiS.toList = [ZCC] := nf
theorem Z04j : stepA E C B 19 ZiS ZCC (φ, H) = some (fput φ 4 (.int .i64 0), H) := nf
def ZjD := kR Zf6
def ZjJ := kL ZjD
def ZH5 := kL ZjJ
def Z4A := kO ZH5
def ZFw := opN Z4A 0
def ZCw := opN Z4A 1
def ZCh := opN Z4A 2
theorem Z0oy : XG 54 19 ZH5 Z4A [6] := Z1 (by rfl) (by rfl) _
theorem Z0aR : Z4A.toList = [ZFw, ZCw, ZCh] := nf
theorem Z0aP : stepA E C B 19 Z4A ZFw (φ, H) = some (fput φ 6 (fget φ 0), H) := nf
theorem Z074 : stepA E C B 19 Z4A ZCw (φ, H) = stp (some 7) φ H (Z4 E.T (B + 7) .len #[36] [(fget φ 6)]) := nf
theorem Z03H : stepA E C B 19 Z4A ZCh (φ, H) = some (fput φ 8 (.int .i64 0), H) := nf
def ZGV := kR ZjJ
def ZGy := kB ZGV
def Z9L := kB ZGy
def ZG5 := kL Z9L
def ZiT := kO ZG5
def ZFD := opN ZiT 0
theorem Z0ks : XG 54 19 ZG5 ZiT [] := Z1 (by rfl) (by rfl) _
theorem Z02R : ZiT.toList = [ZFD] := nf
theorem Z051 : stepA E C B 19 ZiT ZFD (φ, H) = stp (some 9) φ H (just (aBin E.T .lss 3 (fget φ 8) (fget φ 7))) := nf
def ZjE := kR Z9L
def Zdu := kL ZjE
def ZJV := kT Zdu
theorem Z0fw : execA E C (fg 54) B 19 E0 N ZJV s = some (.normal, s) := Zh (by rfl) s
def ZIi := kE Zdu
theorem Z0gm : execA E C (fg 54) B 19 E0 N ZIi s = some (.exit 0, s) := ZO (by rfl) s
theorem Z0k3 : XC 54 19 Zdu 9 ZJV ZIi := Zb (by rfl) _
def ZaW := kR ZjE
def Zmr := kL ZaW
def Zcn := kB Zmr
def Zmg := kL Zcn
def Z9x := kO Zmg
def ZCO := opN Z9x 0
def ZBw := opN Z9x 1
theorem Z0gw : XG 54 19 Zmg Z9x [9, 10] := Z1 (by rfl) (by rfl) _
theorem Z01T : Z9x.toList = [ZCO, ZBw] := nf
theorem Z089 : stepA E C B 19 Z9x ZCO (φ, H) = some (fput φ 10 (fget φ 8), H) := nf
theorem Z06C : stepA E C B 19 Z9x ZBw (φ, H) = some (fput φ 5 (fget φ 10), H) := nf
def Zb8 := kR Zcn
def Zl8 := kL Zb8
def Z1r := kO Zl8
def ZCd := opN Z1r 0
def ZBa := opN Z1r 1
def ZCK := opN Z1r 2
def ZCe := opN Z1r 3
def ZBj := opN Z1r 4
def ZFn := opN Z1r 5
theorem Z0gI : XG 54 19 Zl8 Z1r [11, 12, 13, 14, 15] := Z1 (by rfl) (by rfl) _
theorem Z06e : Z1r.toList = [ZCd, ZBa, ZCK, ZCe, ZBj, ZFn] := nf
theorem Z04l : stepA E C B 19 Z1r ZCd (φ, H) = some (fput φ 11 (fget φ 1), H) := nf
theorem Z05v : stepA E C B 19 Z1r ZBa (φ, H) = some (fput φ 12 (fget φ 0), H) := nf
theorem Z06g : stepA E C B 19 Z1r ZCK (φ, H) = some (fput φ 13 (fget φ 5), H) := nf
theorem Z06A : stepA E C B 19 Z1r ZCe (φ, H) = stp (some 14) φ H (just (Z2 E.T 36 (fget φ 12) (fget φ 13))) := nf
theorem Z00S : stepA E C B 19 Z1r ZBj (φ, H) = stp (some 15) φ H (just (aLoad E.T 3 (fget φ 14))) := nf
theorem Z057 : stepA E C B 19 Z1r ZFn (φ, H) = callV E C (B + 19 * 8) (some 16) (fun j => B + j * 19 + 16) φ H (fget φ 11) [(fget φ 15)] true := nf
def Zb0 := kR Zb8
def Zex := kT Zb0
def Zuj := kL Zex
def Z8C := kO Zuj
def ZBz := opN Z8C 0
def ZEo := opN Z8C 1
theorem Z0eN : XG 54 19 Zuj Z8C [0, 1, 5, 7, 8, 16, 17] := Z1 (by rfl) (by rfl) _
theorem Z09N : Z8C.toList = [ZBz, ZEo] := nf
theorem Z081 : stepA E C B 19 Z8C ZBz (φ, H) = some (fput φ 17 (fget φ 5), H) := nf
theorem Z06f : stepA E C B 19 Z8C ZEo (φ, H) = some (fput φ 4 (fget φ 17), H) := nf
def ZHs := kR Zex
theorem Z0gP : execA E C (fg 54) B 19 E0 N ZHs s = some (.ret, s) := Zl (by rfl) s
theorem Z0ie : XQ 54 19 Zex Zuj ZHs := Z0 (by rfl) _
def ZKy := kE Zb0
theorem Z0gF : execA E C (fg 54) B 19 E0 N ZKy s = some (.normal, s) := Zh (by rfl) s
theorem Z0g8 : XC 54 19 Zb0 16 Zex ZKy := Zb (by rfl) _
theorem Z0ii : XQ 54 19 Zb8 Zl8 Zb0 := Z0 (by rfl) _
theorem Z0cD : XQ 54 19 Zcn Zmg Zb8 := Z0 (by rfl) _
theorem Z0h8 : execA E C (fg 54) B 19 E0 N Zmr s = blockX 1 (fun s => (forget s.1 [5, 16], s.2)) (execA E C (fg 54) B 19 E0 N Zcn s) := Za (by rfl) (by rfl) s
def ZoL := kR ZaW
def Z8P := kO ZoL
def ZC7 := opN Z8P 0
def ZCR := opN Z8P 1
theorem Z0cj : XG 54 19 ZoL Z8P [18] := Z1 (by rfl) (by rfl) _
theorem Z034 : Z8P.toList = [ZC7, ZCR] := nf
theorem Z02j : stepA E C B 19 Z8P ZC7 (φ, H) = stp (some 18) φ H (just (aBin E.T .add 3 (fget φ 8) (.int .i64 1))) := nf
theorem Z04C : stepA E C B 19 Z8P ZCR (φ, H) = some (fput φ 8 (fget φ 18), H) := nf
theorem Z0dC : XQ 54 19 ZaW Zmr ZoL := Z0 (by rfl) _
theorem Z0o9 : XQ 54 19 ZjE Zdu ZaW := Z0 (by rfl) _
theorem Z0ny : XQ 54 19 Z9L ZG5 ZjE := Z0 (by rfl) _
theorem Z0nW : execA E C (fg 54) B 19 E0 N ZGy s = iterA (execA E C (fg 54) B 19 E0 N Z9L) (headA E0) N s := ZN (by rfl) s
theorem Z0lA : execA E C (fg 54) B 19 E0 N ZGV s = blockX 0 (fun s => (forget s.1 [0, 1, 7, 8, 9], s.2)) (execA E C (fg 54) B 19 E0 N ZGy s) := Za (by rfl) (by rfl) s
theorem Z0lO : XQ 54 19 ZjJ ZH5 ZGV := Z0 (by rfl) _
def ZcO := kR ZjD
def Zte := kL ZcO
def ZjP := kO Zte
def ZzL := opN ZjP 0
theorem Z0gD : XG 54 19 Zte ZjP [] := Z1 (by rfl) (by rfl) _
theorem Z04a : ZjP.toList = [ZzL] := nf
theorem Z061 : stepA E C B 19 ZjP ZzL (φ, H) = some (fput φ 4 (.int .i64 (-1)), H) := nf
def ZIq := kR ZcO
theorem Z0eq : execA E C (fg 54) B 19 E0 N ZIq s = some (.ret, s) := Zl (by rfl) s
theorem Z0cd : XQ 54 19 ZcO Zte ZIq := Z0 (by rfl) _
theorem Z0nu : XQ 54 19 ZjD ZjJ ZcO := Z0 (by rfl) _
theorem Z0kO : XQ 54 19 Zf6 ZH9 ZjD := Z0 (by rfl) _
theorem Z0m7 : fInfo E 54 = some ⟨19, #[.tmp 4], Zf6⟩ := nf
theorem b_54 (args : List AV) : bodyA E C fg N 54 args H B = bodyX E [.tmp 4] (execA E C (fg 54) B 19 H N Zf6 (Z7 args 0 [], H)) := Zn Z0m7 args H
abbrev F_54 := And.intro (And.intro (And.intro (And.intro (And.intro @Z0m3 (And.intro @Z0ao @Z04j)) (And.intro @Z0oy (And.intro @Z0aR @Z0aP))) (And.intro (And.intro @Z074 (And.intro @Z03H @Z0ks)) (And.intro (And.intro @Z02R @Z051) (And.intro @Z0fw @Z0gm)))) (And.intro (And.intro (And.intro @Z0k3 (And.intro @Z0gw @Z01T)) (And.intro (And.intro @Z089 @Z06C) (And.intro @Z0gI @Z06e))) (And.intro (And.intro @Z04l (And.intro @Z05v @Z06g)) (And.intro (And.intro @Z06A @Z00S) (And.intro @Z057 @Z0eN))))) (And.intro (And.intro (And.intro (And.intro @Z09N (And.intro @Z081 @Z06f)) (And.intro (And.intro @Z0gP @Z0ie) (And.intro @Z0gF @Z0g8))) (And.intro (And.intro @Z0ii (And.intro @Z0cD @Z0h8)) (And.intro (And.intro @Z0cj @Z034) (And.intro @Z02j @Z04C)))) (And.intro (And.intro (And.intro @Z0dC (And.intro @Z0o9 @Z0ny)) (And.intro (And.intro @Z0nW @Z0lA) (And.intro @Z0lO @Z0gD))) (And.intro (And.intro @Z04a (And.intro @Z061 @Z0eq)) (And.intro (And.intro @Z0cd @Z0nu) (And.intro @Z0kO @b_54)))))
def ZbC := kBody Proofs.Tryd.f79
def ZHj := kL ZbC
def Z9t := kO ZHj
def ZBs := opN Z9t 0
def Zza := opN Z9t 1
theorem Z0oh : XG 79 9 ZHj Z9t [1, 4] := Z1 (by rfl) (by rfl) _
theorem Z06c : Z9t.toList = [ZBs, Zza] := nf
theorem Z094 : stepA E C B 9 Z9t ZBs (φ, H) = stp (some 3) φ H (opBox (B + 3) (acells (fget φ 1))) := nf
theorem Z07K : stepA E C B 9 Z9t Zza (φ, H) = some (fput φ 4 (.bool false), H) := nf
def Zj8 := kR ZbC
def ZH8 := kL Zj8
def Z27 := kO ZH8
def ZFt := opN Z27 0
def ZBk := opN Z27 1
def ZCF := opN Z27 2
def ZzQ := opN Z27 3
def ZCs := opN Z27 4
theorem Z0ok : XG 79 9 ZH8 Z27 [0, 3, 5, 6, 7, 8] := Z1 (by rfl) (by rfl) _
theorem Z04s : Z27.toList = [ZFt, ZBk, ZCF, ZzQ, ZCs] := nf
theorem Z03M : stepA E C B 9 Z27 ZFt (φ, H) = some (fput φ 5 (fget φ 0), H) := nf
theorem Z02G : stepA E C B 9 Z27 ZBk (φ, H) = stp (some 6) φ H (just (aLoad E.T 64 (fget φ 3))) := nf
theorem Z09V : stepA E C B 9 Z27 ZCF (φ, H) = stp (some 7) φ H (aCall C (fun j => B + j * 9 + 7) true 123 [(fget φ 5), (fget φ 6)]) := nf
theorem Z00a : stepA E C B 9 Z27 ZzQ (φ, H) = stp (some 8) φ H (just (aBin E.T .geq 3 (fget φ 7) (.int .i64 0))) := nf
theorem Z05f : stepA E C B 9 Z27 ZCs (φ, H) = some (fput φ 4 (fget φ 8), H) := nf
def ZZP := kR Zj8
theorem Z0mO : execA E C (fg 79) B 9 E0 N ZZP s = some (.ret, s) := Zl (by rfl) s
theorem Z0mT : XQ 79 9 Zj8 ZH8 ZZP := Z0 (by rfl) _
theorem Z0mf : XQ 79 9 ZbC ZHj Zj8 := Z0 (by rfl) _
theorem Z0ob : fInfo E 79 = some ⟨9, #[.tmp 4], ZbC⟩ := nf
theorem b_79 (args : List AV) : bodyA E C fg N 79 args H B = bodyX E [.tmp 4] (execA E C (fg 79) B 9 H N ZbC (Z7 args 0 [], H)) := Zn Z0ob args H
abbrev F_79 := And.intro (And.intro (And.intro @Z0oh (And.intro @Z06c @Z094)) (And.intro (And.intro @Z07K @Z0ok) (And.intro @Z04s @Z03M))) (And.intro (And.intro (And.intro @Z02G @Z09V) (And.intro @Z00a @Z05f)) (And.intro (And.intro @Z0mO @Z0mT) (And.intro @Z0mf @b_79)))
def Z7f := kBody Proofs.Tryd.f123
def ZnD := kL Z7f
def Z65 := kO ZnD
def Zx1 := opN Z65 0
def ZsA := opN Z65 1
theorem Z0cl : XG 123 19 ZnD Z65 [1, 4] := Z1 (by rfl) (by rfl) _
theorem ZR4 : Z65.toList = [Zx1, ZsA] := nf
theorem ZQW : stepA E C B 19 Z65 Zx1 (φ, H) = stp (some 3) φ H (opBox (B + 3) (acells (fget φ 1))) := nf
theorem ZZr : stepA E C B 19 Z65 ZsA (φ, H) = some (fput φ 4 (.int .i64 0), H) := nf
def Zce := kR Z7f
def ZcS := kL Zce
def Zur := kL ZcS
def Z2Z := kO Zur
def ZnG := opN Z2Z 0
def Zyt := opN Z2Z 1
def Ztm := opN Z2Z 2
theorem Z0g6 : XG 123 19 Zur Z2Z [6] := Z1 (by rfl) (by rfl) _
theorem ZYV : Z2Z.toList = [ZnG, Zyt, Ztm] := nf
theorem ZNE : stepA E C B 19 Z2Z ZnG (φ, H) = some (fput φ 6 (fget φ 0), H) := nf
theorem ZYz : stepA E C B 19 Z2Z Zyt (φ, H) = stp (some 7) φ H (Z4 E.T (B + 7) .len #[23] [(fget φ 6)]) := nf
theorem ZOj : stepA E C B 19 Z2Z Ztm (φ, H) = some (fput φ 8 (.int .i64 0), H) := nf
def ZpG := kR ZcS
def Zwu := kB ZpG
def Z4q := kB Zwu
def Zku := kL Z4q
def Ze4 := kO Zku
def Zt4 := opN Ze4 0
theorem Z0i8 : XG 123 19 Zku Ze4 [] := Z1 (by rfl) (by rfl) _
theorem ZX5 : Ze4.toList = [Zt4] := nf
theorem ZV9 : stepA E C B 19 Ze4 Zt4 (φ, H) = stp (some 9) φ H (just (aBin E.T .lss 3 (fget φ 8) (fget φ 7))) := nf
def ZbQ := kR Z4q
def Z8t := kL ZbQ
def ZCA := kT Z8t
theorem Z08I : execA E C (fg 123) B 19 E0 N ZCA s = some (.normal, s) := Zh (by rfl) s
def ZFf := kE Z8t
theorem Z07G : execA E C (fg 123) B 19 E0 N ZFf s = some (.exit 0, s) := ZO (by rfl) s
theorem Z03h : XC 123 19 Z8t 9 ZCA ZFf := Zb (by rfl) _
def Z9M := kR ZbQ
def ZgS := kL Z9M
def Z8n := kB ZgS
def ZgX := kL Z8n
def Z68 := kO ZgX
def ZuW := opN Z68 0
def Zq5 := opN Z68 1
theorem Z00z : XG 123 19 ZgX Z68 [9, 10] := Z1 (by rfl) (by rfl) _
theorem ZVH : Z68.toList = [ZuW, Zq5] := nf
theorem ZLZ : stepA E C B 19 Z68 ZuW (φ, H) = some (fput φ 10 (fget φ 8), H) := nf
theorem ZZD : stepA E C B 19 Z68 Zq5 (φ, H) = some (fput φ 5 (fget φ 10), H) := nf
def Z8z := kR Z8n
def ZfO := kL Z8z
def Z09 := kO ZfO
def Znj := opN Z09 0
def ZxW := opN Z09 1
def Zph := opN Z09 2
def ZwZ := opN Z09 3
def Zo7 := opN Z09 4
def Zvw := opN Z09 5
theorem Z07A : XD 123 19 ZfO Z09 [11, 12, 13, 14, 15] := Z1c (by rfl) (by rfl) _
theorem ZZi : Z09.toList = [Znj, ZxW, Zph, ZwZ, Zo7, Zvw] := nf
theorem ZIE : statOk Z09 = true := by kernel_rfl
theorem ZL0 : drawA E C B 19 Z09 s = if neat 19 s = true then drX Z09 (runT E C B 19 Z09 Z09.toList 0 s) else none := Z0G ZIE s
theorem ZIS (l : List (Nat × Tr)) : dynOk Z09 l = (!writing l || Zg [[], [], [], [1, 2], [1, 2, 3], [0, 1, 2, 3, 4]] (Ze l)) := Z0r (by kernel_rfl) l
theorem ZMO : stepT E C B 19 Z09 Znj (φ, H) = stpT (some 11) φ H (just (aLoad E.T 64 (fget φ 3))) := Z5 rfl (Z8 rfl rfl)
theorem ZRS : stepT E C B 19 Z09 ZxW (φ, H) = some ((fput φ 12 (fget φ 0), H), ⟨false, [], []⟩) := Z5 rfl (ZS rfl rfl)
theorem ZP2 : stepT E C B 19 Z09 Zph (φ, H) = some ((fput φ 13 (fget φ 5), H), ⟨false, [], []⟩) := Z5 rfl (ZS rfl rfl)
theorem ZWs : stepT E C B 19 Z09 ZwZ (φ, H) = stpT (some 14) φ H (just (Z2 E.T 23 (fget φ 12) (fget φ 13))) := Z5 rfl (Z8 rfl rfl)
theorem ZVA : stepT E C B 19 Z09 Zo7 (φ, H) = stpT (some 15) φ H (just (aLoad E.T 64 (fget φ 14))) := Z5 rfl (Z8 rfl rfl)
theorem ZYm : stepT E C B 19 Z09 Zvw (φ, H) = stpT (some 16) φ H (just (aBin E.T .eql 64 (fget φ 11) (fget φ 15))) := Z5 rfl (Z8 rfl rfl)
def Z8e := kR Z8z
def Z9P := kT Z8e
def Zh1 := kL Z9P
def Z5o := kO Zh1
def ZxL := opN Z5o 0
def Zsn := opN Z5o 1
theorem Z0bo : XG 123 19 Zh1 Z5o [0, 3, 5, 7, 8, 16, 17] := Z1 (by rfl) (by rfl) _
theorem ZPQ : Z5o.toList = [ZxL, Zsn] := nf
theorem ZW6 : stepA E C B 19 Z5o ZxL (φ, H) = some (fput φ 17 (fget φ 5), H) := nf
theorem ZYW : stepA E C B 19 Z5o Zsn (φ, H) = some (fput φ 4 (fget φ 17), H) := nf
def ZAY := kR Z9P
theorem Z03b : execA E C (fg 123) B 19 E0 N ZAY s = some (.ret, s) := Zl (by rfl) s
theorem Z02Z : XQ 123 19 Z9P Zh1 ZAY := Z0 (by rfl) _
def ZDy := kE Z8e
theorem Z062 : execA E C (fg 123) B 19 E0 N ZDy s = some (.normal, s) := Zh (by rfl) s
theorem Z012 : XC 123 19 Z8e 16 Z9P ZDy := Zb (by rfl) _
theorem Z03p : XQ 123 19 Z8z ZfO Z8e := Z0 (by rfl) _
theorem Z0a5 : XQ 123 19 Z8n ZgX Z8z := Z0 (by rfl) _
theorem Z01k : execA E C (fg 123) B 19 E0 N ZgS s = blockX 1 (fun s => (forget s.1 [5, 16], s.2)) (execA E C (fg 123) B 19 E0 N Z8n s) := Za (by rfl) (by rfl) s
def Zh6 := kR Z9M
def Z56 := kO Zh6
def ZmI := opN Z56 0
def Zyq := opN Z56 1
theorem Z0av : XG 123 19 Zh6 Z56 [18] := Z1 (by rfl) (by rfl) _
theorem ZQ1 : Z56.toList = [ZmI, Zyq] := nf
theorem ZLI : stepA E C B 19 Z56 ZmI (φ, H) = stp (some 18) φ H (just (aBin E.T .add 3 (fget φ 8) (.int .i64 1))) := nf
theorem ZQB : stepA E C B 19 Z56 Zyq (φ, H) = some (fput φ 8 (fget φ 18), H) := nf
theorem Z049 : XQ 123 19 Z9M ZgS Zh6 := Z0 (by rfl) _
theorem Z0fl : XQ 123 19 ZbQ Z8t Z9M := Z0 (by rfl) _
theorem Z0jp : XQ 123 19 Z4q Zku ZbQ := Z0 (by rfl) _
theorem Z0ca : execA E C (fg 123) B 19 E0 N Zwu s = iterA (execA E C (fg 123) B 19 E0 N Z4q) (headA E0) N s := ZN (by rfl) s
theorem Z0d8 : execA E C (fg 123) B 19 E0 N ZpG s = blockX 0 (fun s => (forget s.1 [0, 3, 7, 8, 9], s.2)) (execA E C (fg 123) B 19 E0 N Zwu s) := Za (by rfl) (by rfl) s
theorem Z0hC : XQ 123 19 ZcS Zur ZpG := Z0 (by rfl) _
def Z8p := kR Zce
def ZgB := kL Z8p
def Zfa := kO ZgB
def Zy4 := opN Zfa 0
theorem Z0aZ : XG 123 19 ZgB Zfa [] := Z1 (by rfl) (by rfl) _
theorem ZV6 : Zfa.toList = [Zy4] := nf
theorem ZQV : stepA E C B 19 Zfa Zy4 (φ, H) = some (fput φ 4 (.int .i64 (-1)), H) := nf
def ZCJ := kR Z8p
theorem Z01Z : execA E C (fg 123) B 19 E0 N ZCJ s = some (.ret, s) := Zl (by rfl) s
theorem ZZY : XQ 123 19 Z8p ZgB ZCJ := Z0 (by rfl) _
theorem Z0fS : XQ 123 19 Zce ZcS Z8p := Z0 (by rfl) _
theorem Z0dw : XQ 123 19 Z7f ZnD Zce := Z0 (by rfl) _
theorem Z0bQ : fInfo E 123 = some ⟨19, #[.tmp 4], Z7f⟩ := nf
theorem Z0mt (args : List AV) : bodyA E C fg N 123 args H B = bodyX E [.tmp 4] (execA E C (fg 123) B 19 H N Z7f (Z7 args 0 [], H)) := Zn Z0bQ args H
abbrev ZaD := And.intro (And.intro (And.intro (And.intro (And.intro @Z0cl (And.intro @ZR4 @ZQW)) (And.intro (And.intro @ZZr @Z0g6) (And.intro @ZYV @ZNE))) (And.intro (And.intro @ZYz (And.intro @ZOj @Z0i8)) (And.intro (And.intro @ZX5 @ZV9) (And.intro @Z08I @Z07G)))) (And.intro (And.intro (And.intro @Z03h (And.intro @Z00z @ZVH)) (And.intro (And.intro @ZLZ @ZZD) (And.intro @Z07A @ZZi))) (And.intro (And.intro (And.intro @ZL0 @ZIS) (And.intro @ZMO @ZRS)) (And.intro (And.intro @ZP2 @ZWs) (And.intro @ZVA @ZYm))))) (And.intro (And.intro (And.intro (And.intro @Z0bo (And.intro @ZPQ @ZW6)) (And.intro (And.intro @ZYW @Z03b) (And.intro @Z02Z @Z062))) (And.intro (And.intro @Z012 (And.intro @Z03p @Z0a5)) (And.intro (And.intro @Z01k @Z0av) (And.intro @ZQ1 @ZLI)))) (And.intro (And.intro (And.intro @ZQB (And.intro @Z049 @Z0fl)) (And.intro (And.intro @Z0jp @Z0ca) (And.intro @Z0d8 @Z0hC))) (And.intro (And.intro (And.intro @Z0aZ @ZV6) (And.intro @ZQV @Z01Z)) (And.intro (And.intro @ZZY @Z0fS) (And.intro @Z0dw @Z0mt)))))
def Z6O := kBody Proofs.Tryd.f133
def Zka := kL Z6O
def ZeB := kO Zka
def ZvQ := opN ZeB 0
theorem Z0du : XG 133 25 Zka ZeB [2] := Z1 (by rfl) (by rfl) _
theorem ZLQ : ZeB.toList = [ZvQ] := nf
theorem ZLJ : stepA E C B 25 ZeB ZvQ (φ, H) = some (fput φ 2 (.int .i64 0), H) := nf
def ZbN := kR Z6O
def Zd0 := kL ZbN
def ZuT := kL Zd0
def Z37 := kO ZuT
def ZnT := opN Z37 0
def Zv6 := opN Z37 1
def Zug := opN Z37 2
theorem Z0j9 : XG 133 25 ZuT Z37 [5, 6] := Z1 (by rfl) (by rfl) _
theorem ZQ9 : Z37.toList = [ZnT, Zv6, Zug] := nf
theorem ZS7 : stepA E C B 25 Z37 ZnT (φ, H) = some (fput φ 5 (fget φ 0), H) := nf
theorem ZYO : stepA E C B 25 Z37 Zv6 (φ, H) = stp (some 6) φ H (Z4 E.T (B + 6) .len #[36] [(fget φ 5)]) := nf
theorem ZT2 : stepA E C B 25 Z37 Zug (φ, H) = stp (some 7) φ H (just (aBin E.T .lss 3 (fget φ 6) (.int .i64 1))) := nf
def ZbV := kR Zd0
def Z0kd := kT ZbV
def ZKv := kE ZbV
theorem Z0gM : execA E C (fg 133) B 25 E0 N ZKv s = some (.normal, s) := Zh (by rfl) s
theorem Z0jS : XC 133 25 ZbV 7 Z0kd ZKv := Zb (by rfl) _
theorem Z0hW : XQ 133 25 Zd0 ZuT ZbV := Z0 (by rfl) _
def ZaR := kR ZbN
def ZoC := kL ZaR
def Z1Y := kO ZoC
def Zo1 := opN Z1Y 0
def Zpt := opN Z1Y 1
def ZkR := opN Z1Y 2
def ZrG := opN Z1Y 3
theorem Z0g7 : XG 133 25 ZoC Z1Y [7, 9, 10, 11] := Z1 (by rfl) (by rfl) _
theorem ZVE : Z1Y.toList = [Zo1, Zpt, ZkR, ZrG] := nf
theorem ZRo : stepA E C B 25 Z1Y Zo1 (φ, H) = some (fput φ 9 (fget φ 0), H) := nf
theorem ZXp : stepA E C B 25 Z1Y Zpt (φ, H) = stp (some 10) φ H (just (Z2 E.T 36 (fget φ 9) (.int .i64 0))) := nf
theorem ZWA : stepA E C B 25 Z1Y ZkR (φ, H) = stp (some 11) φ H (just (aLoad E.T 3 (fget φ 10))) := nf
theorem ZYJ : stepA E C B 25 Z1Y ZrG (φ, H) = some (fput φ 3 (fget φ 11), H) := nf
def Z8r := kR ZaR
def Z7J := kL Z8r
def Zgb := kL Z7J
def ZeW := kO Zgb
def ZkW := opN ZeW 0
theorem Z06Q : XG 133 25 Zgb ZeW [] := Z1 (by rfl) (by rfl) _
theorem ZVO : ZeW.toList = [ZkW] := nf
theorem ZXX : stepA E C B 25 ZeW ZkW (φ, H) = some (fput φ 4 (.int .i64 1), H) := nf
def Zg6 := kR Z7J
def Zh5 := kB Zg6
def Z5S := kB Zh5
def Z91 := kL Z5S
def Zfp := kL Z91
def Z1M := kO Zfp
def ZoP := opN Z1M 0
def ZtK := opN Z1M 1
def ZqV := opN Z1M 2
def ZtS := opN Z1M 3
theorem Z05H : XG 133 25 Zfp Z1M [12, 13, 14] := Z1 (by rfl) (by rfl) _
theorem ZMH : Z1M.toList = [ZoP, ZtK, ZqV, ZtS] := nf
theorem ZY5 : stepA E C B 25 Z1M ZoP (φ, H) = some (fput φ 12 (fget φ 4), H) := nf
theorem ZQi : stepA E C B 25 Z1M ZtK (φ, H) = some (fput φ 13 (fget φ 0), H) := nf
theorem ZN5 : stepA E C B 25 Z1M ZqV (φ, H) = stp (some 14) φ H (Z4 E.T (B + 14) .len #[36] [(fget φ 13)]) := nf
theorem ZV0 : stepA E C B 25 Z1M ZtS (φ, H) = stp (some 15) φ H (just (aBin E.T .lss 3 (fget φ 12) (fget φ 14))) := nf
def Z9I := kR Z91
def ZEX := kT Z9I
theorem Z07n : execA E C (fg 133) B 25 E0 N ZEX s = some (.normal, s) := Zh (by rfl) s
def ZBM := kE Z9I
theorem Z07O : execA E C (fg 133) B 25 E0 N ZBM s = some (.exit 0, s) := ZO (by rfl) s
theorem Z01q : XC 133 25 Z9I 15 ZEX ZBM := Zb (by rfl) _
theorem Z096 : XQ 133 25 Z91 Zfp Z9I := Z0 (by rfl) _
def Z9D := kR Z5S
def Zfo := kL Z9D
def Zgv := kB Zfo
def Z0u := kO Zgv
def Zr0 := opN Z0u 0
def Zvt := opN Z0u 1
def ZpC := opN Z0u 2
def Zp9 := opN Z0u 3
def Zr2 := opN Z0u 4
def Zxd := opN Z0u 5
def Zp0 := opN Z0u 6
theorem Z07p : XG 133 25 Zgv Z0u [15, 18, 19, 20, 21, 22, 23] := Z1 (by rfl) (by rfl) _
theorem ZW8 : Z0u.toList = [Zr0, Zvt, ZpC, Zp9, Zr2, Zxd, Zp0] := nf
theorem ZPr : stepA E C B 25 Z0u Zr0 (φ, H) = some (fput φ 18 (fget φ 3), H) := nf
theorem ZS9 : stepA E C B 25 Z0u Zvt (φ, H) = some (fput φ 19 (fget φ 0), H) := nf
theorem ZPz : stepA E C B 25 Z0u ZpC (φ, H) = some (fput φ 20 (fget φ 4), H) := nf
theorem ZNZ : stepA E C B 25 Z0u Zp9 (φ, H) = stp (some 21) φ H (just (Z2 E.T 36 (fget φ 19) (fget φ 20))) := nf
theorem ZRW : stepA E C B 25 Z0u Zr2 (φ, H) = stp (some 22) φ H (just (aLoad E.T 3 (fget φ 21))) := nf
theorem ZPj : stepA E C B 25 Z0u Zxd (φ, H) = stp (some 23) φ H (Z4 E.T (B + 23) .min #[3, 3] [(fget φ 18), (fget φ 22)]) := nf
theorem ZSG : stepA E C B 25 Z0u Zp0 (φ, H) = some (fput φ 3 (fget φ 23), H) := nf
theorem Z097 : execA E C (fg 133) B 25 E0 N Zfo s = blockX 1 (fun s => (forget s.1 [], s.2)) (execA E C (fg 133) B 25 E0 N Zgv s) := Za (by rfl) (by rfl) s
def ZfE := kR Z9D
def Z35 := kO ZfE
def Zs3 := opN Z35 0
def Zvp := opN Z35 1
def ZmK := opN Z35 2
theorem Z098 : XG 133 25 ZfE Z35 [16, 17] := Z1 (by rfl) (by rfl) _
theorem ZQs : Z35.toList = [Zs3, Zvp, ZmK] := nf
theorem ZSz : stepA E C B 25 Z35 Zs3 (φ, H) = some (fput φ 16 (fget φ 4), H) := nf
theorem ZXh : stepA E C B 25 Z35 Zvp (φ, H) = stp (some 17) φ H (just (aBin E.T .add 3 (fget φ 16) (.int .i64 1))) := nf
theorem ZTe : stepA E C B 25 Z35 ZmK (φ, H) = some (fput φ 4 (fget φ 17), H) := nf
theorem Z02r : XQ 133 25 Z9D Zfo ZfE := Z0 (by rfl) _
theorem Z07Z : XQ 133 25 Z5S Z91 Z9D := Z0 (by rfl) _
theorem Z09C : execA E C (fg 133) B 25 E0 N Zh5 s = iterA (execA E C (fg 133) B 25 E0 N Z5S) (headA E0) N s := ZN (by rfl) s
theorem Z0aU : execA E C (fg 133) B 25 E0 N Zg6 s = blockX 0 (fun s => (forget s.1 [0, 4, 15], s.2)) (execA E C (fg 133) B 25 E0 N Zh5 s) := Za (by rfl) (by rfl) s
theorem Z0aI : XQ 133 25 Z7J Zgb Zg6 := Z0 (by rfl) _
def Z8L := kR Z8r
def ZfH := kL Z8L
def Z5H := kO ZfH
def Zl0 := opN Z5H 0
def ZwE := opN Z5H 1
theorem Z06Y : XG 133 25 ZfH Z5H [3, 24] := Z1 (by rfl) (by rfl) _
theorem ZSb : Z5H.toList = [Zl0, ZwE] := nf
theorem ZYi : stepA E C B 25 Z5H Zl0 (φ, H) = some (fput φ 24 (fget φ 3), H) := nf
theorem ZRQ : stepA E C B 25 Z5H ZwE (φ, H) = some (fput φ 2 (fget φ 24), H) := nf
def ZBQ := kR Z8L
theorem Z00d : execA E C (fg 133) B 25 E0 N ZBQ s = some (.ret, s) := Zl (by rfl) s
theorem Z04n : XQ 133 25 Z8L ZfH ZBQ := Z0 (by rfl) _
theorem Z03u : XQ 133 25 Z8r Z7J Z8L := Z0 (by rfl) _
theorem Z0dX : XQ 133 25 ZaR ZoC Z8r := Z0 (by rfl) _
theorem Z0cX : XQ 133 25 ZbN Zd0 ZaR := Z0 (by rfl) _
theorem Z0jX : XQ 133 25 Z6O Zka ZbN := Z0 (by rfl) _
theorem Z0bF : fInfo E 133 = some ⟨25, #[.tmp 2], Z6O⟩ := nf
theorem Z0me (args : List AV) : bodyA E C fg N 133 args H B = bodyX E [.tmp 2] (execA E C (fg 133) B 25 H N Z6O (Z7 args 0 [], H)) := Zn Z0bF args H
abbrev ZGH := And.intro (And.intro (And.intro (And.intro (And.intro @Z0du (And.intro @ZLQ @ZLJ)) (And.intro (And.intro @Z0j9 @ZQ9) (And.intro @ZS7 @ZYO))) (And.intro (And.intro (And.intro @ZT2 @Z0gM) (And.intro @Z0jS @Z0hW)) (And.intro (And.intro @Z0g7 @ZVE) (And.intro @ZRo @ZXp)))) (And.intro (And.intro (And.intro @ZWA (And.intro @ZYJ @Z06Q)) (And.intro (And.intro @ZVO @ZXX) (And.intro @Z05H @ZMH))) (And.intro (And.intro (And.intro @ZY5 @ZQi) (And.intro @ZN5 @ZV0)) (And.intro (And.intro @Z07n @Z07O) (And.intro @Z01q @Z096))))) (And.intro (And.intro (And.intro (And.intro @Z07p (And.intro @ZW8 @ZPr)) (And.intro (And.intro @ZS9 @ZPz) (And.intro @ZNZ @ZRW))) (And.intro (And.intro (And.intro @ZPj @ZSG) (And.intro @Z097 @Z098)) (And.intro (And.intro @ZQs @ZSz) (And.intro @ZXh @ZTe)))) (And.intro (And.intro (And.intro (And.intro @Z02r @Z07Z) (And.intro @Z09C @Z0aU)) (And.intro (And.intro @Z0aI @Z06Y) (And.intro @ZSb @ZYi))) (And.intro (And.intro (And.intro @ZRQ @Z00d) (And.intro @Z04n @Z03u)) (And.intro (And.intro @Z0dX @Z0cX) (And.intro @Z0jX @Z0me)))))
end Go.AM.YtgfnbmfjbjopkaaDoor
end
end
