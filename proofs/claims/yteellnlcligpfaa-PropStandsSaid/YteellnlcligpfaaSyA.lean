/- Of each function the parts of its text and an equation for each of them: printed by sym.py (own work). -/
import Derived.Test.YteellnlcligpfaaAmSy
import Derived.Test.YteellnlcligpfaaEnv
import Derived.KernelRfl

namespace Go.AM.Yteellnlcligpfaa
open Go Go.AM
set_option maxRecDepth 100000
variable {C : Callee} {B N : Nat} {E0 : AHeap} (φ : AFr) (H : AHeap) (s : St)

theorem T_0 : E.T 0 = some ⟨.other, 1, 0, none⟩ := nrfl rfl
theorem T_1 : E.T 1 = some ⟨.other, 1, 8, (some [.nilfunc])⟩ := nrfl rfl
theorem T_2 : E.T 2 = some ⟨.int .i64, 1, 8, (some [.int .i64 0])⟩ := nrfl rfl
theorem T_3 : E.T 3 = some ⟨.int .i64, 1, 8, (some [.int .i64 0])⟩ := nrfl rfl
theorem T_4 : E.T 4 = some ⟨.bool, 1, 1, (some [.bool false])⟩ := nrfl rfl
theorem T_5 : E.T 5 = some ⟨.int .u8, 1, 1, (some [.int .u8 0])⟩ := nrfl rfl
theorem T_6 : E.T 6 = some ⟨.int .u8, 1, 1, (some [.int .u8 0])⟩ := nrfl rfl
theorem T_7 : E.T 7 = some ⟨.struct [(0, 2, 1), (1, 3, 1), (2, 4, 1), (3, 6, 1)] false, 4, 24, (some [.int .i64 0, .int .i64 0, .bool false, .int .u8 0])⟩ := nrfl rfl
theorem T_8 : E.T 8 = some ⟨.struct [(0, 2, 1), (1, 3, 1), (2, 4, 1), (3, 6, 1)] false, 4, 24, (some [.int .i64 0, .int .i64 0, .bool false, .int .u8 0])⟩ := nrfl rfl
theorem T_9 : E.T 9 = some ⟨.str, 1, 16, (some [.str ⟨#[]⟩])⟩ := nrfl rfl
theorem T_10 : E.T 10 = some ⟨.str, 1, 16, (some [.str ⟨#[]⟩])⟩ := nrfl rfl
theorem T_11 : E.T 11 = some ⟨.str, 1, 16, (some [.str ⟨#[]⟩])⟩ := nrfl rfl
theorem T_12 : E.T 12 = some ⟨.int .u64, 1, 8, (some [.int .u64 0])⟩ := nrfl rfl
theorem T_13 : E.T 13 = some ⟨.struct [(0, 9, 1), (1, 12, 1)] false, 2, 24, (some [.str ⟨#[]⟩, .int .u64 0])⟩ := nrfl rfl
theorem T_14 : E.T 14 = some ⟨.struct [(0, 9, 1), (1, 12, 1)] false, 2, 24, (some [.str ⟨#[]⟩, .int .u64 0])⟩ := nrfl rfl
theorem T_15 : E.T 15 = some ⟨.other, 1, 8, (some [.nilptr])⟩ := nrfl rfl
theorem T_16 : E.T 16 = some ⟨.other, 1, 8, (some [.nilptr])⟩ := nrfl rfl
theorem T_17 : E.T 17 = some ⟨.other, 1, 8, (some [.nilptr])⟩ := nrfl rfl
theorem T_18 : E.T 18 = some ⟨.struct [(0, 17, 1)] false, 1, 8, (some [.nilptr])⟩ := nrfl rfl
theorem T_19 : E.T 19 = some ⟨.struct [(0, 17, 1)] false, 1, 8, (some [.nilptr])⟩ := nrfl rfl
theorem T_20 : E.T 20 = some ⟨.other, 1, 16, none⟩ := nrfl rfl
theorem T_21 : E.T 21 = some ⟨.int .i32, 1, 4, (some [.int .i32 0])⟩ := nrfl rfl
theorem T_22 : E.T 22 = some ⟨.slice 56, 1, 24, (some [.nilsl])⟩ := nrfl rfl
theorem T_23 : E.T 23 = some ⟨.slice 3, 1, 24, (some [.nilsl])⟩ := nrfl rfl
theorem T_24 : E.T 24 = some ⟨.other, 1, 8, (some [.nilfunc])⟩ := nrfl rfl
theorem T_25 : E.T 25 = some ⟨.slice 82, 1, 24, (some [.nilsl])⟩ := nrfl rfl
theorem T_26 : E.T 26 = some ⟨.other, 1, 8, (some [.nilfunc])⟩ := nrfl rfl
theorem T_27 : E.T 27 = some ⟨.int .i64, 1, 8, (some [.int .i64 0])⟩ := nrfl rfl
theorem T_28 : E.T 28 = some ⟨.other, 1, 0, none⟩ := nrfl rfl
theorem T_29 : E.T 29 = some ⟨.other, 1, 8, (some [.nilfunc])⟩ := nrfl rfl
theorem T_30 : E.T 30 = some ⟨.other, 1, 8, (some [.nilfunc])⟩ := nrfl rfl
theorem T_31 : E.T 31 = some ⟨.other, 1, 0, none⟩ := nrfl rfl
theorem T_32 : E.T 32 = some ⟨.other, 1, 8, (some [.nilfunc])⟩ := nrfl rfl
theorem T_33 : E.T 33 = some ⟨.other, 1, 8, (some [.nilfunc])⟩ := nrfl rfl
theorem T_34 : E.T 34 = some ⟨.other, 1, 0, none⟩ := nrfl rfl
theorem T_35 : E.T 35 = some ⟨.other, 1, 8, (some [.nilfunc])⟩ := nrfl rfl
theorem T_36 : E.T 36 = some ⟨.other, 1, 8, (some [.nilfunc])⟩ := nrfl rfl
theorem T_37 : E.T 37 = some ⟨.other, 1, 8, (some [.nilfunc])⟩ := nrfl rfl
theorem T_38 : E.T 38 = some ⟨.other, 1, 8, (some [.nilfunc])⟩ := nrfl rfl
theorem T_39 : E.T 39 = some ⟨.other, 1, 8, (some [.nilfunc])⟩ := nrfl rfl
theorem T_40 : E.T 40 = some ⟨.other, 1, 8, (some [.nilfunc])⟩ := nrfl rfl
theorem T_41 : E.T 41 = some ⟨.other, 1, 8, (some [.nilfunc])⟩ := nrfl rfl
theorem T_42 : E.T 42 = some ⟨.other, 1, 8, (some [.nilfunc])⟩ := nrfl rfl
theorem T_43 : E.T 43 = some ⟨.other, 1, 8, (some [.nilfunc])⟩ := nrfl rfl
theorem T_44 : E.T 44 = some ⟨.other, 1, 8, (some [.nilfunc])⟩ := nrfl rfl
theorem T_45 : E.T 45 = some ⟨.arr 4 5 true, 4, 4, (some [.int .u8 0, .int .u8 0, .int .u8 0, .int .u8 0])⟩ := nrfl rfl
theorem T_46 : E.T 46 = some ⟨.arr 5 45 false, 20, 20, (some [.int .u8 0, .int .u8 0, .int .u8 0, .int .u8 0, .int .u8 0, .int .u8 0, .int .u8 0, .int .u8 0, .int .u8 0, .int .u8 0, .int .u8 0, .int .u8 0, .int .u8 0, .int .u8 0, .int .u8 0, .int .u8 0, .int .u8 0, .int .u8 0, .int .u8 0, .int .u8 0])⟩ := nrfl rfl
theorem T_47 : E.T 47 = some ⟨.struct [(0, 5, 1), (1, 46, 20)] false, 21, 21, (some [.int .u8 0, .int .u8 0, .int .u8 0, .int .u8 0, .int .u8 0, .int .u8 0, .int .u8 0, .int .u8 0, .int .u8 0, .int .u8 0, .int .u8 0, .int .u8 0, .int .u8 0, .int .u8 0, .int .u8 0, .int .u8 0, .int .u8 0, .int .u8 0, .int .u8 0, .int .u8 0, .int .u8 0])⟩ := nrfl rfl
theorem T_48 : E.T 48 = some ⟨.struct [(0, 5, 1), (1, 46, 20)] false, 21, 21, (some [.int .u8 0, .int .u8 0, .int .u8 0, .int .u8 0, .int .u8 0, .int .u8 0, .int .u8 0, .int .u8 0, .int .u8 0, .int .u8 0, .int .u8 0, .int .u8 0, .int .u8 0, .int .u8 0, .int .u8 0, .int .u8 0, .int .u8 0, .int .u8 0, .int .u8 0, .int .u8 0, .int .u8 0])⟩ := nrfl rfl
theorem T_49 : E.T 49 = some ⟨.arr 5 5 true, 5, 5, (some [.int .u8 0, .int .u8 0, .int .u8 0, .int .u8 0, .int .u8 0])⟩ := nrfl rfl
theorem T_50 : E.T 50 = some ⟨.other, 1, 8, (some [.nilfunc])⟩ := nrfl rfl
theorem T_51 : E.T 51 = some ⟨.other, 1, 8, (some [.nilfunc])⟩ := nrfl rfl
theorem T_52 : E.T 52 = some ⟨.other, 1, 8, (some [.nilfunc])⟩ := nrfl rfl
theorem T_53 : E.T 53 = some ⟨.other, 1, 0, none⟩ := nrfl rfl
theorem T_54 : E.T 54 = some ⟨.other, 1, 8, (some [.nilfunc])⟩ := nrfl rfl
theorem T_55 : E.T 55 = some ⟨.struct [(0, 3, 1), (1, 3, 1), (2, 3, 1), (3, 3, 1)] true, 4, 32, (some [.int .i64 0, .int .i64 0, .int .i64 0, .int .i64 0])⟩ := nrfl rfl
theorem T_56 : E.T 56 = some ⟨.struct [(0, 3, 1), (1, 3, 1), (2, 3, 1), (3, 3, 1)] true, 4, 32, (some [.int .i64 0, .int .i64 0, .int .i64 0, .int .i64 0])⟩ := nrfl rfl
theorem T_57 : E.T 57 = some ⟨.other, 1, 8, (some [.nilfunc])⟩ := nrfl rfl
theorem T_58 : E.T 58 = some ⟨.other, 1, 8, (some [.nilfunc])⟩ := nrfl rfl
theorem T_59 : E.T 59 = some ⟨.other, 1, 8, (some [.nilfunc])⟩ := nrfl rfl
theorem T_60 : E.T 60 = some ⟨.other, 1, 8, (some [.nilfunc])⟩ := nrfl rfl
theorem T_61 : E.T 61 = some ⟨.other, 1, 8, (some [.nilfunc])⟩ := nrfl rfl
theorem T_62 : E.T 62 = some ⟨.other, 1, 8, (some [.nilfunc])⟩ := nrfl rfl
theorem T_63 : E.T 63 = some ⟨.other, 1, 8, (some [.nilfunc])⟩ := nrfl rfl
theorem T_64 : E.T 64 = some ⟨.struct [(0, 3, 1), (1, 3, 1)] true, 2, 16, (some [.int .i64 0, .int .i64 0])⟩ := nrfl rfl
theorem T_65 : E.T 65 = some ⟨.struct [(0, 3, 1), (1, 3, 1)] true, 2, 16, (some [.int .i64 0, .int .i64 0])⟩ := nrfl rfl
theorem T_66 : E.T 66 = some ⟨.other, 1, 0, none⟩ := nrfl rfl
theorem T_67 : E.T 67 = some ⟨.other, 1, 8, (some [.nilfunc])⟩ := nrfl rfl
theorem T_68 : E.T 68 = some ⟨.other, 1, 8, (some [.nilfunc])⟩ := nrfl rfl
theorem T_69 : E.T 69 = some ⟨.other, 1, 0, none⟩ := nrfl rfl
theorem T_70 : E.T 70 = some ⟨.other, 1, 8, (some [.nilfunc])⟩ := nrfl rfl
theorem T_71 : E.T 71 = some ⟨.other, 1, 0, none⟩ := nrfl rfl
theorem T_72 : E.T 72 = some ⟨.other, 1, 8, (some [.nilfunc])⟩ := nrfl rfl
theorem T_73 : E.T 73 = some ⟨.slice 65, 1, 24, (some [.nilsl])⟩ := nrfl rfl
theorem T_74 : E.T 74 = some ⟨.other, 1, 0, none⟩ := nrfl rfl
theorem T_75 : E.T 75 = some ⟨.other, 1, 8, (some [.nilfunc])⟩ := nrfl rfl
theorem T_76 : E.T 76 = some ⟨.other, 1, 0, none⟩ := nrfl rfl
theorem T_77 : E.T 77 = some ⟨.other, 1, 8, (some [.nilfunc])⟩ := nrfl rfl
theorem T_78 : E.T 78 = some ⟨.other, 1, 8, (some [.nilfunc])⟩ := nrfl rfl
theorem T_79 : E.T 79 = some ⟨.other, 1, 8, (some [.nilfunc])⟩ := nrfl rfl
theorem T_80 : E.T 80 = some ⟨.other, 1, 8, (some [.nilfunc])⟩ := nrfl rfl
theorem T_81 : E.T 81 = some ⟨.other, 1, 8, (some [.nilfunc])⟩ := nrfl rfl
theorem T_82 : E.T 82 = some ⟨.struct [(0, 3, 1), (1, 3, 1), (2, 3, 1), (3, 3, 1)] true, 4, 32, (some [.int .i64 0, .int .i64 0, .int .i64 0, .int .i64 0])⟩ := nrfl rfl
theorem T_83 : E.T 83 = some ⟨.other, 1, 8, (some [.nilfunc])⟩ := nrfl rfl
theorem T_84 : E.T 84 = some ⟨.other, 1, 8, (some [.nilfunc])⟩ := nrfl rfl
theorem T_85 : E.T 85 = some ⟨.other, 1, 8, (some [.nilfunc])⟩ := nrfl rfl
theorem T_86 : E.T 86 = some ⟨.other, 1, 8, (some [.nilfunc])⟩ := nrfl rfl
theorem T_87 : E.T 87 = some ⟨.other, 1, 8, (some [.nilfunc])⟩ := nrfl rfl
theorem T_88 : E.T 88 = some ⟨.other, 1, 8, (some [.nilfunc])⟩ := nrfl rfl
theorem T_89 : E.T 89 = some ⟨.other, 1, 8, (some [.nilfunc])⟩ := nrfl rfl
theorem T_90 : E.T 90 = some ⟨.other, 1, 8, (some [.nilfunc])⟩ := nrfl rfl
theorem T_91 : E.T 91 = some ⟨.other, 1, 8, (some [.nilfunc])⟩ := nrfl rfl
theorem T_92 : E.T 92 = some ⟨.other, 1, 8, (some [.nilfunc])⟩ := nrfl rfl
theorem T_93 : E.T 93 = some ⟨.other, 1, 8, (some [.nilfunc])⟩ := nrfl rfl
theorem T_94 : E.T 94 = some ⟨.other, 1, 8, (some [.nilfunc])⟩ := nrfl rfl
theorem T_95 : E.T 95 = some ⟨.other, 1, 8, (some [.nilfunc])⟩ := nrfl rfl
theorem T_96 : E.T 96 = some ⟨.other, 1, 8, (some [.nilfunc])⟩ := nrfl rfl
theorem T_97 : E.T 97 = some ⟨.other, 1, 8, (some [.nilfunc])⟩ := nrfl rfl
theorem T_98 : E.T 98 = some ⟨.other, 1, 8, (some [.nilfunc])⟩ := nrfl rfl
theorem T_99 : E.T 99 = some ⟨.slice 45, 1, 24, (some [.nilsl])⟩ := nrfl rfl
theorem T_100 : E.T 100 = some ⟨.other, 1, 8, (some [.nilfunc])⟩ := nrfl rfl
theorem T_101 : E.T 101 = some ⟨.other, 1, 8, (some [.nilfunc])⟩ := nrfl rfl
theorem T_102 : E.T 102 = some ⟨.other, 1, 8, (some [.nilfunc])⟩ := nrfl rfl
theorem T_103 : E.T 103 = some ⟨.other, 1, 8, (some [.nilfunc])⟩ := nrfl rfl
theorem T_104 : E.T 104 = some ⟨.other, 1, 8, (some [.nilfunc])⟩ := nrfl rfl
theorem T_105 : E.T 105 = some ⟨.other, 1, 8, (some [.nilfunc])⟩ := nrfl rfl
theorem T_106 : E.T 106 = some ⟨.other, 1, 8, (some [.nilfunc])⟩ := nrfl rfl
theorem T_107 : E.T 107 = some ⟨.other, 1, 8, (some [.nilfunc])⟩ := nrfl rfl
theorem T_108 : E.T 108 = some ⟨.slice 3, 1, 24, (some [.nilsl])⟩ := nrfl rfl
theorem T_109 : E.T 109 = some ⟨.other, 1, 8, (some [.nilfunc])⟩ := nrfl rfl
theorem T_110 : E.T 110 = some ⟨.other, 1, 8, (some [.nilfunc])⟩ := nrfl rfl
theorem T_111 : E.T 111 = some ⟨.slice 113, 1, 24, (some [.nilsl])⟩ := nrfl rfl
theorem T_112 : E.T 112 = some ⟨.struct [(0, 23, 1), (1, 65, 2)] false, 3, 40, (some [.nilsl, .int .i64 0, .int .i64 0])⟩ := nrfl rfl
theorem T_113 : E.T 113 = some ⟨.struct [(0, 23, 1), (1, 65, 2)] false, 3, 40, (some [.nilsl, .int .i64 0, .int .i64 0])⟩ := nrfl rfl
theorem T_114 : E.T 114 = some ⟨.other, 1, 8, (some [.nilfunc])⟩ := nrfl rfl
theorem T_115 : E.T 115 = some ⟨.other, 1, 8, (some [.nilfunc])⟩ := nrfl rfl
theorem T_116 : E.T 116 = some ⟨.other, 1, 8, (some [.nilfunc])⟩ := nrfl rfl
theorem T_117 : E.T 117 = some ⟨.other, 1, 8, (some [.nilfunc])⟩ := nrfl rfl
theorem T_118 : E.T 118 = some ⟨.other, 1, 8, (some [.nilfunc])⟩ := nrfl rfl
theorem T_119 : E.T 119 = some ⟨.other, 1, 8, (some [.nilfunc])⟩ := nrfl rfl
theorem T_120 : E.T 120 = some ⟨.int .u64, 1, 8, (some [.int .u64 0])⟩ := nrfl rfl
theorem T_121 : E.T 121 = some ⟨.slice 56, 1, 24, (some [.nilsl])⟩ := nrfl rfl
theorem T_122 : E.T 122 = some ⟨.other, 1, 8, (some [.nilfunc])⟩ := nrfl rfl
theorem T_123 : E.T 123 = some ⟨.other, 1, 8, (some [.nilfunc])⟩ := nrfl rfl
theorem T_124 : E.T 124 = some ⟨.other, 1, 8, (some [.nilfunc])⟩ := nrfl rfl
theorem T_125 : E.T 125 = some ⟨.int .i64, 1, 8, (some [.int .i64 0])⟩ := nrfl rfl
theorem T_126 : E.T 126 = some ⟨.other, 1, 0, none⟩ := nrfl rfl
theorem T_127 : E.T 127 = some ⟨.other, 1, 8, (some [.nilfunc])⟩ := nrfl rfl
theorem T_128 : E.T 128 = some ⟨.other, 1, 8, (some [.nilfunc])⟩ := nrfl rfl
theorem T_129 : E.T 129 = some ⟨.other, 1, 8, (some [.nilfunc])⟩ := nrfl rfl
theorem T_130 : E.T 130 = some ⟨.other, 1, 0, none⟩ := nrfl rfl
theorem T_131 : E.T 131 = some ⟨.other, 1, 8, (some [.nilfunc])⟩ := nrfl rfl
theorem T_132 : E.T 132 = some ⟨.other, 1, 8, (some [.nilfunc])⟩ := nrfl rfl
theorem T_133 : E.T 133 = some ⟨.int .u32, 1, 4, (some [.int .u32 0])⟩ := nrfl rfl
theorem T_134 : E.T 134 = some ⟨.other, 1, 8, (some [.nilfunc])⟩ := nrfl rfl
theorem T_135 : E.T 135 = some ⟨.int .u64, 1, 8, (some [.int .u64 0])⟩ := nrfl rfl
theorem T_136 : E.T 136 = some ⟨.int .u64, 1, 8, (some [.int .u64 0])⟩ := nrfl rfl
theorem T_137 : E.T 137 = some ⟨.other, 1, 8, (some [.nilfunc])⟩ := nrfl rfl
theorem T_138 : E.T 138 = some ⟨.other, 1, 8, (some [.nilfunc])⟩ := nrfl rfl
theorem T_139 : E.T 139 = some ⟨.other, 1, 8, (some [.nilfunc])⟩ := nrfl rfl
theorem T_140 : E.T 140 = some ⟨.other, 1, 8, (some [.nilptr])⟩ := nrfl rfl
theorem T_141 : E.T 141 = some ⟨.other, 1, 8, (some [.nilfunc])⟩ := nrfl rfl
theorem T_142 : E.T 142 = some ⟨.other, 1, 8, (some [.nilptr])⟩ := nrfl rfl
theorem T_143 : E.T 143 = some ⟨.other, 1, 8, (some [.nilfunc])⟩ := nrfl rfl
theorem T_144 : E.T 144 = some ⟨.other, 1, 8, (some [.nilfunc])⟩ := nrfl rfl
theorem T_145 : E.T 145 = some ⟨.struct [(0, 17, 1), (1, 17, 1), (2, 17, 1), (3, 9, 1)] false, 4, 40, (some [.nilptr, .nilptr, .nilptr, .str ⟨#[]⟩])⟩ := nrfl rfl
theorem T_146 : E.T 146 = some ⟨.struct [(0, 17, 1), (1, 17, 1), (2, 17, 1), (3, 9, 1)] false, 4, 40, (some [.nilptr, .nilptr, .nilptr, .str ⟨#[]⟩])⟩ := nrfl rfl
theorem T_147 : E.T 147 = some ⟨.arr 0 16 false, 0, 0, (some [])⟩ := nrfl rfl
theorem T_148 : E.T 148 = some ⟨.struct [(0, 147, 0)] false, 0, 0, (some [])⟩ := nrfl rfl
theorem T_149 : E.T 149 = some ⟨.struct [(0, 147, 0)] false, 0, 0, (some [])⟩ := nrfl rfl
theorem T_150 : E.T 150 = some ⟨.other, 1, 8, (some [.nilfunc])⟩ := nrfl rfl
theorem T_151 : E.T 151 = some ⟨.int .u8, 1, 1, (some [.int .u8 0])⟩ := nrfl rfl
theorem T_152 : E.T 152 = some ⟨.int .u8, 1, 1, (some [.int .u8 0])⟩ := nrfl rfl
theorem T_153 : E.T 153 = some ⟨.other, 1, 8, (some [.nilfunc])⟩ := nrfl rfl
theorem T_154 : E.T 154 = some ⟨.other, 1, 8, (some [.nilptr])⟩ := nrfl rfl
theorem T_155 : E.T 155 = some ⟨.int .i32, 1, 4, (some [.int .i32 0])⟩ := nrfl rfl
theorem T_156 : E.T 156 = some ⟨.int .i32, 1, 4, (some [.int .i32 0])⟩ := nrfl rfl
theorem T_157 : E.T 157 = some ⟨.struct [(0, 12, 1), (1, 12, 1), (2, 133, 1), (3, 151, 1), (4, 5, 1), (5, 5, 1), (6, 152, 1), (7, 153, 1), (8, 154, 1), (9, 155, 1), (10, 156, 1)] false, 11, 48, (some [.int .u64 0, .int .u64 0, .int .u32 0, .int .u8 0, .int .u8 0, .int .u8 0, .int .u8 0, .nilfunc, .nilptr, .int .i32 0, .int .i32 0])⟩ := nrfl rfl
theorem T_158 : E.T 158 = some ⟨.struct [(0, 12, 1), (1, 12, 1), (2, 133, 1), (3, 151, 1), (4, 5, 1), (5, 5, 1), (6, 152, 1), (7, 153, 1), (8, 154, 1), (9, 155, 1), (10, 156, 1)] false, 11, 48, (some [.int .u64 0, .int .u64 0, .int .u32 0, .int .u8 0, .int .u8 0, .int .u8 0, .int .u8 0, .nilfunc, .nilptr, .int .i32 0, .int .i32 0])⟩ := nrfl rfl
theorem T_159 : E.T 159 = some ⟨.other, 1, 8, (some [.nilptr])⟩ := nrfl rfl
/-! ### f55: (novaculite/prop.Stone).within -/
noncomputable def c55_0 : Code := kBody Proofs.Try.f55
noncomputable def c55_1 : Code := kL c55_0
noncomputable def r55_0 : Array Oper := kO c55_1
noncomputable def o55_0_0 : Oper := opN r55_0 0
noncomputable def o55_0_1 : Oper := opN r55_0 1
theorem x55_1 : execA E C (fg 55) B 42 E0 N c55_1 s = regX (runA E C B 42 r55_0 r55_0.toList s) (fun s => gcM E0 [0, 2] (forget s.1 [0, 2], s.2)) := x_reg (ops := r55_0) (by rfl) (by rfl) s
theorem r55_0_l : r55_0.toList = [o55_0_0, o55_0_1] := nrfl rfl
theorem s55_0_0 : stepA E C B 42 r55_0 o55_0_0 (φ, H) = stp (some 1) φ H (opBox (B + 1) (acells (fget φ 0))) := nrfl rfl
theorem s55_0_1 : stepA E C B 42 r55_0 o55_0_1 (φ, H) = some (fput φ 2 (.int .i64 0), H) := nrfl rfl
noncomputable def c55_2 : Code := kR c55_0
noncomputable def c55_3 : Code := kL c55_2
noncomputable def c55_4 : Code := kB c55_3
noncomputable def c55_5 : Code := kL c55_4
noncomputable def c55_6 : Code := kB c55_5
noncomputable def c55_7 : Code := kL c55_6
noncomputable def c55_8 : Code := kB c55_7
noncomputable def c55_9 : Code := kB c55_8
noncomputable def c55_10 : Code := kB c55_9
noncomputable def c55_11 : Code := kL c55_10
noncomputable def c55_12 : Code := kL c55_11
noncomputable def c55_13 : Code := kL c55_12
noncomputable def r55_1 : Array Oper := kO c55_13
noncomputable def o55_1_0 : Oper := opN r55_1 0
noncomputable def o55_1_1 : Oper := opN r55_1 1
noncomputable def o55_1_2 : Oper := opN r55_1 2
noncomputable def o55_1_3 : Oper := opN r55_1 3
noncomputable def o55_1_4 : Oper := opN r55_1 4
noncomputable def o55_1_5 : Oper := opN r55_1 5
noncomputable def o55_1_6 : Oper := opN r55_1 6
noncomputable def o55_1_7 : Oper := opN r55_1 7
noncomputable def o55_1_8 : Oper := opN r55_1 8
theorem x55_13 : execA E C (fg 55) B 42 E0 N c55_13 s = regX (runA E C B 42 r55_1 r55_1.toList s) (fun s => gcM E0 [4, 5, 6, 7, 8, 9, 10, 11] (forget s.1 [4, 5, 6, 7, 8, 9, 10, 11], s.2)) := x_reg (ops := r55_1) (by rfl) (by rfl) s
theorem r55_1_l : r55_1.toList = [o55_1_0, o55_1_1, o55_1_2, o55_1_3, o55_1_4, o55_1_5, o55_1_6, o55_1_7, o55_1_8] := nrfl rfl
theorem s55_1_0 : stepA E C B 42 r55_1 o55_1_0 (φ, H) = stp (some 4) φ H (just (aFieldAddr E.T 56 (fget φ 1) 0)) := nrfl rfl
theorem s55_1_1 : stepA E C B 42 r55_1 o55_1_1 (φ, H) = stp (some 5) φ H (just (aLoad E.T 3 (fget φ 4))) := nrfl rfl
theorem s55_1_2 : stepA E C B 42 r55_1 o55_1_2 (φ, H) = stp (some 6) φ H (just (aBin E.T .lss 3 (fget φ 5) (.int .i64 1))) := nrfl rfl
theorem s55_1_3 : stepA E C B 42 r55_1 o55_1_3 (φ, H) = some (fput φ 7 (fget φ 6), H) := nrfl rfl
theorem s55_1_4 : stepA E C B 42 r55_1 o55_1_4 (φ, H) = gd φ 7 false (fun φ => some (fput φ 8 (.tup []), H)) (fun φ => stp (some 8) φ H (just (aFieldAddr E.T 56 (fget φ 1) 0))) := s_gd (j := 3) (oj := o55_1_3) rfl rfl rfl (fun _ => rfl) (fun _ => rfl)
theorem s55_1_5 : stepA E C B 42 r55_1 o55_1_5 (φ, H) = gd φ 7 false (fun φ => some (fput φ 9 (.tup []), H)) (fun φ => stp (some 9) φ H (just (aLoad E.T 3 (fget φ 8)))) := s_gd (j := 3) (oj := o55_1_3) rfl rfl rfl (fun _ => rfl) (fun _ => rfl)
theorem s55_1_6 : stepA E C B 42 r55_1 o55_1_6 (φ, H) = gd φ 7 false (fun φ => some (fput φ 10 (.tup []), H)) (fun φ => stp (some 10) φ H (just (aBin E.T .gtr 3 (fget φ 9) (.int .i64 4194304)))) := s_gd (j := 3) (oj := o55_1_3) rfl rfl rfl (fun _ => rfl) (fun _ => rfl)
theorem s55_1_7 : stepA E C B 42 r55_1 o55_1_7 (φ, H) = stp (some 11) φ H (opPick (fget φ 7) (.bool true) (fget φ 10)) := nrfl rfl
theorem s55_1_8 : stepA E C B 42 r55_1 o55_1_8 (φ, H) = some (fput φ 3 (fget φ 11), H) := nrfl rfl
noncomputable def c55_14 : Code := kR c55_12
noncomputable def c55_15 : Code := kT c55_14
theorem x55_15 : execA E C (fg 55) B 42 E0 N c55_15 s = some (.exit 1, s) := x_exit (by rfl) s
noncomputable def c55_16 : Code := kE c55_14
theorem x55_16 : execA E C (fg 55) B 42 E0 N c55_16 s = some (.normal, s) := x_skip (by rfl) s
theorem x55_14 : execA E C (fg 55) B 42 E0 N c55_14 (φ, H) = condX (fget φ 3) (execA E C (fg 55) B 42 E0 N c55_15 (φ, H)) (execA E C (fg 55) B 42 E0 N c55_16 (φ, H)) := x_cond (by rfl) _
theorem x55_12 : execA E C (fg 55) B 42 E0 N c55_12 s = seqX (execA E C (fg 55) B 42 E0 N c55_13 s) (execA E C (fg 55) B 42 E0 N c55_14) := x_seq (by rfl) s
noncomputable def c55_17 : Code := kR c55_11
noncomputable def c55_18 : Code := kL c55_17
noncomputable def c55_19 : Code := kL c55_18
noncomputable def r55_2 : Array Oper := kO c55_19
noncomputable def o55_2_0 : Oper := opN r55_2 0
noncomputable def o55_2_1 : Oper := opN r55_2 1
noncomputable def o55_2_2 : Oper := opN r55_2 2
noncomputable def o55_2_3 : Oper := opN r55_2 3
noncomputable def o55_2_4 : Oper := opN r55_2 4
noncomputable def o55_2_5 : Oper := opN r55_2 5
noncomputable def o55_2_6 : Oper := opN r55_2 6
noncomputable def o55_2_7 : Oper := opN r55_2 7
noncomputable def o55_2_8 : Oper := opN r55_2 8
theorem x55_19 : execA E C (fg 55) B 42 E0 N c55_19 s = regX (runA E C B 42 r55_2 r55_2.toList s) (fun s => gcM E0 [3, 13, 14, 15, 16, 17, 18, 19, 20] (forget s.1 [3, 13, 14, 15, 16, 17, 18, 19, 20], s.2)) := x_reg (ops := r55_2) (by rfl) (by rfl) s
theorem r55_2_l : r55_2.toList = [o55_2_0, o55_2_1, o55_2_2, o55_2_3, o55_2_4, o55_2_5, o55_2_6, o55_2_7, o55_2_8] := nrfl rfl
theorem s55_2_0 : stepA E C B 42 r55_2 o55_2_0 (φ, H) = stp (some 13) φ H (just (aFieldAddr E.T 56 (fget φ 1) 1)) := nrfl rfl
theorem s55_2_1 : stepA E C B 42 r55_2 o55_2_1 (φ, H) = stp (some 14) φ H (just (aLoad E.T 3 (fget φ 13))) := nrfl rfl
theorem s55_2_2 : stepA E C B 42 r55_2 o55_2_2 (φ, H) = stp (some 15) φ H (just (aBin E.T .lss 3 (fget φ 14) (.int .i64 (-33554432)))) := nrfl rfl
theorem s55_2_3 : stepA E C B 42 r55_2 o55_2_3 (φ, H) = some (fput φ 16 (fget φ 15), H) := nrfl rfl
theorem s55_2_4 : stepA E C B 42 r55_2 o55_2_4 (φ, H) = gd φ 16 false (fun φ => some (fput φ 17 (.tup []), H)) (fun φ => stp (some 17) φ H (just (aFieldAddr E.T 56 (fget φ 1) 1))) := s_gd (j := 3) (oj := o55_2_3) rfl rfl rfl (fun _ => rfl) (fun _ => rfl)
theorem s55_2_5 : stepA E C B 42 r55_2 o55_2_5 (φ, H) = gd φ 16 false (fun φ => some (fput φ 18 (.tup []), H)) (fun φ => stp (some 18) φ H (just (aLoad E.T 3 (fget φ 17)))) := s_gd (j := 3) (oj := o55_2_3) rfl rfl rfl (fun _ => rfl) (fun _ => rfl)
theorem s55_2_6 : stepA E C B 42 r55_2 o55_2_6 (φ, H) = gd φ 16 false (fun φ => some (fput φ 19 (.tup []), H)) (fun φ => stp (some 19) φ H (just (aBin E.T .gtr 3 (fget φ 18) (.int .i64 33554432)))) := s_gd (j := 3) (oj := o55_2_3) rfl rfl rfl (fun _ => rfl) (fun _ => rfl)
theorem s55_2_7 : stepA E C B 42 r55_2 o55_2_7 (φ, H) = stp (some 20) φ H (opPick (fget φ 16) (.bool true) (fget φ 19)) := nrfl rfl
theorem s55_2_8 : stepA E C B 42 r55_2 o55_2_8 (φ, H) = some (fput φ 12 (fget φ 20), H) := nrfl rfl
noncomputable def c55_20 : Code := kR c55_18
noncomputable def c55_21 : Code := kT c55_20
theorem x55_21 : execA E C (fg 55) B 42 E0 N c55_21 s = some (.exit 2, s) := x_exit (by rfl) s
noncomputable def c55_22 : Code := kE c55_20
theorem x55_22 : execA E C (fg 55) B 42 E0 N c55_22 s = some (.normal, s) := x_skip (by rfl) s
theorem x55_20 : execA E C (fg 55) B 42 E0 N c55_20 (φ, H) = condX (fget φ 12) (execA E C (fg 55) B 42 E0 N c55_21 (φ, H)) (execA E C (fg 55) B 42 E0 N c55_22 (φ, H)) := x_cond (by rfl) _
theorem x55_18 : execA E C (fg 55) B 42 E0 N c55_18 s = seqX (execA E C (fg 55) B 42 E0 N c55_19 s) (execA E C (fg 55) B 42 E0 N c55_20) := x_seq (by rfl) s
noncomputable def c55_23 : Code := kR c55_17
noncomputable def c55_24 : Code := kL c55_23
noncomputable def c55_25 : Code := kL c55_24
noncomputable def r55_3 : Array Oper := kO c55_25
noncomputable def o55_3_0 : Oper := opN r55_3 0
noncomputable def o55_3_1 : Oper := opN r55_3 1
noncomputable def o55_3_2 : Oper := opN r55_3 2
noncomputable def o55_3_3 : Oper := opN r55_3 3
noncomputable def o55_3_4 : Oper := opN r55_3 4
noncomputable def o55_3_5 : Oper := opN r55_3 5
noncomputable def o55_3_6 : Oper := opN r55_3 6
noncomputable def o55_3_7 : Oper := opN r55_3 7
noncomputable def o55_3_8 : Oper := opN r55_3 8
noncomputable def o55_3_9 : Oper := opN r55_3 9
noncomputable def o55_3_10 : Oper := opN r55_3 10
noncomputable def o55_3_11 : Oper := opN r55_3 11
noncomputable def o55_3_12 : Oper := opN r55_3 12
noncomputable def o55_3_13 : Oper := opN r55_3 13
noncomputable def o55_3_14 : Oper := opN r55_3 14
theorem x55_25 : execA E C (fg 55) B 42 E0 N c55_25 s = regX (runA E C B 42 r55_3 r55_3.toList s) (fun s => gcM E0 [12, 22, 23, 24, 25, 26, 27, 28, 29, 30, 31, 32, 33, 34, 35] (forget s.1 [12, 22, 23, 24, 25, 26, 27, 28, 29, 30, 31, 32, 33, 34, 35], s.2)) := x_reg (ops := r55_3) (by rfl) (by rfl) s
theorem r55_3_l : r55_3.toList = [o55_3_0, o55_3_1, o55_3_2, o55_3_3, o55_3_4, o55_3_5, o55_3_6, o55_3_7, o55_3_8, o55_3_9, o55_3_10, o55_3_11, o55_3_12, o55_3_13, o55_3_14] := nrfl rfl
theorem s55_3_0 : stepA E C B 42 r55_3 o55_3_0 (φ, H) = stp (some 22) φ H (just (aFieldAddr E.T 56 (fget φ 1) 2)) := nrfl rfl
theorem s55_3_1 : stepA E C B 42 r55_3 o55_3_1 (φ, H) = stp (some 23) φ H (just (aLoad E.T 3 (fget φ 22))) := nrfl rfl
theorem s55_3_2 : stepA E C B 42 r55_3 o55_3_2 (φ, H) = stp (some 24) φ H (just (aFieldAddr E.T 56 (fget φ 1) 3)) := nrfl rfl
theorem s55_3_3 : stepA E C B 42 r55_3 o55_3_3 (φ, H) = stp (some 25) φ H (just (aLoad E.T 3 (fget φ 24))) := nrfl rfl
theorem s55_3_4 : stepA E C B 42 r55_3 o55_3_4 (φ, H) = stp (some 26) φ H (aBuiltin E.T (B + 26) .min #[3, 3] [(fget φ 23), (fget φ 25)]) := nrfl rfl
theorem s55_3_5 : stepA E C B 42 r55_3 o55_3_5 (φ, H) = stp (some 27) φ H (just (aBin E.T .lss 3 (fget φ 26) (.int .i64 1))) := nrfl rfl
theorem s55_3_6 : stepA E C B 42 r55_3 o55_3_6 (φ, H) = some (fput φ 28 (fget φ 27), H) := nrfl rfl
theorem s55_3_7 : stepA E C B 42 r55_3 o55_3_7 (φ, H) = gd φ 28 false (fun φ => some (fput φ 29 (.tup []), H)) (fun φ => stp (some 29) φ H (just (aFieldAddr E.T 56 (fget φ 1) 2))) := s_gd (j := 6) (oj := o55_3_6) rfl rfl rfl (fun _ => rfl) (fun _ => rfl)
theorem s55_3_8 : stepA E C B 42 r55_3 o55_3_8 (φ, H) = gd φ 28 false (fun φ => some (fput φ 30 (.tup []), H)) (fun φ => stp (some 30) φ H (just (aLoad E.T 3 (fget φ 29)))) := s_gd (j := 6) (oj := o55_3_6) rfl rfl rfl (fun _ => rfl) (fun _ => rfl)
theorem s55_3_9 : stepA E C B 42 r55_3 o55_3_9 (φ, H) = gd φ 28 false (fun φ => some (fput φ 31 (.tup []), H)) (fun φ => stp (some 31) φ H (just (aFieldAddr E.T 56 (fget φ 1) 3))) := s_gd (j := 6) (oj := o55_3_6) rfl rfl rfl (fun _ => rfl) (fun _ => rfl)
theorem s55_3_10 : stepA E C B 42 r55_3 o55_3_10 (φ, H) = gd φ 28 false (fun φ => some (fput φ 32 (.tup []), H)) (fun φ => stp (some 32) φ H (just (aLoad E.T 3 (fget φ 31)))) := s_gd (j := 6) (oj := o55_3_6) rfl rfl rfl (fun _ => rfl) (fun _ => rfl)
theorem s55_3_11 : stepA E C B 42 r55_3 o55_3_11 (φ, H) = gd φ 28 false (fun φ => some (fput φ 33 (.tup []), H)) (fun φ => stp (some 33) φ H (aBuiltin E.T (B + 33) .max #[3, 3] [(fget φ 30), (fget φ 32)])) := s_gd (j := 6) (oj := o55_3_6) rfl rfl rfl (fun _ => rfl) (fun _ => rfl)
theorem s55_3_12 : stepA E C B 42 r55_3 o55_3_12 (φ, H) = gd φ 28 false (fun φ => some (fput φ 34 (.tup []), H)) (fun φ => stp (some 34) φ H (just (aBin E.T .gtr 3 (fget φ 33) (.int .i64 9)))) := s_gd (j := 6) (oj := o55_3_6) rfl rfl rfl (fun _ => rfl) (fun _ => rfl)
theorem s55_3_13 : stepA E C B 42 r55_3 o55_3_13 (φ, H) = stp (some 35) φ H (opPick (fget φ 28) (.bool true) (fget φ 34)) := nrfl rfl
theorem s55_3_14 : stepA E C B 42 r55_3 o55_3_14 (φ, H) = some (fput φ 21 (fget φ 35), H) := nrfl rfl
noncomputable def c55_26 : Code := kR c55_24
noncomputable def c55_27 : Code := kT c55_26
theorem x55_27 : execA E C (fg 55) B 42 E0 N c55_27 s = some (.exit 3, s) := x_exit (by rfl) s
noncomputable def c55_28 : Code := kE c55_26
theorem x55_28 : execA E C (fg 55) B 42 E0 N c55_28 s = some (.normal, s) := x_skip (by rfl) s
theorem x55_26 : execA E C (fg 55) B 42 E0 N c55_26 (φ, H) = condX (fget φ 21) (execA E C (fg 55) B 42 E0 N c55_27 (φ, H)) (execA E C (fg 55) B 42 E0 N c55_28 (φ, H)) := x_cond (by rfl) _
theorem x55_24 : execA E C (fg 55) B 42 E0 N c55_24 s = seqX (execA E C (fg 55) B 42 E0 N c55_25 s) (execA E C (fg 55) B 42 E0 N c55_26) := x_seq (by rfl) s
noncomputable def c55_29 : Code := kR c55_23
noncomputable def c55_30 : Code := kL c55_29
noncomputable def r55_4 : Array Oper := kO c55_30
noncomputable def o55_4_0 : Oper := opN r55_4 0
noncomputable def o55_4_1 : Oper := opN r55_4 1
noncomputable def o55_4_2 : Oper := opN r55_4 2
noncomputable def o55_4_3 : Oper := opN r55_4 3
noncomputable def o55_4_4 : Oper := opN r55_4 4
noncomputable def o55_4_5 : Oper := opN r55_4 5
theorem x55_30 : execA E C (fg 55) B 42 E0 N c55_30 s = regX (runA E C B 42 r55_4 r55_4.toList s) (fun s => gcM E0 [1, 21, 37, 38, 39, 40, 41] (forget s.1 [1, 21, 37, 38, 39, 40, 41], s.2)) := x_reg (ops := r55_4) (by rfl) (by rfl) s
theorem r55_4_l : r55_4.toList = [o55_4_0, o55_4_1, o55_4_2, o55_4_3, o55_4_4, o55_4_5] := nrfl rfl
theorem s55_4_0 : stepA E C B 42 r55_4 o55_4_0 (φ, H) = stp (some 37) φ H (just (aFieldAddr E.T 56 (fget φ 1) 2)) := nrfl rfl
theorem s55_4_1 : stepA E C B 42 r55_4 o55_4_1 (φ, H) = stp (some 38) φ H (just (aLoad E.T 3 (fget φ 37))) := nrfl rfl
theorem s55_4_2 : stepA E C B 42 r55_4 o55_4_2 (φ, H) = stp (some 39) φ H (just (aFieldAddr E.T 56 (fget φ 1) 3)) := nrfl rfl
theorem s55_4_3 : stepA E C B 42 r55_4 o55_4_3 (φ, H) = stp (some 40) φ H (just (aLoad E.T 3 (fget φ 39))) := nrfl rfl
theorem s55_4_4 : stepA E C B 42 r55_4 o55_4_4 (φ, H) = stp (some 41) φ H (just (aBin E.T .gtr 3 (fget φ 38) (fget φ 40))) := nrfl rfl
theorem s55_4_5 : stepA E C B 42 r55_4 o55_4_5 (φ, H) = some (fput φ 36 (fget φ 41), H) := nrfl rfl
noncomputable def c55_31 : Code := kR c55_29
noncomputable def c55_32 : Code := kT c55_31
theorem x55_32 : execA E C (fg 55) B 42 E0 N c55_32 s = some (.exit 4, s) := x_exit (by rfl) s
noncomputable def c55_33 : Code := kE c55_31
theorem x55_33 : execA E C (fg 55) B 42 E0 N c55_33 s = some (.normal, s) := x_skip (by rfl) s
theorem x55_31 : execA E C (fg 55) B 42 E0 N c55_31 (φ, H) = condX (fget φ 36) (execA E C (fg 55) B 42 E0 N c55_32 (φ, H)) (execA E C (fg 55) B 42 E0 N c55_33 (φ, H)) := x_cond (by rfl) _
theorem x55_29 : execA E C (fg 55) B 42 E0 N c55_29 s = seqX (execA E C (fg 55) B 42 E0 N c55_30 s) (execA E C (fg 55) B 42 E0 N c55_31) := x_seq (by rfl) s
theorem x55_23 : execA E C (fg 55) B 42 E0 N c55_23 s = seqX (execA E C (fg 55) B 42 E0 N c55_24 s) (execA E C (fg 55) B 42 E0 N c55_29) := x_seq (by rfl) s
theorem x55_17 : execA E C (fg 55) B 42 E0 N c55_17 s = seqX (execA E C (fg 55) B 42 E0 N c55_18 s) (execA E C (fg 55) B 42 E0 N c55_23) := x_seq (by rfl) s
theorem x55_11 : execA E C (fg 55) B 42 E0 N c55_11 s = seqX (execA E C (fg 55) B 42 E0 N c55_12 s) (execA E C (fg 55) B 42 E0 N c55_17) := x_seq (by rfl) s
noncomputable def c55_34 : Code := kR c55_10
theorem x55_34 : execA E C (fg 55) B 42 E0 N c55_34 s = some (.exit 0, s) := x_exit (by rfl) s
theorem x55_10 : execA E C (fg 55) B 42 E0 N c55_10 s = seqX (execA E C (fg 55) B 42 E0 N c55_11 s) (execA E C (fg 55) B 42 E0 N c55_34) := x_seq (by rfl) s
theorem x55_9 : execA E C (fg 55) B 42 E0 N c55_9 s = blockX 1 (fun s => (forget s.1 [1, 3], s.2)) (execA E C (fg 55) B 42 E0 N c55_10 s) := x_block (by rfl) (by rfl) s
theorem x55_8 : execA E C (fg 55) B 42 E0 N c55_8 s = blockX 2 (fun s => (forget s.1 [1, 12], s.2)) (execA E C (fg 55) B 42 E0 N c55_9 s) := x_block (by rfl) (by rfl) s
theorem x55_7 : execA E C (fg 55) B 42 E0 N c55_7 s = blockX 3 (fun s => (forget s.1 [1, 21], s.2)) (execA E C (fg 55) B 42 E0 N c55_8 s) := x_block (by rfl) (by rfl) s
noncomputable def c55_35 : Code := kR c55_6
noncomputable def c55_36 : Code := kL c55_35
noncomputable def c55_37 : Code := kL c55_36
noncomputable def r55_5 : Array Oper := kO c55_37
noncomputable def o55_5_0 : Oper := opN r55_5 0
theorem x55_37 : execA E C (fg 55) B 42 E0 N c55_37 s = regX (runA E C B 42 r55_5 r55_5.toList s) (fun s => gcM E0 [] (forget s.1 [], s.2)) := x_reg (ops := r55_5) (by rfl) (by rfl) s
theorem r55_5_l : r55_5.toList = [o55_5_0] := nrfl rfl
theorem s55_5_0 : stepA E C B 42 r55_5 o55_5_0 (φ, H) = some (fput φ 2 (.int .i64 1), H) := nrfl rfl
noncomputable def c55_38 : Code := kR c55_36
theorem x55_38 : execA E C (fg 55) B 42 E0 N c55_38 s = some (.ret, s) := x_ret (by rfl) s
theorem x55_36 : execA E C (fg 55) B 42 E0 N c55_36 s = seqX (execA E C (fg 55) B 42 E0 N c55_37 s) (execA E C (fg 55) B 42 E0 N c55_38) := x_seq (by rfl) s
noncomputable def c55_39 : Code := kR c55_35
theorem x55_39 : execA E C (fg 55) B 42 E0 N c55_39 s = some (.exit 0, s) := x_exit (by rfl) s
theorem x55_35 : execA E C (fg 55) B 42 E0 N c55_35 s = seqX (execA E C (fg 55) B 42 E0 N c55_36 s) (execA E C (fg 55) B 42 E0 N c55_39) := x_seq (by rfl) s
theorem x55_6 : execA E C (fg 55) B 42 E0 N c55_6 s = seqX (execA E C (fg 55) B 42 E0 N c55_7 s) (execA E C (fg 55) B 42 E0 N c55_35) := x_seq (by rfl) s
theorem x55_5 : execA E C (fg 55) B 42 E0 N c55_5 s = blockX 4 (fun s => (forget s.1 [36], s.2)) (execA E C (fg 55) B 42 E0 N c55_6 s) := x_block (by rfl) (by rfl) s
noncomputable def c55_40 : Code := kR c55_4
noncomputable def c55_41 : Code := kL c55_40
noncomputable def c55_42 : Code := kL c55_41
noncomputable def r55_6 : Array Oper := kO c55_42
noncomputable def o55_6_0 : Oper := opN r55_6 0
theorem x55_42 : execA E C (fg 55) B 42 E0 N c55_42 s = regX (runA E C B 42 r55_6 r55_6.toList s) (fun s => gcM E0 [] (forget s.1 [], s.2)) := x_reg (ops := r55_6) (by rfl) (by rfl) s
theorem r55_6_l : r55_6.toList = [o55_6_0] := nrfl rfl
theorem s55_6_0 : stepA E C B 42 r55_6 o55_6_0 (φ, H) = some (fput φ 2 (.int .i64 7), H) := nrfl rfl
noncomputable def c55_43 : Code := kR c55_41
theorem x55_43 : execA E C (fg 55) B 42 E0 N c55_43 s = some (.ret, s) := x_ret (by rfl) s
theorem x55_41 : execA E C (fg 55) B 42 E0 N c55_41 s = seqX (execA E C (fg 55) B 42 E0 N c55_42 s) (execA E C (fg 55) B 42 E0 N c55_43) := x_seq (by rfl) s
noncomputable def c55_44 : Code := kR c55_40
theorem x55_44 : execA E C (fg 55) B 42 E0 N c55_44 s = some (.exit 0, s) := x_exit (by rfl) s
theorem x55_40 : execA E C (fg 55) B 42 E0 N c55_40 s = seqX (execA E C (fg 55) B 42 E0 N c55_41 s) (execA E C (fg 55) B 42 E0 N c55_44) := x_seq (by rfl) s
theorem x55_4 : execA E C (fg 55) B 42 E0 N c55_4 s = seqX (execA E C (fg 55) B 42 E0 N c55_5 s) (execA E C (fg 55) B 42 E0 N c55_40) := x_seq (by rfl) s
theorem x55_3 : execA E C (fg 55) B 42 E0 N c55_3 s = blockX 0 (fun s => (forget s.1 [36], s.2)) (execA E C (fg 55) B 42 E0 N c55_4 s) := x_block (by rfl) (by rfl) s
noncomputable def c55_45 : Code := kR c55_2
noncomputable def c55_46 : Code := kL c55_45
noncomputable def r55_7 : Array Oper := kO c55_46
noncomputable def o55_7_0 : Oper := opN r55_7 0
theorem x55_46 : execA E C (fg 55) B 42 E0 N c55_46 s = regX (runA E C B 42 r55_7 r55_7.toList s) (fun s => gcM E0 [] (forget s.1 [], s.2)) := x_reg (ops := r55_7) (by rfl) (by rfl) s
theorem r55_7_l : r55_7.toList = [o55_7_0] := nrfl rfl
theorem s55_7_0 : stepA E C B 42 r55_7 o55_7_0 (φ, H) = some (fput φ 2 (.int .i64 0), H) := nrfl rfl
noncomputable def c55_47 : Code := kR c55_45
theorem x55_47 : execA E C (fg 55) B 42 E0 N c55_47 s = some (.ret, s) := x_ret (by rfl) s
theorem x55_45 : execA E C (fg 55) B 42 E0 N c55_45 s = seqX (execA E C (fg 55) B 42 E0 N c55_46 s) (execA E C (fg 55) B 42 E0 N c55_47) := x_seq (by rfl) s
theorem x55_2 : execA E C (fg 55) B 42 E0 N c55_2 s = seqX (execA E C (fg 55) B 42 E0 N c55_3 s) (execA E C (fg 55) B 42 E0 N c55_45) := x_seq (by rfl) s
theorem x55_0 : execA E C (fg 55) B 42 E0 N c55_0 s = seqX (execA E C (fg 55) B 42 E0 N c55_1 s) (execA E C (fg 55) B 42 E0 N c55_2) := x_seq (by rfl) s
theorem fi_55 : fInfo E 55 = some ⟨42, #[.tmp 2], c55_0⟩ := nrfl rfl
theorem b_55 (args : List AV) : bodyA E C fg N 55 args H B = bodyX E [.tmp 2] (execA E C (fg 55) B 42 H N c55_0 (frame0 args 0 [], H)) := bodyA_eq fi_55 args H
/-! ### f17: novaculite/prop.Check -/
noncomputable def c17_0 : Code := kBody Proofs.Try.f17
noncomputable def c17_1 : Code := kL c17_0
noncomputable def r17_0 : Array Oper := kO c17_1
noncomputable def o17_0_0 : Oper := opN r17_0 0
theorem x17_1 : execA E C (fg 17) B 26 E0 N c17_1 s = regX (runA E C B 26 r17_0 r17_0.toList s) (fun s => gcM E0 [2] (forget s.1 [2], s.2)) := x_reg (ops := r17_0) (by rfl) (by rfl) s
theorem r17_0_l : r17_0.toList = [o17_0_0] := nrfl rfl
theorem s17_0_0 : stepA E C B 26 r17_0 o17_0_0 (φ, H) = some (fput φ 2 (.int .i64 0), H) := nrfl rfl
noncomputable def c17_2 : Code := kR c17_0
noncomputable def c17_3 : Code := kL c17_2
noncomputable def c17_4 : Code := kB c17_3
noncomputable def c17_5 : Code := kL c17_4
noncomputable def r17_1 : Array Oper := kO c17_5
noncomputable def o17_1_0 : Oper := opN r17_1 0
noncomputable def o17_1_1 : Oper := opN r17_1 1
noncomputable def o17_1_2 : Oper := opN r17_1 2
noncomputable def o17_1_3 : Oper := opN r17_1 3
theorem x17_5 : execA E C (fg 17) B 26 E0 N c17_5 s = regX (runA E C B 26 r17_1 r17_1.toList s) (fun s => gcM E0 [7, 8, 9] (forget s.1 [7, 8, 9], s.2)) := x_reg (ops := r17_1) (by rfl) (by rfl) s
theorem r17_1_l : r17_1.toList = [o17_1_0, o17_1_1, o17_1_2, o17_1_3] := nrfl rfl
theorem s17_1_0 : stepA E C B 26 r17_1 o17_1_0 (φ, H) = some (fput φ 7 (fget φ 0), H) := nrfl rfl
theorem s17_1_1 : stepA E C B 26 r17_1 o17_1_1 (φ, H) = stp (some 8) φ H (aBuiltin E.T (B + 8) .len #[22] [(fget φ 7)]) := nrfl rfl
theorem s17_1_2 : stepA E C B 26 r17_1 o17_1_2 (φ, H) = stp (some 9) φ H (just (aBin E.T .eql 3 (fget φ 8) (.int .i64 0))) := nrfl rfl
theorem s17_1_3 : stepA E C B 26 r17_1 o17_1_3 (φ, H) = some (fput φ 6 (fget φ 9), H) := nrfl rfl
noncomputable def c17_6 : Code := kR c17_4
noncomputable def c17_7 : Code := kT c17_6
noncomputable def c17_8 : Code := kL c17_7
noncomputable def r17_2 : Array Oper := kO c17_8
noncomputable def o17_2_0 : Oper := opN r17_2 0
theorem x17_8 : execA E C (fg 17) B 26 E0 N c17_8 s = regX (runA E C B 26 r17_2 r17_2.toList s) (fun s => gcM E0 [0, 6] (forget s.1 [0, 6], s.2)) := x_reg (ops := r17_2) (by rfl) (by rfl) s
theorem r17_2_l : r17_2.toList = [o17_2_0] := nrfl rfl
theorem s17_2_0 : stepA E C B 26 r17_2 o17_2_0 (φ, H) = some (fput φ 2 (.int .i64 4), H) := nrfl rfl
noncomputable def c17_9 : Code := kR c17_7
theorem x17_9 : execA E C (fg 17) B 26 E0 N c17_9 s = some (.ret, s) := x_ret (by rfl) s
theorem x17_7 : execA E C (fg 17) B 26 E0 N c17_7 s = seqX (execA E C (fg 17) B 26 E0 N c17_8 s) (execA E C (fg 17) B 26 E0 N c17_9) := x_seq (by rfl) s
noncomputable def c17_10 : Code := kE c17_6
noncomputable def c17_11 : Code := kL c17_10
noncomputable def r17_3 : Array Oper := kO c17_11
noncomputable def o17_3_0 : Oper := opN r17_3 0
noncomputable def o17_3_1 : Oper := opN r17_3 1
noncomputable def o17_3_2 : Oper := opN r17_3 2
noncomputable def o17_3_3 : Oper := opN r17_3 3
theorem x17_11 : execA E C (fg 17) B 26 E0 N c17_11 s = regX (runA E C B 26 r17_3 r17_3.toList s) (fun s => gcM E0 [6, 11, 12, 13] (forget s.1 [6, 11, 12, 13], s.2)) := x_reg (ops := r17_3) (by rfl) (by rfl) s
theorem r17_3_l : r17_3.toList = [o17_3_0, o17_3_1, o17_3_2, o17_3_3] := nrfl rfl
theorem s17_3_0 : stepA E C B 26 r17_3 o17_3_0 (φ, H) = some (fput φ 11 (fget φ 0), H) := nrfl rfl
theorem s17_3_1 : stepA E C B 26 r17_3 o17_3_1 (φ, H) = stp (some 12) φ H (aBuiltin E.T (B + 12) .len #[22] [(fget φ 11)]) := nrfl rfl
theorem s17_3_2 : stepA E C B 26 r17_3 o17_3_2 (φ, H) = stp (some 13) φ H (just (aBin E.T .gtr 3 (fget φ 12) (.int .i64 5))) := nrfl rfl
theorem s17_3_3 : stepA E C B 26 r17_3 o17_3_3 (φ, H) = some (fput φ 10 (fget φ 13), H) := nrfl rfl
noncomputable def c17_12 : Code := kR c17_10
noncomputable def c17_13 : Code := kT c17_12
noncomputable def c17_14 : Code := kL c17_13
noncomputable def r17_4 : Array Oper := kO c17_14
noncomputable def o17_4_0 : Oper := opN r17_4 0
theorem x17_14 : execA E C (fg 17) B 26 E0 N c17_14 s = regX (runA E C B 26 r17_4 r17_4.toList s) (fun s => gcM E0 [0, 10] (forget s.1 [0, 10], s.2)) := x_reg (ops := r17_4) (by rfl) (by rfl) s
theorem r17_4_l : r17_4.toList = [o17_4_0] := nrfl rfl
theorem s17_4_0 : stepA E C B 26 r17_4 o17_4_0 (φ, H) = some (fput φ 2 (.int .i64 3), H) := nrfl rfl
noncomputable def c17_15 : Code := kR c17_13
theorem x17_15 : execA E C (fg 17) B 26 E0 N c17_15 s = some (.ret, s) := x_ret (by rfl) s
theorem x17_13 : execA E C (fg 17) B 26 E0 N c17_13 s = seqX (execA E C (fg 17) B 26 E0 N c17_14 s) (execA E C (fg 17) B 26 E0 N c17_15) := x_seq (by rfl) s
noncomputable def c17_16 : Code := kE c17_12
theorem x17_16 : execA E C (fg 17) B 26 E0 N c17_16 s = some (.normal, s) := x_skip (by rfl) s
theorem x17_12 : execA E C (fg 17) B 26 E0 N c17_12 (φ, H) = condX (fget φ 10) (execA E C (fg 17) B 26 E0 N c17_13 (φ, H)) (execA E C (fg 17) B 26 E0 N c17_16 (φ, H)) := x_cond (by rfl) _
theorem x17_10 : execA E C (fg 17) B 26 E0 N c17_10 s = seqX (execA E C (fg 17) B 26 E0 N c17_11 s) (execA E C (fg 17) B 26 E0 N c17_12) := x_seq (by rfl) s
theorem x17_6 : execA E C (fg 17) B 26 E0 N c17_6 (φ, H) = condX (fget φ 6) (execA E C (fg 17) B 26 E0 N c17_7 (φ, H)) (execA E C (fg 17) B 26 E0 N c17_10 (φ, H)) := x_cond (by rfl) _
theorem x17_4 : execA E C (fg 17) B 26 E0 N c17_4 s = seqX (execA E C (fg 17) B 26 E0 N c17_5 s) (execA E C (fg 17) B 26 E0 N c17_6) := x_seq (by rfl) s
theorem x17_3 : execA E C (fg 17) B 26 E0 N c17_3 s = blockX 0 (fun s => (forget s.1 [10], s.2)) (execA E C (fg 17) B 26 E0 N c17_4 s) := x_block (by rfl) (by rfl) s
noncomputable def c17_17 : Code := kR c17_2
noncomputable def c17_18 : Code := kL c17_17
noncomputable def c17_19 : Code := kL c17_18
noncomputable def r17_5 : Array Oper := kO c17_19
noncomputable def o17_5_0 : Oper := opN r17_5 0
noncomputable def o17_5_1 : Oper := opN r17_5 1
noncomputable def o17_5_2 : Oper := opN r17_5 2
theorem x17_19 : execA E C (fg 17) B 26 E0 N c17_19 s = regX (runA E C B 26 r17_5 r17_5.toList s) (fun s => gcM E0 [0] (forget s.1 [0], s.2)) := x_reg (ops := r17_5) (by rfl) (by rfl) s
theorem r17_5_l : r17_5.toList = [o17_5_0, o17_5_1, o17_5_2] := nrfl rfl
theorem s17_5_0 : stepA E C B 26 r17_5 o17_5_0 (φ, H) = some (fput φ 14 (fget φ 0), H) := nrfl rfl
theorem s17_5_1 : stepA E C B 26 r17_5 o17_5_1 (φ, H) = stp (some 15) φ H (aBuiltin E.T (B + 15) .len #[22] [(fget φ 14)]) := nrfl rfl
theorem s17_5_2 : stepA E C B 26 r17_5 o17_5_2 (φ, H) = some (fput φ 16 (.int .i64 0), H) := nrfl rfl
noncomputable def c17_20 : Code := kR c17_18
noncomputable def c17_21 : Code := kB c17_20
noncomputable def c17_22 : Code := kB c17_21
noncomputable def c17_23 : Code := kL c17_22
noncomputable def r17_6 : Array Oper := kO c17_23
noncomputable def o17_6_0 : Oper := opN r17_6 0
theorem x17_23 : execA E C (fg 17) B 26 E0 N c17_23 s = regX (runA E C B 26 r17_6 r17_6.toList s) (fun s => gcM E0 [] (forget s.1 [], s.2)) := x_reg (ops := r17_6) (by rfl) (by rfl) s
theorem r17_6_l : r17_6.toList = [o17_6_0] := nrfl rfl
theorem s17_6_0 : stepA E C B 26 r17_6 o17_6_0 (φ, H) = stp (some 17) φ H (just (aBin E.T .lss 3 (fget φ 16) (fget φ 15))) := nrfl rfl
noncomputable def c17_24 : Code := kR c17_22
noncomputable def c17_25 : Code := kL c17_24
noncomputable def c17_26 : Code := kT c17_25
theorem x17_26 : execA E C (fg 17) B 26 E0 N c17_26 s = some (.normal, s) := x_skip (by rfl) s
noncomputable def c17_27 : Code := kE c17_25
theorem x17_27 : execA E C (fg 17) B 26 E0 N c17_27 s = some (.exit 1, s) := x_exit (by rfl) s
theorem x17_25 : execA E C (fg 17) B 26 E0 N c17_25 (φ, H) = condX (fget φ 17) (execA E C (fg 17) B 26 E0 N c17_26 (φ, H)) (execA E C (fg 17) B 26 E0 N c17_27 (φ, H)) := x_cond (by rfl) _
noncomputable def c17_28 : Code := kR c17_24
noncomputable def c17_29 : Code := kL c17_28
noncomputable def c17_30 : Code := kB c17_29
noncomputable def c17_31 : Code := kL c17_30
noncomputable def r17_7 : Array Oper := kO c17_31
noncomputable def o17_7_0 : Oper := opN r17_7 0
noncomputable def o17_7_1 : Oper := opN r17_7 1
noncomputable def o17_7_2 : Oper := opN r17_7 2
noncomputable def o17_7_3 : Oper := opN r17_7 3
theorem x17_31 : execA E C (fg 17) B 26 E0 N c17_31 s = regX (runA E C B 26 r17_7 r17_7.toList s) (fun s => gcM E0 [17, 18, 19] (forget s.1 [17, 18, 19], s.2)) := x_reg (ops := r17_7) (by rfl) (by rfl) s
theorem r17_7_l : r17_7.toList = [o17_7_0, o17_7_1, o17_7_2, o17_7_3] := nrfl rfl
theorem s17_7_0 : stepA E C B 26 r17_7 o17_7_0 (φ, H) = stp (some 18) φ H (just (aIndexAddr E.T 22 (fget φ 14) (fget φ 16))) := nrfl rfl
theorem s17_7_1 : stepA E C B 26 r17_7 o17_7_1 (φ, H) = stp (some 19) φ H (just (aLoad E.T 56 (fget φ 18))) := nrfl rfl
theorem s17_7_2 : stepA E C B 26 r17_7 o17_7_2 (φ, H) = stp (some 4) φ H (opBox (B + 4) (zeroCells E.T 56)) := nrfl rfl
theorem s17_7_3 : stepA E C B 26 r17_7 o17_7_3 (φ, H) = stp none φ H (opStore E.T 56 (fget φ 4) (fget φ 19)) := nrfl rfl
noncomputable def c17_32 : Code := kR c17_30
noncomputable def c17_33 : Code := kL c17_32
noncomputable def r17_8 : Array Oper := kO c17_33
noncomputable def o17_8_0 : Oper := opN r17_8 0
noncomputable def o17_8_1 : Oper := opN r17_8 1
noncomputable def o17_8_2 : Oper := opN r17_8 2
theorem x17_33 : execA E C (fg 17) B 26 E0 N c17_33 s = regX (runA E C B 26 r17_8 r17_8.toList s) (fun s => gcM E0 [4, 20, 21] (forget s.1 [4, 20, 21], s.2)) := x_reg (ops := r17_8) (by rfl) (by rfl) s
theorem r17_8_l : r17_8.toList = [o17_8_0, o17_8_1, o17_8_2] := nrfl rfl
theorem s17_8_0 : stepA E C B 26 r17_8 o17_8_0 (φ, H) = stp (some 20) φ H (just (aLoad E.T 56 (fget φ 4))) := nrfl rfl
theorem s17_8_1 : stepA E C B 26 r17_8 o17_8_1 (φ, H) = stp (some 21) φ H (aCall C (fun j => B + j * 26 + 21) true 55 [(fget φ 20)]) := nrfl rfl
theorem s17_8_2 : stepA E C B 26 r17_8 o17_8_2 (φ, H) = some (fput φ 5 (fget φ 21), H) := nrfl rfl
noncomputable def c17_34 : Code := kR c17_32
noncomputable def c17_35 : Code := kL c17_34
noncomputable def r17_9 : Array Oper := kO c17_35
noncomputable def o17_9_0 : Oper := opN r17_9 0
noncomputable def o17_9_1 : Oper := opN r17_9 1
theorem x17_35 : execA E C (fg 17) B 26 E0 N c17_35 s = regX (runA E C B 26 r17_9 r17_9.toList s) (fun s => gcM E0 [22] (forget s.1 [22], s.2)) := x_reg (ops := r17_9) (by rfl) (by rfl) s
theorem r17_9_l : r17_9.toList = [o17_9_0, o17_9_1] := nrfl rfl
theorem s17_9_0 : stepA E C B 26 r17_9 o17_9_0 (φ, H) = some (fput φ 22 (fget φ 5), H) := nrfl rfl
theorem s17_9_1 : stepA E C B 26 r17_9 o17_9_1 (φ, H) = stp (some 23) φ H (just (aBin E.T .neq 27 (fget φ 22) (.int .i64 0))) := nrfl rfl
noncomputable def c17_36 : Code := kR c17_34
noncomputable def c17_37 : Code := kT c17_36
noncomputable def c17_38 : Code := kL c17_37
noncomputable def r17_10 : Array Oper := kO c17_38
noncomputable def o17_10_0 : Oper := opN r17_10 0
noncomputable def o17_10_1 : Oper := opN r17_10 1
theorem x17_38 : execA E C (fg 17) B 26 E0 N c17_38 s = regX (runA E C B 26 r17_10 r17_10.toList s) (fun s => gcM E0 [5, 14, 15, 16, 23, 24] (forget s.1 [5, 14, 15, 16, 23, 24], s.2)) := x_reg (ops := r17_10) (by rfl) (by rfl) s
theorem r17_10_l : r17_10.toList = [o17_10_0, o17_10_1] := nrfl rfl
theorem s17_10_0 : stepA E C B 26 r17_10 o17_10_0 (φ, H) = some (fput φ 24 (fget φ 5), H) := nrfl rfl
theorem s17_10_1 : stepA E C B 26 r17_10 o17_10_1 (φ, H) = some (fput φ 2 (fget φ 24), H) := nrfl rfl
noncomputable def c17_39 : Code := kR c17_37
theorem x17_39 : execA E C (fg 17) B 26 E0 N c17_39 s = some (.ret, s) := x_ret (by rfl) s
theorem x17_37 : execA E C (fg 17) B 26 E0 N c17_37 s = seqX (execA E C (fg 17) B 26 E0 N c17_38 s) (execA E C (fg 17) B 26 E0 N c17_39) := x_seq (by rfl) s
noncomputable def c17_40 : Code := kE c17_36
theorem x17_40 : execA E C (fg 17) B 26 E0 N c17_40 s = some (.normal, s) := x_skip (by rfl) s
theorem x17_36 : execA E C (fg 17) B 26 E0 N c17_36 (φ, H) = condX (fget φ 23) (execA E C (fg 17) B 26 E0 N c17_37 (φ, H)) (execA E C (fg 17) B 26 E0 N c17_40 (φ, H)) := x_cond (by rfl) _
theorem x17_34 : execA E C (fg 17) B 26 E0 N c17_34 s = seqX (execA E C (fg 17) B 26 E0 N c17_35 s) (execA E C (fg 17) B 26 E0 N c17_36) := x_seq (by rfl) s
theorem x17_32 : execA E C (fg 17) B 26 E0 N c17_32 s = seqX (execA E C (fg 17) B 26 E0 N c17_33 s) (execA E C (fg 17) B 26 E0 N c17_34) := x_seq (by rfl) s
theorem x17_30 : execA E C (fg 17) B 26 E0 N c17_30 s = seqX (execA E C (fg 17) B 26 E0 N c17_31 s) (execA E C (fg 17) B 26 E0 N c17_32) := x_seq (by rfl) s
theorem x17_29 : execA E C (fg 17) B 26 E0 N c17_29 s = blockX 2 (fun s => (forget s.1 [5, 23], s.2)) (execA E C (fg 17) B 26 E0 N c17_30 s) := x_block (by rfl) (by rfl) s
noncomputable def c17_41 : Code := kR c17_28
noncomputable def r17_11 : Array Oper := kO c17_41
noncomputable def o17_11_0 : Oper := opN r17_11 0
noncomputable def o17_11_1 : Oper := opN r17_11 1
theorem x17_41 : execA E C (fg 17) B 26 E0 N c17_41 s = regX (runA E C B 26 r17_11 r17_11.toList s) (fun s => gcM E0 [25] (forget s.1 [25], s.2)) := x_reg (ops := r17_11) (by rfl) (by rfl) s
theorem r17_11_l : r17_11.toList = [o17_11_0, o17_11_1] := nrfl rfl
theorem s17_11_0 : stepA E C B 26 r17_11 o17_11_0 (φ, H) = stp (some 25) φ H (just (aBin E.T .add 3 (fget φ 16) (.int .i64 1))) := nrfl rfl
theorem s17_11_1 : stepA E C B 26 r17_11 o17_11_1 (φ, H) = some (fput φ 16 (fget φ 25), H) := nrfl rfl
theorem x17_28 : execA E C (fg 17) B 26 E0 N c17_28 s = seqX (execA E C (fg 17) B 26 E0 N c17_29 s) (execA E C (fg 17) B 26 E0 N c17_41) := x_seq (by rfl) s
theorem x17_24 : execA E C (fg 17) B 26 E0 N c17_24 s = seqX (execA E C (fg 17) B 26 E0 N c17_25 s) (execA E C (fg 17) B 26 E0 N c17_28) := x_seq (by rfl) s
theorem x17_22 : execA E C (fg 17) B 26 E0 N c17_22 s = seqX (execA E C (fg 17) B 26 E0 N c17_23 s) (execA E C (fg 17) B 26 E0 N c17_24) := x_seq (by rfl) s
-- a loop of f17: x17_21; body c17_22; slots [16, 15, 14]
theorem x17_21 : execA E C (fg 17) B 26 E0 N c17_21 s = iterA (execA E C (fg 17) B 26 E0 N c17_22) (headA E0) N s := x_loop (by rfl) s
theorem x17_20 : execA E C (fg 17) B 26 E0 N c17_20 s = blockX 1 (fun s => (forget s.1 [14, 15, 16, 17], s.2)) (execA E C (fg 17) B 26 E0 N c17_21 s) := x_block (by rfl) (by rfl) s
theorem x17_18 : execA E C (fg 17) B 26 E0 N c17_18 s = seqX (execA E C (fg 17) B 26 E0 N c17_19 s) (execA E C (fg 17) B 26 E0 N c17_20) := x_seq (by rfl) s
noncomputable def c17_42 : Code := kR c17_17
noncomputable def c17_43 : Code := kL c17_42
noncomputable def r17_12 : Array Oper := kO c17_43
noncomputable def o17_12_0 : Oper := opN r17_12 0
theorem x17_43 : execA E C (fg 17) B 26 E0 N c17_43 s = regX (runA E C B 26 r17_12 r17_12.toList s) (fun s => gcM E0 [] (forget s.1 [], s.2)) := x_reg (ops := r17_12) (by rfl) (by rfl) s
theorem r17_12_l : r17_12.toList = [o17_12_0] := nrfl rfl
theorem s17_12_0 : stepA E C B 26 r17_12 o17_12_0 (φ, H) = some (fput φ 2 (.int .i64 0), H) := nrfl rfl
noncomputable def c17_44 : Code := kR c17_42
theorem x17_44 : execA E C (fg 17) B 26 E0 N c17_44 s = some (.ret, s) := x_ret (by rfl) s
theorem x17_42 : execA E C (fg 17) B 26 E0 N c17_42 s = seqX (execA E C (fg 17) B 26 E0 N c17_43 s) (execA E C (fg 17) B 26 E0 N c17_44) := x_seq (by rfl) s
theorem x17_17 : execA E C (fg 17) B 26 E0 N c17_17 s = seqX (execA E C (fg 17) B 26 E0 N c17_18 s) (execA E C (fg 17) B 26 E0 N c17_42) := x_seq (by rfl) s
theorem x17_2 : execA E C (fg 17) B 26 E0 N c17_2 s = seqX (execA E C (fg 17) B 26 E0 N c17_3 s) (execA E C (fg 17) B 26 E0 N c17_17) := x_seq (by rfl) s
theorem x17_0 : execA E C (fg 17) B 26 E0 N c17_0 s = seqX (execA E C (fg 17) B 26 E0 N c17_1 s) (execA E C (fg 17) B 26 E0 N c17_2) := x_seq (by rfl) s
theorem fi_17 : fInfo E 17 = some ⟨26, #[.tmp 2], c17_0⟩ := nrfl rfl
theorem b_17 (args : List AV) : bodyA E C fg N 17 args H B = bodyX E [.tmp 2] (execA E C (fg 17) B 26 H N c17_0 (frame0 args 0 [], H)) := bodyA_eq fi_17 args H
/-! ### f83: (novaculite/prop.row[novaculite/prop.Stone]).sum -/
noncomputable def c83_0 : Code := kBody Proofs.Try.f83
noncomputable def c83_1 : Code := kL c83_0
noncomputable def r83_0 : Array Oper := kO c83_1
noncomputable def o83_0_0 : Oper := opN r83_0 0
theorem x83_1 : execA E C (fg 83) B 26 E0 N c83_1 s = regX (runA E C B 26 r83_0 r83_0.toList s) (fun s => gcM E0 [6] (forget s.1 [6], s.2)) := x_reg (ops := r83_0) (by rfl) (by rfl) s
theorem r83_0_l : r83_0.toList = [o83_0_0] := nrfl rfl
theorem s83_0_0 : stepA E C B 26 r83_0 o83_0_0 (φ, H) = some (fput φ 6 (.int .i64 0), H) := nrfl rfl
noncomputable def c83_2 : Code := kR c83_0
noncomputable def c83_3 : Code := kL c83_2
noncomputable def r83_1 : Array Oper := kO c83_3
noncomputable def o83_1_0 : Oper := opN r83_1 0
theorem x83_3 : execA E C (fg 83) B 26 E0 N c83_3 s = regX (runA E C B 26 r83_1 r83_1.toList s) (fun s => gcM E0 [] (forget s.1 [], s.2)) := x_reg (ops := r83_1) (by rfl) (by rfl) s
theorem r83_1_l : r83_1.toList = [o83_1_0] := nrfl rfl
theorem s83_1_0 : stepA E C B 26 r83_1 o83_1_0 (φ, H) = some (fput φ 7 (.int .i64 0), H) := nrfl rfl
noncomputable def c83_4 : Code := kR c83_2
noncomputable def c83_5 : Code := kL c83_4
noncomputable def c83_6 : Code := kL c83_5
noncomputable def r83_2 : Array Oper := kO c83_6
noncomputable def o83_2_0 : Oper := opN r83_2 0
noncomputable def o83_2_1 : Oper := opN r83_2 1
theorem x83_6 : execA E C (fg 83) B 26 E0 N c83_6 s = regX (runA E C B 26 r83_2 r83_2.toList s) (fun s => gcM E0 [1, 9] (forget s.1 [1, 9], s.2)) := x_reg (ops := r83_2) (by rfl) (by rfl) s
theorem r83_2_l : r83_2.toList = [o83_2_0, o83_2_1] := nrfl rfl
theorem s83_2_0 : stepA E C B 26 r83_2 o83_2_0 (φ, H) = some (fput φ 9 (fget φ 1), H) := nrfl rfl
theorem s83_2_1 : stepA E C B 26 r83_2 o83_2_1 (φ, H) = some (fput φ 8 (fget φ 9), H) := nrfl rfl
noncomputable def c83_7 : Code := kR c83_5
noncomputable def c83_8 : Code := kB c83_7
noncomputable def c83_9 : Code := kB c83_8
noncomputable def c83_10 : Code := kL c83_9
noncomputable def c83_11 : Code := kL c83_10
noncomputable def r83_3 : Array Oper := kO c83_11
noncomputable def o83_3_0 : Oper := opN r83_3 0
noncomputable def o83_3_1 : Oper := opN r83_3 1
noncomputable def o83_3_2 : Oper := opN r83_3 2
noncomputable def o83_3_3 : Oper := opN r83_3 3
theorem x83_11 : execA E C (fg 83) B 26 E0 N c83_11 s = regX (runA E C B 26 r83_3 r83_3.toList s) (fun s => gcM E0 [10, 11, 12] (forget s.1 [10, 11, 12], s.2)) := x_reg (ops := r83_3) (by rfl) (by rfl) s
theorem r83_3_l : r83_3.toList = [o83_3_0, o83_3_1, o83_3_2, o83_3_3] := nrfl rfl
theorem s83_3_0 : stepA E C B 26 r83_3 o83_3_0 (φ, H) = some (fput φ 10 (fget φ 8), H) := nrfl rfl
theorem s83_3_1 : stepA E C B 26 r83_3 o83_3_1 (φ, H) = some (fput φ 11 (fget φ 0), H) := nrfl rfl
theorem s83_3_2 : stepA E C B 26 r83_3 o83_3_2 (φ, H) = stp (some 12) φ H (aBuiltin E.T (B + 12) .len #[121] [(fget φ 11)]) := nrfl rfl
theorem s83_3_3 : stepA E C B 26 r83_3 o83_3_3 (φ, H) = stp (some 13) φ H (just (aBin E.T .lss 3 (fget φ 10) (fget φ 12))) := nrfl rfl
noncomputable def c83_12 : Code := kR c83_10
noncomputable def c83_13 : Code := kT c83_12
theorem x83_13 : execA E C (fg 83) B 26 E0 N c83_13 s = some (.normal, s) := x_skip (by rfl) s
noncomputable def c83_14 : Code := kE c83_12
theorem x83_14 : execA E C (fg 83) B 26 E0 N c83_14 s = some (.exit 0, s) := x_exit (by rfl) s
theorem x83_12 : execA E C (fg 83) B 26 E0 N c83_12 (φ, H) = condX (fget φ 13) (execA E C (fg 83) B 26 E0 N c83_13 (φ, H)) (execA E C (fg 83) B 26 E0 N c83_14 (φ, H)) := x_cond (by rfl) _
theorem x83_10 : execA E C (fg 83) B 26 E0 N c83_10 s = seqX (execA E C (fg 83) B 26 E0 N c83_11 s) (execA E C (fg 83) B 26 E0 N c83_12) := x_seq (by rfl) s
noncomputable def c83_15 : Code := kR c83_9
noncomputable def c83_16 : Code := kL c83_15
noncomputable def c83_17 : Code := kB c83_16
noncomputable def r83_5 : Array Oper := kO c83_17
noncomputable def o83_5_0 : Oper := opN r83_5 0
noncomputable def o83_5_1 : Oper := opN r83_5 1
noncomputable def o83_5_2 : Oper := opN r83_5 2
noncomputable def o83_5_3 : Oper := opN r83_5 3
noncomputable def o83_5_4 : Oper := opN r83_5 4
noncomputable def o83_5_5 : Oper := opN r83_5 5
noncomputable def o83_5_6 : Oper := opN r83_5 6
noncomputable def o83_5_7 : Oper := opN r83_5 7
noncomputable def o83_5_8 : Oper := opN r83_5 8
noncomputable def o83_5_9 : Oper := opN r83_5 9
theorem x83_17 : execA E C (fg 83) B 26 E0 N c83_17 s = regX (runA E C B 26 r83_5 r83_5.toList s) (fun s => gcM E0 [13, 16, 17, 18, 19, 20, 21, 22, 23, 24] (forget s.1 [13, 16, 17, 18, 19, 20, 21, 22, 23, 24], s.2)) := x_reg (ops := r83_5) (by rfl) (by rfl) s
theorem r83_5_l : r83_5.toList = [o83_5_0, o83_5_1, o83_5_2, o83_5_3, o83_5_4, o83_5_5, o83_5_6, o83_5_7, o83_5_8, o83_5_9] := nrfl rfl
theorem s83_5_0 : stepA E C B 26 r83_5 o83_5_0 (φ, H) = some (fput φ 16 (fget φ 7), H) := nrfl rfl
theorem s83_5_1 : stepA E C B 26 r83_5 o83_5_1 (φ, H) = some (fput φ 17 (fget φ 2), H) := nrfl rfl
theorem s83_5_2 : stepA E C B 26 r83_5 o83_5_2 (φ, H) = some (fput φ 18 (fget φ 8), H) := nrfl rfl
theorem s83_5_3 : stepA E C B 26 r83_5 o83_5_3 (φ, H) = some (fput φ 19 (fget φ 0), H) := nrfl rfl
theorem s83_5_4 : stepA E C B 26 r83_5 o83_5_4 (φ, H) = some (fput φ 20 (fget φ 8), H) := nrfl rfl
theorem s83_5_5 : stepA E C B 26 r83_5 o83_5_5 (φ, H) = stp (some 21) φ H (just (aIndexAddr E.T 121 (fget φ 19) (fget φ 20))) := nrfl rfl
theorem s83_5_6 : stepA E C B 26 r83_5 o83_5_6 (φ, H) = stp (some 22) φ H (just (aLoad E.T 56 (fget φ 21))) := nrfl rfl
theorem s83_5_7 : stepA E C B 26 r83_5 o83_5_7 (φ, H) = callV E C (B + 26 * 8) (some 23) (fun j => B + j * 26 + 23) φ H (fget φ 17) [(fget φ 18), (fget φ 22)] true := nrfl rfl
theorem s83_5_8 : stepA E C B 26 r83_5 o83_5_8 (φ, H) = stp (some 24) φ H (just (aBin E.T .add 3 (fget φ 16) (fget φ 23))) := nrfl rfl
theorem s83_5_9 : stepA E C B 26 r83_5 o83_5_9 (φ, H) = some (fput φ 7 (fget φ 24), H) := nrfl rfl
theorem x83_16 : execA E C (fg 83) B 26 E0 N c83_16 s = blockX 1 (fun s => (forget s.1 [], s.2)) (execA E C (fg 83) B 26 E0 N c83_17 s) := x_block (by rfl) (by rfl) s
noncomputable def c83_18 : Code := kR c83_15
noncomputable def r83_4 : Array Oper := kO c83_18
noncomputable def o83_4_0 : Oper := opN r83_4 0
noncomputable def o83_4_1 : Oper := opN r83_4 1
noncomputable def o83_4_2 : Oper := opN r83_4 2
theorem x83_18 : execA E C (fg 83) B 26 E0 N c83_18 s = regX (runA E C B 26 r83_4 r83_4.toList s) (fun s => gcM E0 [14, 15] (forget s.1 [14, 15], s.2)) := x_reg (ops := r83_4) (by rfl) (by rfl) s
theorem r83_4_l : r83_4.toList = [o83_4_0, o83_4_1, o83_4_2] := nrfl rfl
theorem s83_4_0 : stepA E C B 26 r83_4 o83_4_0 (φ, H) = some (fput φ 14 (fget φ 8), H) := nrfl rfl
theorem s83_4_1 : stepA E C B 26 r83_4 o83_4_1 (φ, H) = stp (some 15) φ H (just (aBin E.T .add 3 (fget φ 14) (.int .i64 1))) := nrfl rfl
theorem s83_4_2 : stepA E C B 26 r83_4 o83_4_2 (φ, H) = some (fput φ 8 (fget φ 15), H) := nrfl rfl
theorem x83_15 : execA E C (fg 83) B 26 E0 N c83_15 s = seqX (execA E C (fg 83) B 26 E0 N c83_16 s) (execA E C (fg 83) B 26 E0 N c83_18) := x_seq (by rfl) s
theorem x83_9 : execA E C (fg 83) B 26 E0 N c83_9 s = seqX (execA E C (fg 83) B 26 E0 N c83_10 s) (execA E C (fg 83) B 26 E0 N c83_15) := x_seq (by rfl) s
-- a loop of f83: x83_8; body c83_9; slots [8, 7, 2, 0]
theorem x83_8 : execA E C (fg 83) B 26 E0 N c83_8 s = iterA (execA E C (fg 83) B 26 E0 N c83_9) (headA E0) N s := x_loop (by rfl) s
theorem x83_7 : execA E C (fg 83) B 26 E0 N c83_7 s = blockX 0 (fun s => (forget s.1 [0, 2, 8, 13], s.2)) (execA E C (fg 83) B 26 E0 N c83_8 s) := x_block (by rfl) (by rfl) s
theorem x83_5 : execA E C (fg 83) B 26 E0 N c83_5 s = seqX (execA E C (fg 83) B 26 E0 N c83_6 s) (execA E C (fg 83) B 26 E0 N c83_7) := x_seq (by rfl) s
noncomputable def c83_19 : Code := kR c83_4
noncomputable def c83_20 : Code := kL c83_19
noncomputable def r83_6 : Array Oper := kO c83_20
noncomputable def o83_6_0 : Oper := opN r83_6 0
noncomputable def o83_6_1 : Oper := opN r83_6 1
theorem x83_20 : execA E C (fg 83) B 26 E0 N c83_20 s = regX (runA E C B 26 r83_6 r83_6.toList s) (fun s => gcM E0 [7, 25] (forget s.1 [7, 25], s.2)) := x_reg (ops := r83_6) (by rfl) (by rfl) s
theorem r83_6_l : r83_6.toList = [o83_6_0, o83_6_1] := nrfl rfl
theorem s83_6_0 : stepA E C B 26 r83_6 o83_6_0 (φ, H) = some (fput φ 25 (fget φ 7), H) := nrfl rfl
theorem s83_6_1 : stepA E C B 26 r83_6 o83_6_1 (φ, H) = some (fput φ 6 (fget φ 25), H) := nrfl rfl
noncomputable def c83_21 : Code := kR c83_19
theorem x83_21 : execA E C (fg 83) B 26 E0 N c83_21 s = some (.ret, s) := x_ret (by rfl) s
theorem x83_19 : execA E C (fg 83) B 26 E0 N c83_19 s = seqX (execA E C (fg 83) B 26 E0 N c83_20 s) (execA E C (fg 83) B 26 E0 N c83_21) := x_seq (by rfl) s
theorem x83_4 : execA E C (fg 83) B 26 E0 N c83_4 s = seqX (execA E C (fg 83) B 26 E0 N c83_5 s) (execA E C (fg 83) B 26 E0 N c83_19) := x_seq (by rfl) s
theorem x83_2 : execA E C (fg 83) B 26 E0 N c83_2 s = seqX (execA E C (fg 83) B 26 E0 N c83_3 s) (execA E C (fg 83) B 26 E0 N c83_4) := x_seq (by rfl) s
theorem x83_0 : execA E C (fg 83) B 26 E0 N c83_0 s = seqX (execA E C (fg 83) B 26 E0 N c83_1 s) (execA E C (fg 83) B 26 E0 N c83_2) := x_seq (by rfl) s
theorem fi_83 : fInfo E 83 = some ⟨26, #[.tmp 6], c83_0⟩ := nrfl rfl
theorem b_83 (args : List AV) : bodyA E C fg N 83 args H B = bodyX E [.tmp 6] (execA E C (fg 83) B 26 H N c83_0 (frame0 args 0 [], H)) := bodyA_eq fi_83 args H
/-! ### f84: novaculite/prop.may$1 -/
noncomputable def c84_0 : Code := kBody Proofs.Try.f84
noncomputable def c84_1 : Code := kL c84_0
noncomputable def r84_0 : Array Oper := kO c84_1
noncomputable def o84_0_0 : Oper := opN r84_0 0
noncomputable def o84_0_1 : Oper := opN r84_0 1
theorem x84_1 : execA E C (fg 84) B 15 E0 N c84_1 s = regX (runA E C B 15 r84_0 r84_0.toList s) (fun s => gcM E0 [0, 1, 5] (forget s.1 [0, 1, 5], s.2)) := x_reg (ops := r84_0) (by rfl) (by rfl) s
theorem r84_0_l : r84_0.toList = [o84_0_0, o84_0_1] := nrfl rfl
theorem s84_0_0 : stepA E C B 15 r84_0 o84_0_0 (φ, H) = stp (some 4) φ H (opBox (B + 4) (acells (fget φ 1))) := nrfl rfl
theorem s84_0_1 : stepA E C B 15 r84_0 o84_0_1 (φ, H) = some (fput φ 5 (.int .i64 0), H) := nrfl rfl
noncomputable def c84_2 : Code := kR c84_0
noncomputable def c84_3 : Code := kL c84_2
noncomputable def r84_1 : Array Oper := kO c84_3
noncomputable def o84_1_0 : Oper := opN r84_1 0
noncomputable def o84_1_1 : Oper := opN r84_1 1
noncomputable def o84_1_2 : Oper := opN r84_1 2
noncomputable def o84_1_3 : Oper := opN r84_1 3
noncomputable def o84_1_4 : Oper := opN r84_1 4
noncomputable def o84_1_5 : Oper := opN r84_1 5
noncomputable def o84_1_6 : Oper := opN r84_1 6
noncomputable def o84_1_7 : Oper := opN r84_1 7
noncomputable def o84_1_8 : Oper := opN r84_1 8
noncomputable def o84_1_9 : Oper := opN r84_1 9
theorem x84_3 : execA E C (fg 84) B 15 E0 N c84_3 s = regX (drawA E C B 15 r84_1 s) (fun s => gcM E0 [2, 4, 6, 7, 8, 9, 10, 11, 12, 13, 14] (forget s.1 [2, 4, 6, 7, 8, 9, 10, 11, 12, 13, 14], s.2)) := x_draw (ops := r84_1) (by rfl) (by rfl) s
theorem r84_1_l : r84_1.toList = [o84_1_0, o84_1_1, o84_1_2, o84_1_3, o84_1_4, o84_1_5, o84_1_6, o84_1_7, o84_1_8, o84_1_9] := nrfl rfl
theorem r84_1_st : statOk r84_1 = true := by kernel_rfl
theorem r84_1_dr : drawA E C B 15 r84_1 s = if neat 15 s = true then drX r84_1 (runT E C B 15 r84_1 r84_1.toList 0 s) else none := draw_eq r84_1_st s
theorem r84_1_an (l : List (Nat × Tr)) : dynOk r84_1 l = (!writing l || dynPairs [[], [], [], [1, 2], [0, 1, 2, 3], [], [], [0, 1, 2, 3, 4, 5, 6], [0, 1, 2, 3, 4, 5, 6, 7], [0, 1, 2, 3, 4, 5, 6, 7, 8]] (touching l)) := dynOk_eq (by kernel_rfl) l
theorem s84_1_0 : stepT E C B 15 r84_1 o84_1_0 (φ, H) = stpT (some 6) φ H (just (aLoad E.T 56 (fget φ 4))) := stT_go rfl (goT_R rfl rfl)
theorem s84_1_1 : stepT E C B 15 r84_1 o84_1_1 (φ, H) = stpT (some 7) φ H (just (aLoad E.T 85 (fget φ 2))) := stT_go rfl (goT_R rfl rfl)
theorem s84_1_2 : stepT E C B 15 r84_1 o84_1_2 (φ, H) = stpT (some 8) φ H (just (aLoad E.T 56 (fget φ 4))) := stT_go rfl (goT_R rfl rfl)
theorem s84_1_3 : stepT E C B 15 r84_1 o84_1_3 (φ, H) = callVT E C (B + 15 * 8) (some 9) (fun j => B + j * 15 + 9) φ H (fget φ 7) [(fget φ 8)] true := stT_go rfl (goT_V rfl rfl)
theorem s84_1_4 : stepT E C B 15 r84_1 o84_1_4 (φ, H) = stpT (some 10) φ H (aCall C (fun j => B + j * 15 + 10) true 48 [(fget φ 6), (fget φ 9)]) := stT_go rfl (goT_R rfl rfl)
theorem s84_1_5 : stepT E C B 15 r84_1 o84_1_5 (φ, H) = stpT (some 11) φ H (just (aLoad E.T 85 (fget φ 2))) := stT_go rfl (goT_R rfl rfl)
theorem s84_1_6 : stepT E C B 15 r84_1 o84_1_6 (φ, H) = stpT (some 12) φ H (just (aLoad E.T 56 (fget φ 4))) := stT_go rfl (goT_R rfl rfl)
theorem s84_1_7 : stepT E C B 15 r84_1 o84_1_7 (φ, H) = callVT E C (B + 15 * 8) (some 13) (fun j => B + j * 15 + 13) φ H (fget φ 11) [(fget φ 12)] true := stT_go rfl (goT_V rfl rfl)
theorem s84_1_8 : stepT E C B 15 r84_1 o84_1_8 (φ, H) = stpT (some 14) φ H (just (aBin E.T .mul 3 (fget φ 10) (fget φ 13))) := stT_go rfl (goT_R rfl rfl)
theorem s84_1_9 : stepT E C B 15 r84_1 o84_1_9 (φ, H) = some ((fput φ 5 (fget φ 14), H), ⟨false, [], []⟩) := stT_go rfl (goT_mv rfl rfl)
noncomputable def c84_4 : Code := kR c84_2
theorem x84_4 : execA E C (fg 84) B 15 E0 N c84_4 s = some (.ret, s) := x_ret (by rfl) s
theorem x84_2 : execA E C (fg 84) B 15 E0 N c84_2 s = seqX (execA E C (fg 84) B 15 E0 N c84_3 s) (execA E C (fg 84) B 15 E0 N c84_4) := x_seq (by rfl) s
theorem x84_0 : execA E C (fg 84) B 15 E0 N c84_0 s = seqX (execA E C (fg 84) B 15 E0 N c84_1 s) (execA E C (fg 84) B 15 E0 N c84_2) := x_seq (by rfl) s
theorem fi_84 : fInfo E 84 = some ⟨15, #[.tmp 5], c84_0⟩ := nrfl rfl
theorem b_84 (args : List AV) : bodyA E C fg N 84 args H B = bodyX E [.tmp 5] (execA E C (fg 84) B 15 H N c84_0 (frame0 args 0 [], H)) := bodyA_eq fi_84 args H
/-! ### f77: novaculite/prop.beyond$1 -/
noncomputable def c77_0 : Code := kBody Proofs.Try.f77
noncomputable def c77_1 : Code := kL c77_0
noncomputable def r77_0 : Array Oper := kO c77_1
noncomputable def o77_0_0 : Oper := opN r77_0 0
noncomputable def o77_0_1 : Oper := opN r77_0 1
theorem x77_1 : execA E C (fg 77) B 16 E0 N c77_1 s = regX (runA E C B 16 r77_0 r77_0.toList s) (fun s => gcM E0 [0, 5] (forget s.1 [0, 5], s.2)) := x_reg (ops := r77_0) (by rfl) (by rfl) s
theorem r77_0_l : r77_0.toList = [o77_0_0, o77_0_1] := nrfl rfl
theorem s77_0_0 : stepA E C B 16 r77_0 o77_0_0 (φ, H) = stp (some 4) φ H (opBox (B + 4) (acells (fget φ 0))) := nrfl rfl
theorem s77_0_1 : stepA E C B 16 r77_0 o77_0_1 (φ, H) = some (fput φ 5 (.int .i64 0), H) := nrfl rfl
noncomputable def c77_2 : Code := kR c77_0
noncomputable def c77_3 : Code := kL c77_2
noncomputable def c77_4 : Code := kL c77_3
noncomputable def r77_1 : Array Oper := kO c77_4
noncomputable def o77_1_0 : Oper := opN r77_1 0
noncomputable def o77_1_1 : Oper := opN r77_1 1
theorem x77_4 : execA E C (fg 77) B 16 E0 N c77_4 s = regX (runA E C B 16 r77_1 r77_1.toList s) (fun s => gcM E0 [1, 6] (forget s.1 [1, 6], s.2)) := x_reg (ops := r77_1) (by rfl) (by rfl) s
theorem r77_1_l : r77_1.toList = [o77_1_0, o77_1_1] := nrfl rfl
theorem s77_1_0 : stepA E C B 16 r77_1 o77_1_0 (φ, H) = stp (some 6) φ H (just (aLoad E.T 3 (fget φ 1))) := nrfl rfl
theorem s77_1_1 : stepA E C B 16 r77_1 o77_1_1 (φ, H) = stp (some 7) φ H (just (aBin E.T .gtr 3 (fget φ 6) (.int .i64 0))) := nrfl rfl
noncomputable def c77_5 : Code := kR c77_3
noncomputable def c77_6 : Code := kT c77_5
noncomputable def c77_7 : Code := kL c77_6
noncomputable def r77_2 : Array Oper := kO c77_7
noncomputable def o77_2_0 : Oper := opN r77_2 0
noncomputable def o77_2_1 : Oper := opN r77_2 1
noncomputable def o77_2_2 : Oper := opN r77_2 2
noncomputable def o77_2_3 : Oper := opN r77_2 3
noncomputable def o77_2_4 : Oper := opN r77_2 4
theorem x77_7 : execA E C (fg 77) B 16 E0 N c77_7 s = regX (runA E C B 16 r77_2 r77_2.toList s) (fun s => gcM E0 [2, 3, 4, 7, 8, 9, 10, 11] (forget s.1 [2, 3, 4, 7, 8, 9, 10, 11], s.2)) := x_reg (ops := r77_2) (by rfl) (by rfl) s
theorem r77_2_l : r77_2.toList = [o77_2_0, o77_2_1, o77_2_2, o77_2_3, o77_2_4] := nrfl rfl
theorem s77_2_0 : stepA E C B 16 r77_2 o77_2_0 (φ, H) = stp (some 8) φ H (just (aFieldAddr E.T 56 (fget φ 4) 1)) := nrfl rfl
theorem s77_2_1 : stepA E C B 16 r77_2 o77_2_1 (φ, H) = stp (some 9) φ H (just (aLoad E.T 3 (fget φ 8))) := nrfl rfl
theorem s77_2_2 : stepA E C B 16 r77_2 o77_2_2 (φ, H) = stp (some 10) φ H (just (aLoad E.T 3 (fget φ 2))) := nrfl rfl
theorem s77_2_3 : stepA E C B 16 r77_2 o77_2_3 (φ, H) = stp (some 11) φ H (just (aBin E.T .sub 3 (fget φ 9) (fget φ 10))) := nrfl rfl
theorem s77_2_4 : stepA E C B 16 r77_2 o77_2_4 (φ, H) = some (fput φ 5 (fget φ 11), H) := nrfl rfl
noncomputable def c77_8 : Code := kR c77_6
theorem x77_8 : execA E C (fg 77) B 16 E0 N c77_8 s = some (.ret, s) := x_ret (by rfl) s
theorem x77_6 : execA E C (fg 77) B 16 E0 N c77_6 s = seqX (execA E C (fg 77) B 16 E0 N c77_7 s) (execA E C (fg 77) B 16 E0 N c77_8) := x_seq (by rfl) s
noncomputable def c77_9 : Code := kE c77_5
theorem x77_9 : execA E C (fg 77) B 16 E0 N c77_9 s = some (.normal, s) := x_skip (by rfl) s
theorem x77_5 : execA E C (fg 77) B 16 E0 N c77_5 (φ, H) = condX (fget φ 7) (execA E C (fg 77) B 16 E0 N c77_6 (φ, H)) (execA E C (fg 77) B 16 E0 N c77_9 (φ, H)) := x_cond (by rfl) _
theorem x77_3 : execA E C (fg 77) B 16 E0 N c77_3 s = seqX (execA E C (fg 77) B 16 E0 N c77_4 s) (execA E C (fg 77) B 16 E0 N c77_5) := x_seq (by rfl) s
noncomputable def c77_10 : Code := kR c77_2
noncomputable def c77_11 : Code := kL c77_10
noncomputable def r77_3 : Array Oper := kO c77_11
noncomputable def o77_3_0 : Oper := opN r77_3 0
noncomputable def o77_3_1 : Oper := opN r77_3 1
noncomputable def o77_3_2 : Oper := opN r77_3 2
noncomputable def o77_3_3 : Oper := opN r77_3 3
noncomputable def o77_3_4 : Oper := opN r77_3 4
theorem x77_11 : execA E C (fg 77) B 16 E0 N c77_11 s = regX (runA E C B 16 r77_3 r77_3.toList s) (fun s => gcM E0 [2, 3, 4, 7, 12, 13, 14, 15] (forget s.1 [2, 3, 4, 7, 12, 13, 14, 15], s.2)) := x_reg (ops := r77_3) (by rfl) (by rfl) s
theorem r77_3_l : r77_3.toList = [o77_3_0, o77_3_1, o77_3_2, o77_3_3, o77_3_4] := nrfl rfl
theorem s77_3_0 : stepA E C B 16 r77_3 o77_3_0 (φ, H) = stp (some 12) φ H (just (aLoad E.T 3 (fget φ 3))) := nrfl rfl
theorem s77_3_1 : stepA E C B 16 r77_3 o77_3_1 (φ, H) = stp (some 13) φ H (just (aFieldAddr E.T 56 (fget φ 4) 1)) := nrfl rfl
theorem s77_3_2 : stepA E C B 16 r77_3 o77_3_2 (φ, H) = stp (some 14) φ H (just (aLoad E.T 3 (fget φ 13))) := nrfl rfl
theorem s77_3_3 : stepA E C B 16 r77_3 o77_3_3 (φ, H) = stp (some 15) φ H (just (aBin E.T .sub 3 (fget φ 12) (fget φ 14))) := nrfl rfl
theorem s77_3_4 : stepA E C B 16 r77_3 o77_3_4 (φ, H) = some (fput φ 5 (fget φ 15), H) := nrfl rfl
noncomputable def c77_12 : Code := kR c77_10
theorem x77_12 : execA E C (fg 77) B 16 E0 N c77_12 s = some (.ret, s) := x_ret (by rfl) s
theorem x77_10 : execA E C (fg 77) B 16 E0 N c77_10 s = seqX (execA E C (fg 77) B 16 E0 N c77_11 s) (execA E C (fg 77) B 16 E0 N c77_12) := x_seq (by rfl) s
theorem x77_2 : execA E C (fg 77) B 16 E0 N c77_2 s = seqX (execA E C (fg 77) B 16 E0 N c77_3 s) (execA E C (fg 77) B 16 E0 N c77_10) := x_seq (by rfl) s
theorem x77_0 : execA E C (fg 77) B 16 E0 N c77_0 s = seqX (execA E C (fg 77) B 16 E0 N c77_1 s) (execA E C (fg 77) B 16 E0 N c77_2) := x_seq (by rfl) s
theorem fi_77 : fInfo E 77 = some ⟨16, #[.tmp 5], c77_0⟩ := nrfl rfl
theorem b_77 (args : List AV) : bodyA E C fg N 77 args H B = bodyX E [.tmp 5] (execA E C (fg 77) B 16 H N c77_0 (frame0 args 0 [], H)) := bodyA_eq fi_77 args H
/-! ### f76: novaculite/prop.edges -/
noncomputable def c76_0 : Code := kBody Proofs.Try.f76
noncomputable def c76_1 : Code := kL c76_0
noncomputable def r76_0 : Array Oper := kO c76_1
noncomputable def o76_0_0 : Oper := opN r76_0 0
noncomputable def o76_0_1 : Oper := opN r76_0 1
theorem x76_1 : execA E C (fg 76) B 24 E0 N c76_1 s = regX (runA E C B 24 r76_0 r76_0.toList s) (fun s => gcM E0 [4, 5] (forget s.1 [4, 5], s.2)) := x_reg (ops := r76_0) (by rfl) (by rfl) s
theorem r76_0_l : r76_0.toList = [o76_0_0, o76_0_1] := nrfl rfl
theorem s76_0_0 : stepA E C B 24 r76_0 o76_0_0 (φ, H) = some (fput φ 4 (.int .i64 0), H) := nrfl rfl
theorem s76_0_1 : stepA E C B 24 r76_0 o76_0_1 (φ, H) = some (fput φ 5 (.int .i64 0), H) := nrfl rfl
noncomputable def c76_2 : Code := kR c76_0
noncomputable def c76_3 : Code := kL c76_2
noncomputable def c76_4 : Code := kL c76_3
noncomputable def r76_1 : Array Oper := kO c76_4
noncomputable def o76_1_0 : Oper := opN r76_1 0
noncomputable def o76_1_1 : Oper := opN r76_1 1
theorem x76_4 : execA E C (fg 76) B 24 E0 N c76_4 s = regX (runA E C B 24 r76_1 r76_1.toList s) (fun s => gcM E0 [7] (forget s.1 [7], s.2)) := x_reg (ops := r76_1) (by rfl) (by rfl) s
theorem r76_1_l : r76_1.toList = [o76_1_0, o76_1_1] := nrfl rfl
theorem s76_1_0 : stepA E C B 24 r76_1 o76_1_0 (φ, H) = some (fput φ 7 (fget φ 1), H) := nrfl rfl
theorem s76_1_1 : stepA E C B 24 r76_1 o76_1_1 (φ, H) = stp (some 8) φ H (just (aBin E.T .eql 3 (fget φ 7) (.int .i64 0))) := nrfl rfl
noncomputable def c76_5 : Code := kR c76_3
noncomputable def c76_6 : Code := kT c76_5
noncomputable def c76_7 : Code := kL c76_6
noncomputable def r76_2 : Array Oper := kO c76_7
noncomputable def o76_2_0 : Oper := opN r76_2 0
noncomputable def o76_2_1 : Oper := opN r76_2 1
theorem x76_7 : execA E C (fg 76) B 24 E0 N c76_7 s = regX (runA E C B 24 r76_2 r76_2.toList s) (fun s => gcM E0 [0, 1, 8] (forget s.1 [0, 1, 8], s.2)) := x_reg (ops := r76_2) (by rfl) (by rfl) s
theorem r76_2_l : r76_2.toList = [o76_2_0, o76_2_1] := nrfl rfl
theorem s76_2_0 : stepA E C B 24 r76_2 o76_2_0 (φ, H) = some (fput φ 4 (.int .i64 (-268435456)), H) := nrfl rfl
theorem s76_2_1 : stepA E C B 24 r76_2 o76_2_1 (φ, H) = some (fput φ 5 (.int .i64 0), H) := nrfl rfl
noncomputable def c76_8 : Code := kR c76_6
theorem x76_8 : execA E C (fg 76) B 24 E0 N c76_8 s = some (.ret, s) := x_ret (by rfl) s
theorem x76_6 : execA E C (fg 76) B 24 E0 N c76_6 s = seqX (execA E C (fg 76) B 24 E0 N c76_7 s) (execA E C (fg 76) B 24 E0 N c76_8) := x_seq (by rfl) s
noncomputable def c76_9 : Code := kE c76_5
theorem x76_9 : execA E C (fg 76) B 24 E0 N c76_9 s = some (.normal, s) := x_skip (by rfl) s
theorem x76_5 : execA E C (fg 76) B 24 E0 N c76_5 (φ, H) = condX (fget φ 8) (execA E C (fg 76) B 24 E0 N c76_6 (φ, H)) (execA E C (fg 76) B 24 E0 N c76_9 (φ, H)) := x_cond (by rfl) _
theorem x76_3 : execA E C (fg 76) B 24 E0 N c76_3 s = seqX (execA E C (fg 76) B 24 E0 N c76_4 s) (execA E C (fg 76) B 24 E0 N c76_5) := x_seq (by rfl) s
noncomputable def c76_10 : Code := kR c76_2
noncomputable def c76_11 : Code := kL c76_10
noncomputable def r76_3 : Array Oper := kO c76_11
noncomputable def o76_3_0 : Oper := opN r76_3 0
noncomputable def o76_3_1 : Oper := opN r76_3 1
noncomputable def o76_3_2 : Oper := opN r76_3 2
noncomputable def o76_3_3 : Oper := opN r76_3 3
noncomputable def o76_3_4 : Oper := opN r76_3 4
noncomputable def o76_3_5 : Oper := opN r76_3 5
noncomputable def o76_3_6 : Oper := opN r76_3 6
theorem x76_11 : execA E C (fg 76) B 24 E0 N c76_11 s = regX (runA E C B 24 r76_3 r76_3.toList s) (fun s => gcM E0 [0, 1, 8, 9, 10, 11, 12, 13] (forget s.1 [0, 1, 8, 9, 10, 11, 12, 13], s.2)) := x_reg (ops := r76_3) (by rfl) (by rfl) s
theorem r76_3_l : r76_3.toList = [o76_3_0, o76_3_1, o76_3_2, o76_3_3, o76_3_4, o76_3_5, o76_3_6] := nrfl rfl
theorem s76_3_0 : stepA E C B 24 r76_3 o76_3_0 (φ, H) = some (fput φ 9 (fget φ 0), H) := nrfl rfl
theorem s76_3_1 : stepA E C B 24 r76_3 o76_3_1 (φ, H) = some (fput φ 10 (fget φ 1), H) := nrfl rfl
theorem s76_3_2 : stepA E C B 24 r76_3 o76_3_2 (φ, H) = stp (some 11) φ H (just (aBin E.T .sub 3 (fget φ 10) (.int .i64 1))) := nrfl rfl
theorem s76_3_3 : stepA E C B 24 r76_3 o76_3_3 (φ, H) = stp (some 12) φ H (just (aIndexAddr E.T 22 (fget φ 9) (fget φ 11))) := nrfl rfl
theorem s76_3_4 : stepA E C B 24 r76_3 o76_3_4 (φ, H) = stp (some 13) φ H (just (aLoad E.T 56 (fget φ 12))) := nrfl rfl
theorem s76_3_5 : stepA E C B 24 r76_3 o76_3_5 (φ, H) = stp (some 6) φ H (opBox (B + 6) (zeroCells E.T 56)) := nrfl rfl
theorem s76_3_6 : stepA E C B 24 r76_3 o76_3_6 (φ, H) = stp none φ H (opStore E.T 56 (fget φ 6) (fget φ 13)) := nrfl rfl
noncomputable def c76_12 : Code := kR c76_10
noncomputable def c76_13 : Code := kL c76_12
noncomputable def r76_4 : Array Oper := kO c76_13
noncomputable def o76_4_0 : Oper := opN r76_4 0
noncomputable def o76_4_1 : Oper := opN r76_4 1
noncomputable def o76_4_2 : Oper := opN r76_4 2
noncomputable def o76_4_3 : Oper := opN r76_4 3
noncomputable def o76_4_4 : Oper := opN r76_4 4
noncomputable def o76_4_5 : Oper := opN r76_4 5
noncomputable def o76_4_6 : Oper := opN r76_4 6
noncomputable def o76_4_7 : Oper := opN r76_4 7
noncomputable def o76_4_8 : Oper := opN r76_4 8
noncomputable def o76_4_9 : Oper := opN r76_4 9
noncomputable def o76_4_10 : Oper := opN r76_4 10
noncomputable def o76_4_11 : Oper := opN r76_4 11
theorem x76_13 : execA E C (fg 76) B 24 E0 N c76_13 s = regX (drawA E C B 24 r76_4 s) (fun s => gcM E0 [6, 14, 15, 16, 17, 18, 19, 20, 21, 22, 23] (forget s.1 [6, 14, 15, 16, 17, 18, 19, 20, 21, 22, 23], s.2)) := x_draw (ops := r76_4) (by rfl) (by rfl) s
theorem r76_4_l : r76_4.toList = [o76_4_0, o76_4_1, o76_4_2, o76_4_3, o76_4_4, o76_4_5, o76_4_6, o76_4_7, o76_4_8, o76_4_9, o76_4_10, o76_4_11] := nrfl rfl
theorem r76_4_st : statOk r76_4 = true := by kernel_rfl
theorem r76_4_dr : drawA E C B 24 r76_4 s = if neat 24 s = true then drX r76_4 (runT E C B 24 r76_4 r76_4.toList 0 s) else none := draw_eq r76_4_st s
theorem r76_4_an (l : List (Nat × Tr)) : dynOk r76_4 l = (!writing l || dynPairs [[], [0], [], [2], [0, 1, 2, 3], [], [5], [], [7], [5, 6, 7, 8], [0, 1, 2, 3, 4], [0, 1, 2, 3, 4, 5, 6, 7, 8, 9, 10]] (touching l)) := dynOk_eq (by kernel_rfl) l
theorem s76_4_0 : stepT E C B 24 r76_4 o76_4_0 (φ, H) = stpT (some 14) φ H (just (aFieldAddr E.T 56 (fget φ 6) 1)) := stT_go rfl (goT_R rfl rfl)
theorem s76_4_1 : stepT E C B 24 r76_4 o76_4_1 (φ, H) = stpT (some 15) φ H (just (aLoad E.T 3 (fget φ 14))) := stT_go rfl (goT_R rfl rfl)
theorem s76_4_2 : stepT E C B 24 r76_4 o76_4_2 (φ, H) = stpT (some 16) φ H (just (aFieldAddr E.T 56 (fget φ 6) 0)) := stT_go rfl (goT_R rfl rfl)
theorem s76_4_3 : stepT E C B 24 r76_4 o76_4_3 (φ, H) = stpT (some 17) φ H (just (aLoad E.T 3 (fget φ 16))) := stT_go rfl (goT_R rfl rfl)
theorem s76_4_4 : stepT E C B 24 r76_4 o76_4_4 (φ, H) = stpT (some 18) φ H (just (aBin E.T .sub 3 (fget φ 15) (fget φ 17))) := stT_go rfl (goT_R rfl rfl)
theorem s76_4_5 : stepT E C B 24 r76_4 o76_4_5 (φ, H) = stpT (some 19) φ H (just (aFieldAddr E.T 56 (fget φ 6) 1)) := stT_go rfl (goT_R rfl rfl)
theorem s76_4_6 : stepT E C B 24 r76_4 o76_4_6 (φ, H) = stpT (some 20) φ H (just (aLoad E.T 3 (fget φ 19))) := stT_go rfl (goT_R rfl rfl)
theorem s76_4_7 : stepT E C B 24 r76_4 o76_4_7 (φ, H) = stpT (some 21) φ H (just (aFieldAddr E.T 56 (fget φ 6) 0)) := stT_go rfl (goT_R rfl rfl)
theorem s76_4_8 : stepT E C B 24 r76_4 o76_4_8 (φ, H) = stpT (some 22) φ H (just (aLoad E.T 3 (fget φ 21))) := stT_go rfl (goT_R rfl rfl)
theorem s76_4_9 : stepT E C B 24 r76_4 o76_4_9 (φ, H) = stpT (some 23) φ H (just (aBin E.T .add 3 (fget φ 20) (fget φ 22))) := stT_go rfl (goT_R rfl rfl)
theorem s76_4_10 : stepT E C B 24 r76_4 o76_4_10 (φ, H) = some ((fput φ 4 (fget φ 18), H), ⟨false, [], []⟩) := stT_go rfl (goT_mv rfl rfl)
theorem s76_4_11 : stepT E C B 24 r76_4 o76_4_11 (φ, H) = some ((fput φ 5 (fget φ 23), H), ⟨false, [], []⟩) := stT_go rfl (goT_mv rfl rfl)
noncomputable def c76_14 : Code := kR c76_12
theorem x76_14 : execA E C (fg 76) B 24 E0 N c76_14 s = some (.ret, s) := x_ret (by rfl) s
theorem x76_12 : execA E C (fg 76) B 24 E0 N c76_12 s = seqX (execA E C (fg 76) B 24 E0 N c76_13 s) (execA E C (fg 76) B 24 E0 N c76_14) := x_seq (by rfl) s
theorem x76_10 : execA E C (fg 76) B 24 E0 N c76_10 s = seqX (execA E C (fg 76) B 24 E0 N c76_11 s) (execA E C (fg 76) B 24 E0 N c76_12) := x_seq (by rfl) s
theorem x76_2 : execA E C (fg 76) B 24 E0 N c76_2 s = seqX (execA E C (fg 76) B 24 E0 N c76_3 s) (execA E C (fg 76) B 24 E0 N c76_10) := x_seq (by rfl) s
theorem x76_0 : execA E C (fg 76) B 24 E0 N c76_0 s = seqX (execA E C (fg 76) B 24 E0 N c76_1 s) (execA E C (fg 76) B 24 E0 N c76_2) := x_seq (by rfl) s
theorem fi_76 : fInfo E 76 = some ⟨24, #[.tmp 4, .tmp 5], c76_0⟩ := nrfl rfl
theorem b_76 (args : List AV) : bodyA E C fg N 76 args H B = bodyX E [.tmp 4, .tmp 5] (execA E C (fg 76) B 24 H N c76_0 (frame0 args 0 [], H)) := bodyA_eq fi_76 args H
/-! ### f47: novaculite/prop.beyond -/
noncomputable def c47_0 : Code := kBody Proofs.Try.f47
noncomputable def c47_1 : Code := kL c47_0
noncomputable def r47_0 : Array Oper := kO c47_1
noncomputable def o47_0_0 : Oper := opN r47_0 0
noncomputable def o47_0_1 : Oper := opN r47_0 1
theorem x47_1 : execA E C (fg 47) B 16 E0 N c47_1 s = regX (runA E C B 16 r47_0 r47_0.toList s) (fun s => gcM E0 [2, 6] (forget s.1 [2, 6], s.2)) := x_reg (ops := r47_0) (by rfl) (by rfl) s
theorem r47_0_l : r47_0.toList = [o47_0_0, o47_0_1] := nrfl rfl
theorem s47_0_0 : stepA E C B 16 r47_0 o47_0_0 (φ, H) = stp (some 5) φ H (opBox (B + 5) (acells (fget φ 2))) := nrfl rfl
theorem s47_0_1 : stepA E C B 16 r47_0 o47_0_1 (φ, H) = some (fput φ 6 (.nilfunc), H) := nrfl rfl
noncomputable def c47_2 : Code := kR c47_0
noncomputable def c47_3 : Code := kL c47_2
noncomputable def r47_1 : Array Oper := kO c47_3
noncomputable def o47_1_0 : Oper := opN r47_1 0
noncomputable def o47_1_1 : Oper := opN r47_1 1
noncomputable def o47_1_2 : Oper := opN r47_1 2
noncomputable def o47_1_3 : Oper := opN r47_1 3
noncomputable def o47_1_4 : Oper := opN r47_1 4
noncomputable def o47_1_5 : Oper := opN r47_1 5
noncomputable def o47_1_6 : Oper := opN r47_1 6
noncomputable def o47_1_7 : Oper := opN r47_1 7
noncomputable def o47_1_8 : Oper := opN r47_1 8
noncomputable def o47_1_9 : Oper := opN r47_1 9
theorem x47_3 : execA E C (fg 47) B 16 E0 N c47_3 s = regX (runA E C B 16 r47_1 r47_1.toList s) (fun s => gcM E0 [0, 1, 9, 10, 11, 12, 13, 14] (forget s.1 [0, 1, 9, 10, 11, 12, 13, 14], s.2)) := x_reg (ops := r47_1) (by rfl) (by rfl) s
theorem r47_1_l : r47_1.toList = [o47_1_0, o47_1_1, o47_1_2, o47_1_3, o47_1_4, o47_1_5, o47_1_6, o47_1_7, o47_1_8, o47_1_9] := nrfl rfl
theorem s47_1_0 : stepA E C B 16 r47_1 o47_1_0 (φ, H) = some (fput φ 10 (fget φ 0), H) := nrfl rfl
theorem s47_1_1 : stepA E C B 16 r47_1 o47_1_1 (φ, H) = some (fput φ 11 (fget φ 1), H) := nrfl rfl
theorem s47_1_2 : stepA E C B 16 r47_1 o47_1_2 (φ, H) = stp (some 12) φ H (aCall C (fun j => B + j * 16 + 12) true 76 [(fget φ 10), (fget φ 11)]) := nrfl rfl
theorem s47_1_3 : stepA E C B 16 r47_1 o47_1_3 (φ, H) = some (fput φ 9 (fget φ 12), H) := nrfl rfl
theorem s47_1_4 : stepA E C B 16 r47_1 o47_1_4 (φ, H) = stp (some 13) φ H (opExtract (fget φ 9) 0) := nrfl rfl
theorem s47_1_5 : stepA E C B 16 r47_1 o47_1_5 (φ, H) = stp (some 14) φ H (opExtract (fget φ 9) 1) := nrfl rfl
theorem s47_1_6 : stepA E C B 16 r47_1 o47_1_6 (φ, H) = stp (some 7) φ H (opBox (B + 7) (zeroCells E.T 3)) := nrfl rfl
theorem s47_1_7 : stepA E C B 16 r47_1 o47_1_7 (φ, H) = stp (some 8) φ H (opBox (B + 8) (zeroCells E.T 3)) := nrfl rfl
theorem s47_1_8 : stepA E C B 16 r47_1 o47_1_8 (φ, H) = stp none φ H (opStore E.T 3 (fget φ 7) (fget φ 13)) := nrfl rfl
theorem s47_1_9 : stepA E C B 16 r47_1 o47_1_9 (φ, H) = stp none φ H (opStore E.T 3 (fget φ 8) (fget φ 14)) := nrfl rfl
noncomputable def c47_4 : Code := kR c47_2
noncomputable def c47_5 : Code := kL c47_4
noncomputable def r47_2 : Array Oper := kO c47_5
noncomputable def o47_2_0 : Oper := opN r47_2 0
noncomputable def o47_2_1 : Oper := opN r47_2 1
theorem x47_5 : execA E C (fg 47) B 16 E0 N c47_5 s = regX (runA E C B 16 r47_2 r47_2.toList s) (fun s => gcM E0 [5, 7, 8, 15] (forget s.1 [5, 7, 8, 15], s.2)) := x_reg (ops := r47_2) (by rfl) (by rfl) s
theorem r47_2_l : r47_2.toList = [o47_2_0, o47_2_1] := nrfl rfl
theorem s47_2_0 : stepA E C B 16 r47_2 o47_2_0 (φ, H) = stp (some 15) φ H (.pure (.clo 77 [(fget φ 5), (fget φ 8), (fget φ 7)], [])) := nrfl rfl
theorem s47_2_1 : stepA E C B 16 r47_2 o47_2_1 (φ, H) = some (fput φ 6 (fget φ 15), H) := nrfl rfl
noncomputable def c47_6 : Code := kR c47_4
theorem x47_6 : execA E C (fg 47) B 16 E0 N c47_6 s = some (.ret, s) := x_ret (by rfl) s
theorem x47_4 : execA E C (fg 47) B 16 E0 N c47_4 s = seqX (execA E C (fg 47) B 16 E0 N c47_5 s) (execA E C (fg 47) B 16 E0 N c47_6) := x_seq (by rfl) s
theorem x47_2 : execA E C (fg 47) B 16 E0 N c47_2 s = seqX (execA E C (fg 47) B 16 E0 N c47_3 s) (execA E C (fg 47) B 16 E0 N c47_4) := x_seq (by rfl) s
theorem x47_0 : execA E C (fg 47) B 16 E0 N c47_0 s = seqX (execA E C (fg 47) B 16 E0 N c47_1 s) (execA E C (fg 47) B 16 E0 N c47_2) := x_seq (by rfl) s
theorem fi_47 : fInfo E 47 = some ⟨16, #[.tmp 6], c47_0⟩ := nrfl rfl
theorem b_47 (args : List AV) : bodyA E C fg N 47 args H B = bodyX E [.tmp 6] (execA E C (fg 47) B 16 H N c47_0 (frame0 args 0 [], H)) := bodyA_eq fi_47 args H
/-! ### f75: novaculite/prop.may -/
noncomputable def c75_0 : Code := kBody Proofs.Try.f75
noncomputable def c75_1 : Code := kL c75_0
noncomputable def r75_0 : Array Oper := kO c75_1
noncomputable def o75_0_0 : Oper := opN r75_0 0
theorem x75_1 : execA E C (fg 75) B 17 E0 N c75_1 s = regX (runA E C B 17 r75_0 r75_0.toList s) (fun s => gcM E0 [6] (forget s.1 [6], s.2)) := x_reg (ops := r75_0) (by rfl) (by rfl) s
theorem r75_0_l : r75_0.toList = [o75_0_0] := nrfl rfl
theorem s75_0_0 : stepA E C B 17 r75_0 o75_0_0 (φ, H) = some (fput φ 6 (.bool false), H) := nrfl rfl
noncomputable def c75_2 : Code := kR c75_0
noncomputable def c75_3 : Code := kL c75_2
noncomputable def r75_1 : Array Oper := kO c75_3
noncomputable def o75_1_0 : Oper := opN r75_1 0
noncomputable def o75_1_1 : Oper := opN r75_1 1
noncomputable def o75_1_2 : Oper := opN r75_1 2
noncomputable def o75_1_3 : Oper := opN r75_1 3
noncomputable def o75_1_4 : Oper := opN r75_1 4
noncomputable def o75_1_5 : Oper := opN r75_1 5
theorem x75_3 : execA E C (fg 75) B 17 E0 N c75_3 s = regX (runA E C B 17 r75_1 r75_1.toList s) (fun s => gcM E0 [2, 8, 9, 10, 11] (forget s.1 [2, 8, 9, 10, 11], s.2)) := x_reg (ops := r75_1) (by rfl) (by rfl) s
theorem r75_1_l : r75_1.toList = [o75_1_0, o75_1_1, o75_1_2, o75_1_3, o75_1_4, o75_1_5] := nrfl rfl
theorem s75_1_0 : stepA E C B 17 r75_1 o75_1_0 (φ, H) = some (fput φ 8 (fget φ 0), H) := nrfl rfl
theorem s75_1_1 : stepA E C B 17 r75_1 o75_1_1 (φ, H) = some (fput φ 9 (fget φ 1), H) := nrfl rfl
theorem s75_1_2 : stepA E C B 17 r75_1 o75_1_2 (φ, H) = some (fput φ 10 (fget φ 2), H) := nrfl rfl
theorem s75_1_3 : stepA E C B 17 r75_1 o75_1_3 (φ, H) = stp (some 11) φ H (aCall C (fun j => B + j * 17 + 11) true 47 [(fget φ 8), (fget φ 9), (fget φ 10)]) := nrfl rfl
theorem s75_1_4 : stepA E C B 17 r75_1 o75_1_4 (φ, H) = stp (some 7) φ H (opBox (B + 7) (zeroCells E.T 85)) := nrfl rfl
theorem s75_1_5 : stepA E C B 17 r75_1 o75_1_5 (φ, H) = stp none φ H (opStore E.T 85 (fget φ 7) (fget φ 11)) := nrfl rfl
noncomputable def c75_4 : Code := kR c75_2
noncomputable def c75_5 : Code := kL c75_4
noncomputable def r75_2 : Array Oper := kO c75_5
noncomputable def o75_2_0 : Oper := opN r75_2 0
noncomputable def o75_2_1 : Oper := opN r75_2 1
noncomputable def o75_2_2 : Oper := opN r75_2 2
noncomputable def o75_2_3 : Oper := opN r75_2 3
noncomputable def o75_2_4 : Oper := opN r75_2 4
noncomputable def o75_2_5 : Oper := opN r75_2 5
theorem x75_5 : execA E C (fg 75) B 17 E0 N c75_5 s = regX (runA E C B 17 r75_2 r75_2.toList s) (fun s => gcM E0 [0, 1, 7, 12, 13, 14, 15, 16] (forget s.1 [0, 1, 7, 12, 13, 14, 15, 16], s.2)) := x_reg (ops := r75_2) (by rfl) (by rfl) s
theorem r75_2_l : r75_2.toList = [o75_2_0, o75_2_1, o75_2_2, o75_2_3, o75_2_4, o75_2_5] := nrfl rfl
theorem s75_2_0 : stepA E C B 17 r75_2 o75_2_0 (φ, H) = some (fput φ 12 (fget φ 0), H) := nrfl rfl
theorem s75_2_1 : stepA E C B 17 r75_2 o75_2_1 (φ, H) = some (fput φ 13 (fget φ 1), H) := nrfl rfl
theorem s75_2_2 : stepA E C B 17 r75_2 o75_2_2 (φ, H) = stp (some 14) φ H (.pure (.clo 84 [(fget φ 7)], [])) := nrfl rfl
theorem s75_2_3 : stepA E C B 17 r75_2 o75_2_3 (φ, H) = stp (some 15) φ H (aCall C (fun j => B + j * 17 + 15) true 83 [(fget φ 12), (fget φ 13), (fget φ 14)]) := nrfl rfl
theorem s75_2_4 : stepA E C B 17 r75_2 o75_2_4 (φ, H) = stp (some 16) φ H (just (aBin E.T .gtr 3 (fget φ 15) (.int .i64 0))) := nrfl rfl
theorem s75_2_5 : stepA E C B 17 r75_2 o75_2_5 (φ, H) = some (fput φ 6 (fget φ 16), H) := nrfl rfl
noncomputable def c75_6 : Code := kR c75_4
theorem x75_6 : execA E C (fg 75) B 17 E0 N c75_6 s = some (.ret, s) := x_ret (by rfl) s
theorem x75_4 : execA E C (fg 75) B 17 E0 N c75_4 s = seqX (execA E C (fg 75) B 17 E0 N c75_5 s) (execA E C (fg 75) B 17 E0 N c75_6) := x_seq (by rfl) s
theorem x75_2 : execA E C (fg 75) B 17 E0 N c75_2 s = seqX (execA E C (fg 75) B 17 E0 N c75_3 s) (execA E C (fg 75) B 17 E0 N c75_4) := x_seq (by rfl) s
theorem x75_0 : execA E C (fg 75) B 17 E0 N c75_0 s = seqX (execA E C (fg 75) B 17 E0 N c75_1 s) (execA E C (fg 75) B 17 E0 N c75_2) := x_seq (by rfl) s
theorem fi_75 : fInfo E 75 = some ⟨17, #[.tmp 6], c75_0⟩ := nrfl rfl
theorem b_75 (args : List AV) : bodyA E C fg N 75 args H B = bodyX E [.tmp 6] (execA E C (fg 75) B 17 H N c75_0 (frame0 args 0 [], H)) := bodyA_eq fi_75 args H
/-! ### f44: novaculite/prop.weak -/
noncomputable def c44_0 : Code := kBody Proofs.Try.f44
noncomputable def c44_1 : Code := kL c44_0
noncomputable def r44_0 : Array Oper := kO c44_1
noncomputable def o44_0_0 : Oper := opN r44_0 0
theorem x44_1 : execA E C (fg 44) B 19 E0 N c44_1 s = regX (runA E C B 19 r44_0 r44_0.toList s) (fun s => gcM E0 [2] (forget s.1 [2], s.2)) := x_reg (ops := r44_0) (by rfl) (by rfl) s
theorem r44_0_l : r44_0.toList = [o44_0_0] := nrfl rfl
theorem s44_0_0 : stepA E C B 19 r44_0 o44_0_0 (φ, H) = some (fput φ 2 (.int .i64 0), H) := nrfl rfl
noncomputable def c44_2 : Code := kR c44_0
noncomputable def c44_3 : Code := kL c44_2
noncomputable def c44_4 : Code := kL c44_3
noncomputable def r44_1 : Array Oper := kO c44_4
noncomputable def o44_1_0 : Oper := opN r44_1 0
noncomputable def o44_1_1 : Oper := opN r44_1 1
noncomputable def o44_1_2 : Oper := opN r44_1 2
theorem x44_4 : execA E C (fg 44) B 19 E0 N c44_4 s = regX (runA E C B 19 r44_1 r44_1.toList s) (fun s => gcM E0 [4] (forget s.1 [4], s.2)) := x_reg (ops := r44_1) (by rfl) (by rfl) s
theorem r44_1_l : r44_1.toList = [o44_1_0, o44_1_1, o44_1_2] := nrfl rfl
theorem s44_1_0 : stepA E C B 19 r44_1 o44_1_0 (φ, H) = some (fput φ 4 (fget φ 0), H) := nrfl rfl
theorem s44_1_1 : stepA E C B 19 r44_1 o44_1_1 (φ, H) = stp (some 5) φ H (aBuiltin E.T (B + 5) .len #[22] [(fget φ 4)]) := nrfl rfl
theorem s44_1_2 : stepA E C B 19 r44_1 o44_1_2 (φ, H) = some (fput φ 6 (.int .i64 0), H) := nrfl rfl
noncomputable def c44_5 : Code := kR c44_3
noncomputable def c44_6 : Code := kB c44_5
noncomputable def c44_7 : Code := kB c44_6
noncomputable def c44_8 : Code := kL c44_7
noncomputable def r44_2 : Array Oper := kO c44_8
noncomputable def o44_2_0 : Oper := opN r44_2 0
theorem x44_8 : execA E C (fg 44) B 19 E0 N c44_8 s = regX (runA E C B 19 r44_2 r44_2.toList s) (fun s => gcM E0 [] (forget s.1 [], s.2)) := x_reg (ops := r44_2) (by rfl) (by rfl) s
theorem r44_2_l : r44_2.toList = [o44_2_0] := nrfl rfl
theorem s44_2_0 : stepA E C B 19 r44_2 o44_2_0 (φ, H) = stp (some 7) φ H (just (aBin E.T .lss 3 (fget φ 6) (fget φ 5))) := nrfl rfl
noncomputable def c44_9 : Code := kR c44_7
noncomputable def c44_10 : Code := kL c44_9
noncomputable def c44_11 : Code := kT c44_10
theorem x44_11 : execA E C (fg 44) B 19 E0 N c44_11 s = some (.normal, s) := x_skip (by rfl) s
noncomputable def c44_12 : Code := kE c44_10
theorem x44_12 : execA E C (fg 44) B 19 E0 N c44_12 s = some (.exit 0, s) := x_exit (by rfl) s
theorem x44_10 : execA E C (fg 44) B 19 E0 N c44_10 (φ, H) = condX (fget φ 7) (execA E C (fg 44) B 19 E0 N c44_11 (φ, H)) (execA E C (fg 44) B 19 E0 N c44_12 (φ, H)) := x_cond (by rfl) _
noncomputable def c44_13 : Code := kR c44_9
noncomputable def c44_14 : Code := kL c44_13
noncomputable def c44_15 : Code := kB c44_14
noncomputable def c44_16 : Code := kL c44_15
noncomputable def r44_3 : Array Oper := kO c44_16
noncomputable def o44_3_0 : Oper := opN r44_3 0
noncomputable def o44_3_1 : Oper := opN r44_3 1
theorem x44_16 : execA E C (fg 44) B 19 E0 N c44_16 s = regX (runA E C B 19 r44_3 r44_3.toList s) (fun s => gcM E0 [7, 8] (forget s.1 [7, 8], s.2)) := x_reg (ops := r44_3) (by rfl) (by rfl) s
theorem r44_3_l : r44_3.toList = [o44_3_0, o44_3_1] := nrfl rfl
theorem s44_3_0 : stepA E C B 19 r44_3 o44_3_0 (φ, H) = some (fput φ 8 (fget φ 6), H) := nrfl rfl
theorem s44_3_1 : stepA E C B 19 r44_3 o44_3_1 (φ, H) = some (fput φ 3 (fget φ 8), H) := nrfl rfl
noncomputable def c44_17 : Code := kR c44_15
noncomputable def c44_18 : Code := kL c44_17
noncomputable def r44_4 : Array Oper := kO c44_18
noncomputable def o44_4_0 : Oper := opN r44_4 0
noncomputable def o44_4_1 : Oper := opN r44_4 1
noncomputable def o44_4_2 : Oper := opN r44_4 2
noncomputable def o44_4_3 : Oper := opN r44_4 3
noncomputable def o44_4_4 : Oper := opN r44_4 4
noncomputable def o44_4_5 : Oper := opN r44_4 5
noncomputable def o44_4_6 : Oper := opN r44_4 6
noncomputable def o44_4_7 : Oper := opN r44_4 7
theorem x44_18 : execA E C (fg 44) B 19 E0 N c44_18 s = regX (runA E C B 19 r44_4 r44_4.toList s) (fun s => gcM E0 [9, 10, 11, 12, 13, 14, 15] (forget s.1 [9, 10, 11, 12, 13, 14, 15], s.2)) := x_reg (ops := r44_4) (by rfl) (by rfl) s
theorem r44_4_l : r44_4.toList = [o44_4_0, o44_4_1, o44_4_2, o44_4_3, o44_4_4, o44_4_5, o44_4_6, o44_4_7] := nrfl rfl
theorem s44_4_0 : stepA E C B 19 r44_4 o44_4_0 (φ, H) = some (fput φ 9 (fget φ 0), H) := nrfl rfl
theorem s44_4_1 : stepA E C B 19 r44_4 o44_4_1 (φ, H) = some (fput φ 10 (fget φ 3), H) := nrfl rfl
theorem s44_4_2 : stepA E C B 19 r44_4 o44_4_2 (φ, H) = stp (some 11) φ H (aCall C (fun j => B + j * 19 + 11) true 75 [(fget φ 9), (fget φ 10), (.int .i64 1)]) := nrfl rfl
theorem s44_4_3 : stepA E C B 19 r44_4 o44_4_3 (φ, H) = some (fput φ 12 (fget φ 11), H) := nrfl rfl
theorem s44_4_4 : stepA E C B 19 r44_4 o44_4_4 (φ, H) = gd φ 12 false (fun φ => some (fput φ 13 (.tup []), H)) (fun φ => some (fput φ 13 (fget φ 0), H)) := s_gd (j := 3) (oj := o44_4_3) rfl rfl rfl (fun _ => rfl) (fun _ => rfl)
theorem s44_4_5 : stepA E C B 19 r44_4 o44_4_5 (φ, H) = gd φ 12 false (fun φ => some (fput φ 14 (.tup []), H)) (fun φ => some (fput φ 14 (fget φ 3), H)) := s_gd (j := 3) (oj := o44_4_3) rfl rfl rfl (fun _ => rfl) (fun _ => rfl)
theorem s44_4_6 : stepA E C B 19 r44_4 o44_4_6 (φ, H) = gd φ 12 false (fun φ => some (fput φ 15 (.tup []), H)) (fun φ => stp (some 15) φ H (aCall C (fun j => B + j * 19 + 15) true 75 [(fget φ 13), (fget φ 14), (.int .i64 (-1))])) := s_gd (j := 3) (oj := o44_4_3) rfl rfl rfl (fun _ => rfl) (fun _ => rfl)
theorem s44_4_7 : stepA E C B 19 r44_4 o44_4_7 (φ, H) = stp (some 16) φ H (opPick (fget φ 12) (.bool true) (fget φ 15)) := nrfl rfl
noncomputable def c44_19 : Code := kR c44_17
noncomputable def c44_20 : Code := kT c44_19
noncomputable def c44_21 : Code := kL c44_20
noncomputable def r44_5 : Array Oper := kO c44_21
noncomputable def o44_5_0 : Oper := opN r44_5 0
noncomputable def o44_5_1 : Oper := opN r44_5 1
theorem x44_21 : execA E C (fg 44) B 19 E0 N c44_21 s = regX (runA E C B 19 r44_5 r44_5.toList s) (fun s => gcM E0 [0, 3, 5, 6, 16, 17] (forget s.1 [0, 3, 5, 6, 16, 17], s.2)) := x_reg (ops := r44_5) (by rfl) (by rfl) s
theorem r44_5_l : r44_5.toList = [o44_5_0, o44_5_1] := nrfl rfl
theorem s44_5_0 : stepA E C B 19 r44_5 o44_5_0 (φ, H) = some (fput φ 17 (fget φ 3), H) := nrfl rfl
theorem s44_5_1 : stepA E C B 19 r44_5 o44_5_1 (φ, H) = some (fput φ 2 (fget φ 17), H) := nrfl rfl
noncomputable def c44_22 : Code := kR c44_20
theorem x44_22 : execA E C (fg 44) B 19 E0 N c44_22 s = some (.ret, s) := x_ret (by rfl) s
theorem x44_20 : execA E C (fg 44) B 19 E0 N c44_20 s = seqX (execA E C (fg 44) B 19 E0 N c44_21 s) (execA E C (fg 44) B 19 E0 N c44_22) := x_seq (by rfl) s
noncomputable def c44_23 : Code := kE c44_19
theorem x44_23 : execA E C (fg 44) B 19 E0 N c44_23 s = some (.normal, s) := x_skip (by rfl) s
theorem x44_19 : execA E C (fg 44) B 19 E0 N c44_19 (φ, H) = condX (fget φ 16) (execA E C (fg 44) B 19 E0 N c44_20 (φ, H)) (execA E C (fg 44) B 19 E0 N c44_23 (φ, H)) := x_cond (by rfl) _
theorem x44_17 : execA E C (fg 44) B 19 E0 N c44_17 s = seqX (execA E C (fg 44) B 19 E0 N c44_18 s) (execA E C (fg 44) B 19 E0 N c44_19) := x_seq (by rfl) s
theorem x44_15 : execA E C (fg 44) B 19 E0 N c44_15 s = seqX (execA E C (fg 44) B 19 E0 N c44_16 s) (execA E C (fg 44) B 19 E0 N c44_17) := x_seq (by rfl) s
theorem x44_14 : execA E C (fg 44) B 19 E0 N c44_14 s = blockX 1 (fun s => (forget s.1 [3, 16], s.2)) (execA E C (fg 44) B 19 E0 N c44_15 s) := x_block (by rfl) (by rfl) s
noncomputable def c44_24 : Code := kR c44_13
noncomputable def r44_6 : Array Oper := kO c44_24
noncomputable def o44_6_0 : Oper := opN r44_6 0
noncomputable def o44_6_1 : Oper := opN r44_6 1
theorem x44_24 : execA E C (fg 44) B 19 E0 N c44_24 s = regX (runA E C B 19 r44_6 r44_6.toList s) (fun s => gcM E0 [18] (forget s.1 [18], s.2)) := x_reg (ops := r44_6) (by rfl) (by rfl) s
theorem r44_6_l : r44_6.toList = [o44_6_0, o44_6_1] := nrfl rfl
theorem s44_6_0 : stepA E C B 19 r44_6 o44_6_0 (φ, H) = stp (some 18) φ H (just (aBin E.T .add 3 (fget φ 6) (.int .i64 1))) := nrfl rfl
theorem s44_6_1 : stepA E C B 19 r44_6 o44_6_1 (φ, H) = some (fput φ 6 (fget φ 18), H) := nrfl rfl
theorem x44_13 : execA E C (fg 44) B 19 E0 N c44_13 s = seqX (execA E C (fg 44) B 19 E0 N c44_14 s) (execA E C (fg 44) B 19 E0 N c44_24) := x_seq (by rfl) s
theorem x44_9 : execA E C (fg 44) B 19 E0 N c44_9 s = seqX (execA E C (fg 44) B 19 E0 N c44_10 s) (execA E C (fg 44) B 19 E0 N c44_13) := x_seq (by rfl) s
theorem x44_7 : execA E C (fg 44) B 19 E0 N c44_7 s = seqX (execA E C (fg 44) B 19 E0 N c44_8 s) (execA E C (fg 44) B 19 E0 N c44_9) := x_seq (by rfl) s
-- a loop of f44: x44_6; body c44_7; slots [6, 5, 0]
theorem x44_6 : execA E C (fg 44) B 19 E0 N c44_6 s = iterA (execA E C (fg 44) B 19 E0 N c44_7) (headA E0) N s := x_loop (by rfl) s
theorem x44_5 : execA E C (fg 44) B 19 E0 N c44_5 s = blockX 0 (fun s => (forget s.1 [0, 5, 6, 7], s.2)) (execA E C (fg 44) B 19 E0 N c44_6 s) := x_block (by rfl) (by rfl) s
theorem x44_3 : execA E C (fg 44) B 19 E0 N c44_3 s = seqX (execA E C (fg 44) B 19 E0 N c44_4 s) (execA E C (fg 44) B 19 E0 N c44_5) := x_seq (by rfl) s
noncomputable def c44_25 : Code := kR c44_2
noncomputable def c44_26 : Code := kL c44_25
noncomputable def r44_7 : Array Oper := kO c44_26
noncomputable def o44_7_0 : Oper := opN r44_7 0
theorem x44_26 : execA E C (fg 44) B 19 E0 N c44_26 s = regX (runA E C B 19 r44_7 r44_7.toList s) (fun s => gcM E0 [] (forget s.1 [], s.2)) := x_reg (ops := r44_7) (by rfl) (by rfl) s
theorem r44_7_l : r44_7.toList = [o44_7_0] := nrfl rfl
theorem s44_7_0 : stepA E C B 19 r44_7 o44_7_0 (φ, H) = some (fput φ 2 (.int .i64 (-1)), H) := nrfl rfl
noncomputable def c44_27 : Code := kR c44_25
theorem x44_27 : execA E C (fg 44) B 19 E0 N c44_27 s = some (.ret, s) := x_ret (by rfl) s
theorem x44_25 : execA E C (fg 44) B 19 E0 N c44_25 s = seqX (execA E C (fg 44) B 19 E0 N c44_26 s) (execA E C (fg 44) B 19 E0 N c44_27) := x_seq (by rfl) s
theorem x44_2 : execA E C (fg 44) B 19 E0 N c44_2 s = seqX (execA E C (fg 44) B 19 E0 N c44_3 s) (execA E C (fg 44) B 19 E0 N c44_25) := x_seq (by rfl) s
theorem x44_0 : execA E C (fg 44) B 19 E0 N c44_0 s = seqX (execA E C (fg 44) B 19 E0 N c44_1 s) (execA E C (fg 44) B 19 E0 N c44_2) := x_seq (by rfl) s
theorem fi_44 : fInfo E 44 = some ⟨19, #[.tmp 2], c44_0⟩ := nrfl rfl
theorem b_44 (args : List AV) : bodyA E C fg N 44 args H B = bodyX E [.tmp 2] (execA E C (fg 44) B 19 H N c44_0 (frame0 args 0 [], H)) := bodyA_eq fi_44 args H
/-! ### f8: novaculite/prop.Stands -/
noncomputable def c8_0 : Code := kBody Proofs.Try.f8
noncomputable def c8_1 : Code := kL c8_0
noncomputable def r8_0 : Array Oper := kO c8_1
noncomputable def o8_0_0 : Oper := opN r8_0 0
noncomputable def o8_0_1 : Oper := opN r8_0 1
theorem x8_1 : execA E C (fg 8) B 13 E0 N c8_1 s = regX (runA E C B 13 r8_0 r8_0.toList s) (fun s => gcM E0 [2, 3] (forget s.1 [2, 3], s.2)) := x_reg (ops := r8_0) (by rfl) (by rfl) s
theorem r8_0_l : r8_0.toList = [o8_0_0, o8_0_1] := nrfl rfl
theorem s8_0_0 : stepA E C B 13 r8_0 o8_0_0 (φ, H) = some (fput φ 2 (.bool false), H) := nrfl rfl
theorem s8_0_1 : stepA E C B 13 r8_0 o8_0_1 (φ, H) = some (fput φ 3 (.int .i64 0), H) := nrfl rfl
noncomputable def c8_2 : Code := kR c8_0
noncomputable def c8_3 : Code := kL c8_2
noncomputable def c8_4 : Code := kL c8_3
noncomputable def r8_1 : Array Oper := kO c8_4
noncomputable def o8_1_0 : Oper := opN r8_1 0
noncomputable def o8_1_1 : Oper := opN r8_1 1
noncomputable def o8_1_2 : Oper := opN r8_1 2
theorem x8_4 : execA E C (fg 8) B 13 E0 N c8_4 s = regX (runA E C B 13 r8_1 r8_1.toList s) (fun s => gcM E0 [5, 6] (forget s.1 [5, 6], s.2)) := x_reg (ops := r8_1) (by rfl) (by rfl) s
theorem r8_1_l : r8_1.toList = [o8_1_0, o8_1_1, o8_1_2] := nrfl rfl
theorem s8_1_0 : stepA E C B 13 r8_1 o8_1_0 (φ, H) = some (fput φ 5 (fget φ 0), H) := nrfl rfl
theorem s8_1_1 : stepA E C B 13 r8_1 o8_1_1 (φ, H) = stp (some 6) φ H (aCall C (fun j => B + j * 13 + 6) true 17 [(fget φ 5)]) := nrfl rfl
theorem s8_1_2 : stepA E C B 13 r8_1 o8_1_2 (φ, H) = some (fput φ 4 (fget φ 6), H) := nrfl rfl
noncomputable def c8_5 : Code := kR c8_3
noncomputable def c8_6 : Code := kL c8_5
noncomputable def r8_2 : Array Oper := kO c8_6
noncomputable def o8_2_0 : Oper := opN r8_2 0
noncomputable def o8_2_1 : Oper := opN r8_2 1
theorem x8_6 : execA E C (fg 8) B 13 E0 N c8_6 s = regX (runA E C B 13 r8_2 r8_2.toList s) (fun s => gcM E0 [7] (forget s.1 [7], s.2)) := x_reg (ops := r8_2) (by rfl) (by rfl) s
theorem r8_2_l : r8_2.toList = [o8_2_0, o8_2_1] := nrfl rfl
theorem s8_2_0 : stepA E C B 13 r8_2 o8_2_0 (φ, H) = some (fput φ 7 (fget φ 4), H) := nrfl rfl
theorem s8_2_1 : stepA E C B 13 r8_2 o8_2_1 (φ, H) = stp (some 8) φ H (just (aBin E.T .neq 27 (fget φ 7) (.int .i64 0))) := nrfl rfl
noncomputable def c8_7 : Code := kR c8_5
noncomputable def c8_8 : Code := kT c8_7
noncomputable def c8_9 : Code := kL c8_8
noncomputable def r8_3 : Array Oper := kO c8_9
noncomputable def o8_3_0 : Oper := opN r8_3 0
noncomputable def o8_3_1 : Oper := opN r8_3 1
noncomputable def o8_3_2 : Oper := opN r8_3 2
theorem x8_9 : execA E C (fg 8) B 13 E0 N c8_9 s = regX (runA E C B 13 r8_3 r8_3.toList s) (fun s => gcM E0 [0, 4, 8, 9] (forget s.1 [0, 4, 8, 9], s.2)) := x_reg (ops := r8_3) (by rfl) (by rfl) s
theorem r8_3_l : r8_3.toList = [o8_3_0, o8_3_1, o8_3_2] := nrfl rfl
theorem s8_3_0 : stepA E C B 13 r8_3 o8_3_0 (φ, H) = some (fput φ 9 (fget φ 4), H) := nrfl rfl
theorem s8_3_1 : stepA E C B 13 r8_3 o8_3_1 (φ, H) = some (fput φ 2 (.bool false), H) := nrfl rfl
theorem s8_3_2 : stepA E C B 13 r8_3 o8_3_2 (φ, H) = some (fput φ 3 (fget φ 9), H) := nrfl rfl
noncomputable def c8_10 : Code := kR c8_8
theorem x8_10 : execA E C (fg 8) B 13 E0 N c8_10 s = some (.ret, s) := x_ret (by rfl) s
theorem x8_8 : execA E C (fg 8) B 13 E0 N c8_8 s = seqX (execA E C (fg 8) B 13 E0 N c8_9 s) (execA E C (fg 8) B 13 E0 N c8_10) := x_seq (by rfl) s
noncomputable def c8_11 : Code := kE c8_7
theorem x8_11 : execA E C (fg 8) B 13 E0 N c8_11 s = some (.normal, s) := x_skip (by rfl) s
theorem x8_7 : execA E C (fg 8) B 13 E0 N c8_7 (φ, H) = condX (fget φ 8) (execA E C (fg 8) B 13 E0 N c8_8 (φ, H)) (execA E C (fg 8) B 13 E0 N c8_11 (φ, H)) := x_cond (by rfl) _
theorem x8_5 : execA E C (fg 8) B 13 E0 N c8_5 s = seqX (execA E C (fg 8) B 13 E0 N c8_6 s) (execA E C (fg 8) B 13 E0 N c8_7) := x_seq (by rfl) s
theorem x8_3 : execA E C (fg 8) B 13 E0 N c8_3 s = seqX (execA E C (fg 8) B 13 E0 N c8_4 s) (execA E C (fg 8) B 13 E0 N c8_5) := x_seq (by rfl) s
noncomputable def c8_12 : Code := kR c8_2
noncomputable def c8_13 : Code := kL c8_12
noncomputable def r8_4 : Array Oper := kO c8_13
noncomputable def o8_4_0 : Oper := opN r8_4 0
noncomputable def o8_4_1 : Oper := opN r8_4 1
noncomputable def o8_4_2 : Oper := opN r8_4 2
noncomputable def o8_4_3 : Oper := opN r8_4 3
noncomputable def o8_4_4 : Oper := opN r8_4 4
theorem x8_13 : execA E C (fg 8) B 13 E0 N c8_13 s = regX (runA E C B 13 r8_4 r8_4.toList s) (fun s => gcM E0 [0, 4, 8, 10, 11, 12] (forget s.1 [0, 4, 8, 10, 11, 12], s.2)) := x_reg (ops := r8_4) (by rfl) (by rfl) s
theorem r8_4_l : r8_4.toList = [o8_4_0, o8_4_1, o8_4_2, o8_4_3, o8_4_4] := nrfl rfl
theorem s8_4_0 : stepA E C B 13 r8_4 o8_4_0 (φ, H) = some (fput φ 10 (fget φ 0), H) := nrfl rfl
theorem s8_4_1 : stepA E C B 13 r8_4 o8_4_1 (φ, H) = stp (some 11) φ H (aCall C (fun j => B + j * 13 + 11) true 44 [(fget φ 10)]) := nrfl rfl
theorem s8_4_2 : stepA E C B 13 r8_4 o8_4_2 (φ, H) = stp (some 12) φ H (just (aBin E.T .lss 3 (fget φ 11) (.int .i64 0))) := nrfl rfl
theorem s8_4_3 : stepA E C B 13 r8_4 o8_4_3 (φ, H) = some (fput φ 2 (fget φ 12), H) := nrfl rfl
theorem s8_4_4 : stepA E C B 13 r8_4 o8_4_4 (φ, H) = some (fput φ 3 (.int .i64 0), H) := nrfl rfl
noncomputable def c8_14 : Code := kR c8_12
theorem x8_14 : execA E C (fg 8) B 13 E0 N c8_14 s = some (.ret, s) := x_ret (by rfl) s
theorem x8_12 : execA E C (fg 8) B 13 E0 N c8_12 s = seqX (execA E C (fg 8) B 13 E0 N c8_13 s) (execA E C (fg 8) B 13 E0 N c8_14) := x_seq (by rfl) s
theorem x8_2 : execA E C (fg 8) B 13 E0 N c8_2 s = seqX (execA E C (fg 8) B 13 E0 N c8_3 s) (execA E C (fg 8) B 13 E0 N c8_12) := x_seq (by rfl) s
theorem x8_0 : execA E C (fg 8) B 13 E0 N c8_0 s = seqX (execA E C (fg 8) B 13 E0 N c8_1 s) (execA E C (fg 8) B 13 E0 N c8_2) := x_seq (by rfl) s
theorem fi_8 : fInfo E 8 = some ⟨13, #[.tmp 2, .tmp 3], c8_0⟩ := nrfl rfl
theorem b_8 (args : List AV) : bodyA E C fg N 8 args H B = bodyX E [.tmp 2, .tmp 3] (execA E C (fg 8) B 13 H N c8_0 (frame0 args 0 [], H)) := bodyA_eq fi_8 args H
/-! ### f10: novaculite/prop.Tips -/
noncomputable def c10_0 : Code := kBody Proofs.Try.f10
noncomputable def c10_1 : Code := kL c10_0
noncomputable def r10_0 : Array Oper := kO c10_1
noncomputable def o10_0_0 : Oper := opN r10_0 0
noncomputable def o10_0_1 : Oper := opN r10_0 1
theorem x10_1 : execA E C (fg 10) B 16 E0 N c10_1 s = regX (runA E C B 16 r10_0 r10_0.toList s) (fun s => gcM E0 [2, 3] (forget s.1 [2, 3], s.2)) := x_reg (ops := r10_0) (by rfl) (by rfl) s
theorem r10_0_l : r10_0.toList = [o10_0_0, o10_0_1] := nrfl rfl
theorem s10_0_0 : stepA E C B 16 r10_0 o10_0_0 (φ, H) = some (fput φ 2 (.int .i64 0), H) := nrfl rfl
theorem s10_0_1 : stepA E C B 16 r10_0 o10_0_1 (φ, H) = some (fput φ 3 (.int .i64 0), H) := nrfl rfl
noncomputable def c10_2 : Code := kR c10_0
noncomputable def c10_3 : Code := kL c10_2
noncomputable def c10_4 : Code := kL c10_3
noncomputable def r10_1 : Array Oper := kO c10_4
noncomputable def o10_1_0 : Oper := opN r10_1 0
noncomputable def o10_1_1 : Oper := opN r10_1 1
noncomputable def o10_1_2 : Oper := opN r10_1 2
theorem x10_4 : execA E C (fg 10) B 16 E0 N c10_4 s = regX (runA E C B 16 r10_1 r10_1.toList s) (fun s => gcM E0 [6, 7] (forget s.1 [6, 7], s.2)) := x_reg (ops := r10_1) (by rfl) (by rfl) s
theorem r10_1_l : r10_1.toList = [o10_1_0, o10_1_1, o10_1_2] := nrfl rfl
theorem s10_1_0 : stepA E C B 16 r10_1 o10_1_0 (φ, H) = some (fput φ 6 (fget φ 0), H) := nrfl rfl
theorem s10_1_1 : stepA E C B 16 r10_1 o10_1_1 (φ, H) = stp (some 7) φ H (aCall C (fun j => B + j * 16 + 7) true 17 [(fget φ 6)]) := nrfl rfl
theorem s10_1_2 : stepA E C B 16 r10_1 o10_1_2 (φ, H) = some (fput φ 4 (fget φ 7), H) := nrfl rfl
noncomputable def c10_5 : Code := kR c10_3
noncomputable def c10_6 : Code := kL c10_5
noncomputable def r10_2 : Array Oper := kO c10_6
noncomputable def o10_2_0 : Oper := opN r10_2 0
noncomputable def o10_2_1 : Oper := opN r10_2 1
theorem x10_6 : execA E C (fg 10) B 16 E0 N c10_6 s = regX (runA E C B 16 r10_2 r10_2.toList s) (fun s => gcM E0 [8] (forget s.1 [8], s.2)) := x_reg (ops := r10_2) (by rfl) (by rfl) s
theorem r10_2_l : r10_2.toList = [o10_2_0, o10_2_1] := nrfl rfl
theorem s10_2_0 : stepA E C B 16 r10_2 o10_2_0 (φ, H) = some (fput φ 8 (fget φ 4), H) := nrfl rfl
theorem s10_2_1 : stepA E C B 16 r10_2 o10_2_1 (φ, H) = stp (some 9) φ H (just (aBin E.T .neq 27 (fget φ 8) (.int .i64 0))) := nrfl rfl
noncomputable def c10_7 : Code := kR c10_5
noncomputable def c10_8 : Code := kT c10_7
noncomputable def c10_9 : Code := kL c10_8
noncomputable def r10_3 : Array Oper := kO c10_9
noncomputable def o10_3_0 : Oper := opN r10_3 0
noncomputable def o10_3_1 : Oper := opN r10_3 1
noncomputable def o10_3_2 : Oper := opN r10_3 2
theorem x10_9 : execA E C (fg 10) B 16 E0 N c10_9 s = regX (runA E C B 16 r10_3 r10_3.toList s) (fun s => gcM E0 [0, 4, 9, 10] (forget s.1 [0, 4, 9, 10], s.2)) := x_reg (ops := r10_3) (by rfl) (by rfl) s
theorem r10_3_l : r10_3.toList = [o10_3_0, o10_3_1, o10_3_2] := nrfl rfl
theorem s10_3_0 : stepA E C B 16 r10_3 o10_3_0 (φ, H) = some (fput φ 10 (fget φ 4), H) := nrfl rfl
theorem s10_3_1 : stepA E C B 16 r10_3 o10_3_1 (φ, H) = some (fput φ 2 (.int .i64 0), H) := nrfl rfl
theorem s10_3_2 : stepA E C B 16 r10_3 o10_3_2 (φ, H) = some (fput φ 3 (fget φ 10), H) := nrfl rfl
noncomputable def c10_10 : Code := kR c10_8
theorem x10_10 : execA E C (fg 10) B 16 E0 N c10_10 s = some (.ret, s) := x_ret (by rfl) s
theorem x10_8 : execA E C (fg 10) B 16 E0 N c10_8 s = seqX (execA E C (fg 10) B 16 E0 N c10_9 s) (execA E C (fg 10) B 16 E0 N c10_10) := x_seq (by rfl) s
noncomputable def c10_11 : Code := kE c10_7
theorem x10_11 : execA E C (fg 10) B 16 E0 N c10_11 s = some (.normal, s) := x_skip (by rfl) s
theorem x10_7 : execA E C (fg 10) B 16 E0 N c10_7 (φ, H) = condX (fget φ 9) (execA E C (fg 10) B 16 E0 N c10_8 (φ, H)) (execA E C (fg 10) B 16 E0 N c10_11 (φ, H)) := x_cond (by rfl) _
theorem x10_5 : execA E C (fg 10) B 16 E0 N c10_5 s = seqX (execA E C (fg 10) B 16 E0 N c10_6 s) (execA E C (fg 10) B 16 E0 N c10_7) := x_seq (by rfl) s
theorem x10_3 : execA E C (fg 10) B 16 E0 N c10_3 s = seqX (execA E C (fg 10) B 16 E0 N c10_4 s) (execA E C (fg 10) B 16 E0 N c10_5) := x_seq (by rfl) s
noncomputable def c10_12 : Code := kR c10_2
noncomputable def c10_13 : Code := kL c10_12
noncomputable def r10_4 : Array Oper := kO c10_13
noncomputable def o10_4_0 : Oper := opN r10_4 0
noncomputable def o10_4_1 : Oper := opN r10_4 1
noncomputable def o10_4_2 : Oper := opN r10_4 2
theorem x10_13 : execA E C (fg 10) B 16 E0 N c10_13 s = regX (runA E C B 16 r10_4 r10_4.toList s) (fun s => gcM E0 [0, 4, 9, 11, 12] (forget s.1 [0, 4, 9, 11, 12], s.2)) := x_reg (ops := r10_4) (by rfl) (by rfl) s
theorem r10_4_l : r10_4.toList = [o10_4_0, o10_4_1, o10_4_2] := nrfl rfl
theorem s10_4_0 : stepA E C B 16 r10_4 o10_4_0 (φ, H) = some (fput φ 11 (fget φ 0), H) := nrfl rfl
theorem s10_4_1 : stepA E C B 16 r10_4 o10_4_1 (φ, H) = stp (some 12) φ H (aCall C (fun j => B + j * 16 + 12) true 44 [(fget φ 11)]) := nrfl rfl
theorem s10_4_2 : stepA E C B 16 r10_4 o10_4_2 (φ, H) = some (fput φ 5 (fget φ 12), H) := nrfl rfl
noncomputable def c10_14 : Code := kR c10_12
noncomputable def c10_15 : Code := kL c10_14
noncomputable def c10_16 : Code := kL c10_15
noncomputable def r10_5 : Array Oper := kO c10_16
noncomputable def o10_5_0 : Oper := opN r10_5 0
noncomputable def o10_5_1 : Oper := opN r10_5 1
theorem x10_16 : execA E C (fg 10) B 16 E0 N c10_16 s = regX (runA E C B 16 r10_5 r10_5.toList s) (fun s => gcM E0 [13] (forget s.1 [13], s.2)) := x_reg (ops := r10_5) (by rfl) (by rfl) s
theorem r10_5_l : r10_5.toList = [o10_5_0, o10_5_1] := nrfl rfl
theorem s10_5_0 : stepA E C B 16 r10_5 o10_5_0 (φ, H) = some (fput φ 13 (fget φ 5), H) := nrfl rfl
theorem s10_5_1 : stepA E C B 16 r10_5 o10_5_1 (φ, H) = stp (some 14) φ H (just (aBin E.T .lss 3 (fget φ 13) (.int .i64 0))) := nrfl rfl
noncomputable def c10_17 : Code := kR c10_15
noncomputable def c10_18 : Code := kT c10_17
noncomputable def c10_19 : Code := kL c10_18
noncomputable def r10_6 : Array Oper := kO c10_19
noncomputable def o10_6_0 : Oper := opN r10_6 0
noncomputable def o10_6_1 : Oper := opN r10_6 1
theorem x10_19 : execA E C (fg 10) B 16 E0 N c10_19 s = regX (runA E C B 16 r10_6 r10_6.toList s) (fun s => gcM E0 [5, 14] (forget s.1 [5, 14], s.2)) := x_reg (ops := r10_6) (by rfl) (by rfl) s
theorem r10_6_l : r10_6.toList = [o10_6_0, o10_6_1] := nrfl rfl
theorem s10_6_0 : stepA E C B 16 r10_6 o10_6_0 (φ, H) = some (fput φ 2 (.int .i64 0), H) := nrfl rfl
theorem s10_6_1 : stepA E C B 16 r10_6 o10_6_1 (φ, H) = some (fput φ 3 (.int .i64 13), H) := nrfl rfl
noncomputable def c10_20 : Code := kR c10_18
theorem x10_20 : execA E C (fg 10) B 16 E0 N c10_20 s = some (.ret, s) := x_ret (by rfl) s
theorem x10_18 : execA E C (fg 10) B 16 E0 N c10_18 s = seqX (execA E C (fg 10) B 16 E0 N c10_19 s) (execA E C (fg 10) B 16 E0 N c10_20) := x_seq (by rfl) s
noncomputable def c10_21 : Code := kE c10_17
theorem x10_21 : execA E C (fg 10) B 16 E0 N c10_21 s = some (.normal, s) := x_skip (by rfl) s
theorem x10_17 : execA E C (fg 10) B 16 E0 N c10_17 (φ, H) = condX (fget φ 14) (execA E C (fg 10) B 16 E0 N c10_18 (φ, H)) (execA E C (fg 10) B 16 E0 N c10_21 (φ, H)) := x_cond (by rfl) _
theorem x10_15 : execA E C (fg 10) B 16 E0 N c10_15 s = seqX (execA E C (fg 10) B 16 E0 N c10_16 s) (execA E C (fg 10) B 16 E0 N c10_17) := x_seq (by rfl) s
noncomputable def c10_22 : Code := kR c10_14
noncomputable def c10_23 : Code := kL c10_22
noncomputable def r10_7 : Array Oper := kO c10_23
noncomputable def o10_7_0 : Oper := opN r10_7 0
noncomputable def o10_7_1 : Oper := opN r10_7 1
noncomputable def o10_7_2 : Oper := opN r10_7 2
theorem x10_23 : execA E C (fg 10) B 16 E0 N c10_23 s = regX (runA E C B 16 r10_7 r10_7.toList s) (fun s => gcM E0 [5, 14, 15] (forget s.1 [5, 14, 15], s.2)) := x_reg (ops := r10_7) (by rfl) (by rfl) s
theorem r10_7_l : r10_7.toList = [o10_7_0, o10_7_1, o10_7_2] := nrfl rfl
theorem s10_7_0 : stepA E C B 16 r10_7 o10_7_0 (φ, H) = some (fput φ 15 (fget φ 5), H) := nrfl rfl
theorem s10_7_1 : stepA E C B 16 r10_7 o10_7_1 (φ, H) = some (fput φ 2 (fget φ 15), H) := nrfl rfl
theorem s10_7_2 : stepA E C B 16 r10_7 o10_7_2 (φ, H) = some (fput φ 3 (.int .i64 0), H) := nrfl rfl
noncomputable def c10_24 : Code := kR c10_22
theorem x10_24 : execA E C (fg 10) B 16 E0 N c10_24 s = some (.ret, s) := x_ret (by rfl) s
theorem x10_22 : execA E C (fg 10) B 16 E0 N c10_22 s = seqX (execA E C (fg 10) B 16 E0 N c10_23 s) (execA E C (fg 10) B 16 E0 N c10_24) := x_seq (by rfl) s
theorem x10_14 : execA E C (fg 10) B 16 E0 N c10_14 s = seqX (execA E C (fg 10) B 16 E0 N c10_15 s) (execA E C (fg 10) B 16 E0 N c10_22) := x_seq (by rfl) s
theorem x10_12 : execA E C (fg 10) B 16 E0 N c10_12 s = seqX (execA E C (fg 10) B 16 E0 N c10_13 s) (execA E C (fg 10) B 16 E0 N c10_14) := x_seq (by rfl) s
theorem x10_2 : execA E C (fg 10) B 16 E0 N c10_2 s = seqX (execA E C (fg 10) B 16 E0 N c10_3 s) (execA E C (fg 10) B 16 E0 N c10_12) := x_seq (by rfl) s
theorem x10_0 : execA E C (fg 10) B 16 E0 N c10_0 s = seqX (execA E C (fg 10) B 16 E0 N c10_1 s) (execA E C (fg 10) B 16 E0 N c10_2) := x_seq (by rfl) s
theorem fi_10 : fInfo E 10 = some ⟨16, #[.tmp 2, .tmp 3], c10_0⟩ := nrfl rfl
theorem b_10 (args : List AV) : bodyA E C fg N 10 args H B = bodyX E [.tmp 2, .tmp 3] (execA E C (fg 10) B 16 H N c10_0 (frame0 args 0 [], H)) := bodyA_eq fi_10 args H
/-! ### f57: novaculite/prop.found -/
noncomputable def c57_0 : Code := kBody Proofs.Try.f57
noncomputable def c57_1 : Code := kL c57_0
noncomputable def r57_0 : Array Oper := kO c57_1
noncomputable def o57_0_0 : Oper := opN r57_0 0
theorem x57_1 : execA E C (fg 57) B 21 E0 N c57_1 s = regX (runA E C B 21 r57_0 r57_0.toList s) (fun s => gcM E0 [4] (forget s.1 [4], s.2)) := x_reg (ops := r57_0) (by rfl) (by rfl) s
theorem r57_0_l : r57_0.toList = [o57_0_0] := nrfl rfl
theorem s57_0_0 : stepA E C B 21 r57_0 o57_0_0 (φ, H) = some (fput φ 4 (.int .i64 0), H) := nrfl rfl
noncomputable def c57_2 : Code := kR c57_0
noncomputable def c57_3 : Code := kL c57_2
noncomputable def r57_1 : Array Oper := kO c57_3
noncomputable def o57_1_0 : Oper := opN r57_1 0
noncomputable def o57_1_1 : Oper := opN r57_1 1
noncomputable def o57_1_2 : Oper := opN r57_1 2
theorem x57_3 : execA E C (fg 57) B 21 E0 N c57_3 s = regX (runA E C B 21 r57_1 r57_1.toList s) (fun s => gcM E0 [6, 7] (forget s.1 [6, 7], s.2)) := x_reg (ops := r57_1) (by rfl) (by rfl) s
theorem r57_1_l : r57_1.toList = [o57_1_0, o57_1_1, o57_1_2] := nrfl rfl
theorem s57_1_0 : stepA E C B 21 r57_1 o57_1_0 (φ, H) = some (fput φ 6 (fget φ 0), H) := nrfl rfl
theorem s57_1_1 : stepA E C B 21 r57_1 o57_1_1 (φ, H) = stp (some 7) φ H (aCall C (fun j => B + j * 21 + 7) true 17 [(fget φ 6)]) := nrfl rfl
theorem s57_1_2 : stepA E C B 21 r57_1 o57_1_2 (φ, H) = some (fput φ 5 (fget φ 7), H) := nrfl rfl
noncomputable def c57_4 : Code := kR c57_2
noncomputable def c57_5 : Code := kL c57_4
noncomputable def c57_6 : Code := kL c57_5
noncomputable def r57_2 : Array Oper := kO c57_6
noncomputable def o57_2_0 : Oper := opN r57_2 0
noncomputable def o57_2_1 : Oper := opN r57_2 1
noncomputable def o57_2_2 : Oper := opN r57_2 2
noncomputable def o57_2_3 : Oper := opN r57_2 3
noncomputable def o57_2_4 : Oper := opN r57_2 4
noncomputable def o57_2_5 : Oper := opN r57_2 5
noncomputable def o57_2_6 : Oper := opN r57_2 6
noncomputable def o57_2_7 : Oper := opN r57_2 7
noncomputable def o57_2_8 : Oper := opN r57_2 8
noncomputable def o57_2_9 : Oper := opN r57_2 9
noncomputable def o57_2_10 : Oper := opN r57_2 10
noncomputable def o57_2_11 : Oper := opN r57_2 11
theorem x57_6 : execA E C (fg 57) B 21 E0 N c57_6 s = regX (runA E C B 21 r57_2 r57_2.toList s) (fun s => gcM E0 [0, 1, 8, 9, 10, 11, 12, 13, 14, 15, 16, 17, 18] (forget s.1 [0, 1, 8, 9, 10, 11, 12, 13, 14, 15, 16, 17, 18], s.2)) := x_reg (ops := r57_2) (by rfl) (by rfl) s
theorem r57_2_l : r57_2.toList = [o57_2_0, o57_2_1, o57_2_2, o57_2_3, o57_2_4, o57_2_5, o57_2_6, o57_2_7, o57_2_8, o57_2_9, o57_2_10, o57_2_11] := nrfl rfl
theorem s57_2_0 : stepA E C B 21 r57_2 o57_2_0 (φ, H) = some (fput φ 8 (fget φ 5), H) := nrfl rfl
theorem s57_2_1 : stepA E C B 21 r57_2 o57_2_1 (φ, H) = stp (some 9) φ H (just (aBin E.T .eql 27 (fget φ 8) (.int .i64 0))) := nrfl rfl
theorem s57_2_2 : stepA E C B 21 r57_2 o57_2_2 (φ, H) = some (fput φ 10 (fget φ 9), H) := nrfl rfl
theorem s57_2_3 : stepA E C B 21 r57_2 o57_2_3 (φ, H) = gd φ 10 true (fun φ => some (fput φ 11 (.tup []), H)) (fun φ => some (fput φ 11 (fget φ 1), H)) := s_gd (j := 2) (oj := o57_2_2) rfl rfl rfl (fun _ => rfl) (fun _ => rfl)
theorem s57_2_4 : stepA E C B 21 r57_2 o57_2_4 (φ, H) = gd φ 10 true (fun φ => some (fput φ 12 (.tup []), H)) (fun φ => stp (some 12) φ H (just (aBin E.T .lss 3 (fget φ 11) (.int .i64 0)))) := s_gd (j := 2) (oj := o57_2_2) rfl rfl rfl (fun _ => rfl) (fun _ => rfl)
theorem s57_2_5 : stepA E C B 21 r57_2 o57_2_5 (φ, H) = gd φ 10 true (fun φ => some (fput φ 13 (.tup []), H)) (fun φ => some (fput φ 13 (fget φ 12), H)) := s_gd (j := 2) (oj := o57_2_2) rfl rfl rfl (fun _ => rfl) (fun _ => rfl)
theorem s57_2_6 : stepA E C B 21 r57_2 o57_2_6 (φ, H) = gd φ 13 false (fun φ => some (fput φ 14 (.tup []), H)) (fun φ => some (fput φ 14 (fget φ 1), H)) := s_gd (j := 5) (oj := o57_2_5) rfl rfl rfl (fun _ => rfl) (fun _ => rfl)
theorem s57_2_7 : stepA E C B 21 r57_2 o57_2_7 (φ, H) = gd φ 13 false (fun φ => some (fput φ 15 (.tup []), H)) (fun φ => some (fput φ 15 (fget φ 0), H)) := s_gd (j := 5) (oj := o57_2_5) rfl rfl rfl (fun _ => rfl) (fun _ => rfl)
theorem s57_2_8 : stepA E C B 21 r57_2 o57_2_8 (φ, H) = gd φ 13 false (fun φ => some (fput φ 16 (.tup []), H)) (fun φ => stp (some 16) φ H (aBuiltin E.T (B + 16) .len #[22] [(fget φ 15)])) := s_gd (j := 5) (oj := o57_2_5) rfl rfl rfl (fun _ => rfl) (fun _ => rfl)
theorem s57_2_9 : stepA E C B 21 r57_2 o57_2_9 (φ, H) = gd φ 13 false (fun φ => some (fput φ 17 (.tup []), H)) (fun φ => stp (some 17) φ H (just (aBin E.T .geq 3 (fget φ 14) (fget φ 16)))) := s_gd (j := 5) (oj := o57_2_5) rfl rfl rfl (fun _ => rfl) (fun _ => rfl)
theorem s57_2_10 : stepA E C B 21 r57_2 o57_2_10 (φ, H) = gd φ 10 true (fun φ => some (fput φ 18 (.tup []), H)) (fun φ => stp (some 18) φ H (opPick (fget φ 13) (.bool true) (fget φ 17))) := s_gd (j := 2) (oj := o57_2_2) rfl rfl rfl (fun _ => rfl) (fun _ => rfl)
theorem s57_2_11 : stepA E C B 21 r57_2 o57_2_11 (φ, H) = stp (some 19) φ H (opPick (fget φ 10) (fget φ 18) (.bool false)) := nrfl rfl
noncomputable def c57_7 : Code := kR c57_5
noncomputable def c57_8 : Code := kT c57_7
noncomputable def r57_3 : Array Oper := kO c57_8
noncomputable def o57_3_0 : Oper := opN r57_3 0
theorem x57_8 : execA E C (fg 57) B 21 E0 N c57_8 s = regX (runA E C B 21 r57_3 r57_3.toList s) (fun s => gcM E0 [19] (forget s.1 [19], s.2)) := x_reg (ops := r57_3) (by rfl) (by rfl) s
theorem r57_3_l : r57_3.toList = [o57_3_0] := nrfl rfl
theorem s57_3_0 : stepA E C B 21 r57_3 o57_3_0 (φ, H) = some (fput φ 5 (.int .i64 2), H) := nrfl rfl
noncomputable def c57_9 : Code := kE c57_7
theorem x57_9 : execA E C (fg 57) B 21 E0 N c57_9 s = some (.normal, s) := x_skip (by rfl) s
theorem x57_7 : execA E C (fg 57) B 21 E0 N c57_7 (φ, H) = condX (fget φ 19) (execA E C (fg 57) B 21 E0 N c57_8 (φ, H)) (execA E C (fg 57) B 21 E0 N c57_9 (φ, H)) := x_cond (by rfl) _
theorem x57_5 : execA E C (fg 57) B 21 E0 N c57_5 s = seqX (execA E C (fg 57) B 21 E0 N c57_6 s) (execA E C (fg 57) B 21 E0 N c57_7) := x_seq (by rfl) s
noncomputable def c57_10 : Code := kR c57_4
noncomputable def c57_11 : Code := kL c57_10
noncomputable def r57_4 : Array Oper := kO c57_11
noncomputable def o57_4_0 : Oper := opN r57_4 0
noncomputable def o57_4_1 : Oper := opN r57_4 1
theorem x57_11 : execA E C (fg 57) B 21 E0 N c57_11 s = regX (runA E C B 21 r57_4 r57_4.toList s) (fun s => gcM E0 [5, 19, 20] (forget s.1 [5, 19, 20], s.2)) := x_reg (ops := r57_4) (by rfl) (by rfl) s
theorem r57_4_l : r57_4.toList = [o57_4_0, o57_4_1] := nrfl rfl
theorem s57_4_0 : stepA E C B 21 r57_4 o57_4_0 (φ, H) = some (fput φ 20 (fget φ 5), H) := nrfl rfl
theorem s57_4_1 : stepA E C B 21 r57_4 o57_4_1 (φ, H) = some (fput φ 4 (fget φ 20), H) := nrfl rfl
noncomputable def c57_12 : Code := kR c57_10
theorem x57_12 : execA E C (fg 57) B 21 E0 N c57_12 s = some (.ret, s) := x_ret (by rfl) s
theorem x57_10 : execA E C (fg 57) B 21 E0 N c57_10 s = seqX (execA E C (fg 57) B 21 E0 N c57_11 s) (execA E C (fg 57) B 21 E0 N c57_12) := x_seq (by rfl) s
theorem x57_4 : execA E C (fg 57) B 21 E0 N c57_4 s = seqX (execA E C (fg 57) B 21 E0 N c57_5 s) (execA E C (fg 57) B 21 E0 N c57_10) := x_seq (by rfl) s
theorem x57_2 : execA E C (fg 57) B 21 E0 N c57_2 s = seqX (execA E C (fg 57) B 21 E0 N c57_3 s) (execA E C (fg 57) B 21 E0 N c57_4) := x_seq (by rfl) s
theorem x57_0 : execA E C (fg 57) B 21 E0 N c57_0 s = seqX (execA E C (fg 57) B 21 E0 N c57_1 s) (execA E C (fg 57) B 21 E0 N c57_2) := x_seq (by rfl) s
theorem fi_57 : fInfo E 57 = some ⟨21, #[.tmp 4], c57_0⟩ := nrfl rfl
theorem b_57 (args : List AV) : bodyA E C fg N 57 args H B = bodyX E [.tmp 4] (execA E C (fg 57) B 21 H N c57_0 (frame0 args 0 [], H)) := bodyA_eq fi_57 args H
/-! ### f46: novaculite/prop.sided -/
noncomputable def c46_0 : Code := kBody Proofs.Try.f46
noncomputable def c46_1 : Code := kL c46_0
noncomputable def r46_0 : Array Oper := kO c46_1
noncomputable def o46_0_0 : Oper := opN r46_0 0
theorem x46_1 : execA E C (fg 46) B 29 E0 N c46_1 s = regX (runA E C B 29 r46_0 r46_0.toList s) (fun s => gcM E0 [6] (forget s.1 [6], s.2)) := x_reg (ops := r46_0) (by rfl) (by rfl) s
theorem r46_0_l : r46_0.toList = [o46_0_0] := nrfl rfl
theorem s46_0_0 : stepA E C B 29 r46_0 o46_0_0 (φ, H) = some (fput φ 6 (.int .i64 0), H) := nrfl rfl
noncomputable def c46_2 : Code := kR c46_0
noncomputable def c46_3 : Code := kL c46_2
noncomputable def r46_1 : Array Oper := kO c46_3
noncomputable def o46_1_0 : Oper := opN r46_1 0
noncomputable def o46_1_1 : Oper := opN r46_1 1
noncomputable def o46_1_2 : Oper := opN r46_1 2
noncomputable def o46_1_3 : Oper := opN r46_1 3
theorem x46_3 : execA E C (fg 46) B 29 E0 N c46_3 s = regX (runA E C B 29 r46_1 r46_1.toList s) (fun s => gcM E0 [0, 8, 9, 10] (forget s.1 [0, 8, 9, 10], s.2)) := x_reg (ops := r46_1) (by rfl) (by rfl) s
theorem r46_1_l : r46_1.toList = [o46_1_0, o46_1_1, o46_1_2, o46_1_3] := nrfl rfl
theorem s46_1_0 : stepA E C B 29 r46_1 o46_1_0 (φ, H) = some (fput φ 8 (fget φ 0), H) := nrfl rfl
theorem s46_1_1 : stepA E C B 29 r46_1 o46_1_1 (φ, H) = some (fput φ 9 (fget φ 1), H) := nrfl rfl
theorem s46_1_2 : stepA E C B 29 r46_1 o46_1_2 (φ, H) = stp (some 10) φ H (aCall C (fun j => B + j * 29 + 10) true 57 [(fget φ 8), (fget φ 9)]) := nrfl rfl
theorem s46_1_3 : stepA E C B 29 r46_1 o46_1_3 (φ, H) = some (fput φ 7 (fget φ 10), H) := nrfl rfl
noncomputable def c46_4 : Code := kR c46_2
noncomputable def c46_5 : Code := kL c46_4
noncomputable def c46_6 : Code := kB c46_5
noncomputable def c46_7 : Code := kL c46_6
noncomputable def r46_2 : Array Oper := kO c46_7
noncomputable def o46_2_0 : Oper := opN r46_2 0
noncomputable def o46_2_1 : Oper := opN r46_2 1
noncomputable def o46_2_2 : Oper := opN r46_2 2
theorem x46_7 : execA E C (fg 46) B 29 E0 N c46_7 s = regX (runA E C B 29 r46_2 r46_2.toList s) (fun s => gcM E0 [12, 13] (forget s.1 [12, 13], s.2)) := x_reg (ops := r46_2) (by rfl) (by rfl) s
theorem r46_2_l : r46_2.toList = [o46_2_0, o46_2_1, o46_2_2] := nrfl rfl
theorem s46_2_0 : stepA E C B 29 r46_2 o46_2_0 (φ, H) = some (fput φ 12 (fget φ 7), H) := nrfl rfl
theorem s46_2_1 : stepA E C B 29 r46_2 o46_2_1 (φ, H) = stp (some 13) φ H (just (aBin E.T .neq 27 (fget φ 12) (.int .i64 0))) := nrfl rfl
theorem s46_2_2 : stepA E C B 29 r46_2 o46_2_2 (φ, H) = some (fput φ 11 (fget φ 13), H) := nrfl rfl
noncomputable def c46_8 : Code := kR c46_6
noncomputable def c46_9 : Code := kT c46_8
noncomputable def c46_10 : Code := kL c46_9
noncomputable def r46_3 : Array Oper := kO c46_10
noncomputable def o46_3_0 : Oper := opN r46_3 0
noncomputable def o46_3_1 : Oper := opN r46_3 1
theorem x46_10 : execA E C (fg 46) B 29 E0 N c46_10 s = regX (runA E C B 29 r46_3 r46_3.toList s) (fun s => gcM E0 [1, 2, 7, 11, 14] (forget s.1 [1, 2, 7, 11, 14], s.2)) := x_reg (ops := r46_3) (by rfl) (by rfl) s
theorem r46_3_l : r46_3.toList = [o46_3_0, o46_3_1] := nrfl rfl
theorem s46_3_0 : stepA E C B 29 r46_3 o46_3_0 (φ, H) = some (fput φ 14 (fget φ 7), H) := nrfl rfl
theorem s46_3_1 : stepA E C B 29 r46_3 o46_3_1 (φ, H) = some (fput φ 6 (fget φ 14), H) := nrfl rfl
noncomputable def c46_11 : Code := kR c46_9
theorem x46_11 : execA E C (fg 46) B 29 E0 N c46_11 s = some (.ret, s) := x_ret (by rfl) s
theorem x46_9 : execA E C (fg 46) B 29 E0 N c46_9 s = seqX (execA E C (fg 46) B 29 E0 N c46_10 s) (execA E C (fg 46) B 29 E0 N c46_11) := x_seq (by rfl) s
noncomputable def c46_12 : Code := kE c46_8
noncomputable def c46_13 : Code := kL c46_12
noncomputable def r46_4 : Array Oper := kO c46_13
noncomputable def o46_4_0 : Oper := opN r46_4 0
noncomputable def o46_4_1 : Oper := opN r46_4 1
noncomputable def o46_4_2 : Oper := opN r46_4 2
noncomputable def o46_4_3 : Oper := opN r46_4 3
noncomputable def o46_4_4 : Oper := opN r46_4 4
noncomputable def o46_4_5 : Oper := opN r46_4 5
noncomputable def o46_4_6 : Oper := opN r46_4 6
theorem x46_13 : execA E C (fg 46) B 29 E0 N c46_13 s = regX (runA E C B 29 r46_4 r46_4.toList s) (fun s => gcM E0 [7, 11, 16, 17, 18, 19, 20, 21] (forget s.1 [7, 11, 16, 17, 18, 19, 20, 21], s.2)) := x_reg (ops := r46_4) (by rfl) (by rfl) s
theorem r46_4_l : r46_4.toList = [o46_4_0, o46_4_1, o46_4_2, o46_4_3, o46_4_4, o46_4_5, o46_4_6] := nrfl rfl
theorem s46_4_0 : stepA E C B 29 r46_4 o46_4_0 (φ, H) = some (fput φ 16 (fget φ 2), H) := nrfl rfl
theorem s46_4_1 : stepA E C B 29 r46_4 o46_4_1 (φ, H) = stp (some 17) φ H (just (aBin E.T .neq 3 (fget φ 16) (.int .i64 1))) := nrfl rfl
theorem s46_4_2 : stepA E C B 29 r46_4 o46_4_2 (φ, H) = some (fput φ 18 (fget φ 17), H) := nrfl rfl
theorem s46_4_3 : stepA E C B 29 r46_4 o46_4_3 (φ, H) = gd φ 18 true (fun φ => some (fput φ 19 (.tup []), H)) (fun φ => some (fput φ 19 (fget φ 2), H)) := s_gd (j := 2) (oj := o46_4_2) rfl rfl rfl (fun _ => rfl) (fun _ => rfl)
theorem s46_4_4 : stepA E C B 29 r46_4 o46_4_4 (φ, H) = gd φ 18 true (fun φ => some (fput φ 20 (.tup []), H)) (fun φ => stp (some 20) φ H (just (aBin E.T .neq 3 (fget φ 19) (.int .i64 (-1))))) := s_gd (j := 2) (oj := o46_4_2) rfl rfl rfl (fun _ => rfl) (fun _ => rfl)
theorem s46_4_5 : stepA E C B 29 r46_4 o46_4_5 (φ, H) = stp (some 21) φ H (opPick (fget φ 18) (fget φ 20) (.bool false)) := nrfl rfl
theorem s46_4_6 : stepA E C B 29 r46_4 o46_4_6 (φ, H) = some (fput φ 15 (fget φ 21), H) := nrfl rfl
noncomputable def c46_14 : Code := kR c46_12
noncomputable def c46_15 : Code := kT c46_14
noncomputable def c46_16 : Code := kL c46_15
noncomputable def r46_5 : Array Oper := kO c46_16
noncomputable def o46_5_0 : Oper := opN r46_5 0
theorem x46_16 : execA E C (fg 46) B 29 E0 N c46_16 s = regX (runA E C B 29 r46_5 r46_5.toList s) (fun s => gcM E0 [1, 2, 15] (forget s.1 [1, 2, 15], s.2)) := x_reg (ops := r46_5) (by rfl) (by rfl) s
theorem r46_5_l : r46_5.toList = [o46_5_0] := nrfl rfl
theorem s46_5_0 : stepA E C B 29 r46_5 o46_5_0 (φ, H) = some (fput φ 6 (.int .i64 1), H) := nrfl rfl
noncomputable def c46_17 : Code := kR c46_15
theorem x46_17 : execA E C (fg 46) B 29 E0 N c46_17 s = some (.ret, s) := x_ret (by rfl) s
theorem x46_15 : execA E C (fg 46) B 29 E0 N c46_15 s = seqX (execA E C (fg 46) B 29 E0 N c46_16 s) (execA E C (fg 46) B 29 E0 N c46_17) := x_seq (by rfl) s
noncomputable def c46_18 : Code := kE c46_14
noncomputable def c46_19 : Code := kL c46_18
noncomputable def r46_6 : Array Oper := kO c46_19
noncomputable def o46_6_0 : Oper := opN r46_6 0
noncomputable def o46_6_1 : Oper := opN r46_6 1
noncomputable def o46_6_2 : Oper := opN r46_6 2
noncomputable def o46_6_3 : Oper := opN r46_6 3
noncomputable def o46_6_4 : Oper := opN r46_6 4
noncomputable def o46_6_5 : Oper := opN r46_6 5
noncomputable def o46_6_6 : Oper := opN r46_6 6
theorem x46_19 : execA E C (fg 46) B 29 E0 N c46_19 s = regX (runA E C B 29 r46_6 r46_6.toList s) (fun s => gcM E0 [1, 2, 15, 23, 24, 25, 26, 27, 28] (forget s.1 [1, 2, 15, 23, 24, 25, 26, 27, 28], s.2)) := x_reg (ops := r46_6) (by rfl) (by rfl) s
theorem r46_6_l : r46_6.toList = [o46_6_0, o46_6_1, o46_6_2, o46_6_3, o46_6_4, o46_6_5, o46_6_6] := nrfl rfl
theorem s46_6_0 : stepA E C B 29 r46_6 o46_6_0 (φ, H) = some (fput φ 23 (fget φ 2), H) := nrfl rfl
theorem s46_6_1 : stepA E C B 29 r46_6 o46_6_1 (φ, H) = stp (some 24) φ H (just (aBin E.T .lss 3 (fget φ 23) (.int .i64 0))) := nrfl rfl
theorem s46_6_2 : stepA E C B 29 r46_6 o46_6_2 (φ, H) = some (fput φ 25 (fget φ 24), H) := nrfl rfl
theorem s46_6_3 : stepA E C B 29 r46_6 o46_6_3 (φ, H) = gd φ 25 true (fun φ => some (fput φ 26 (.tup []), H)) (fun φ => some (fput φ 26 (fget φ 1), H)) := s_gd (j := 2) (oj := o46_6_2) rfl rfl rfl (fun _ => rfl) (fun _ => rfl)
theorem s46_6_4 : stepA E C B 29 r46_6 o46_6_4 (φ, H) = gd φ 25 true (fun φ => some (fput φ 27 (.tup []), H)) (fun φ => stp (some 27) φ H (just (aBin E.T .eql 3 (fget φ 26) (.int .i64 0)))) := s_gd (j := 2) (oj := o46_6_2) rfl rfl rfl (fun _ => rfl) (fun _ => rfl)
theorem s46_6_5 : stepA E C B 29 r46_6 o46_6_5 (φ, H) = stp (some 28) φ H (opPick (fget φ 25) (fget φ 27) (.bool false)) := nrfl rfl
theorem s46_6_6 : stepA E C B 29 r46_6 o46_6_6 (φ, H) = some (fput φ 22 (fget φ 28), H) := nrfl rfl
noncomputable def c46_20 : Code := kR c46_18
noncomputable def c46_21 : Code := kT c46_20
noncomputable def c46_22 : Code := kL c46_21
noncomputable def r46_7 : Array Oper := kO c46_22
noncomputable def o46_7_0 : Oper := opN r46_7 0
theorem x46_22 : execA E C (fg 46) B 29 E0 N c46_22 s = regX (runA E C B 29 r46_7 r46_7.toList s) (fun s => gcM E0 [22] (forget s.1 [22], s.2)) := x_reg (ops := r46_7) (by rfl) (by rfl) s
theorem r46_7_l : r46_7.toList = [o46_7_0] := nrfl rfl
theorem s46_7_0 : stepA E C B 29 r46_7 o46_7_0 (φ, H) = some (fput φ 6 (.int .i64 21), H) := nrfl rfl
noncomputable def c46_23 : Code := kR c46_21
theorem x46_23 : execA E C (fg 46) B 29 E0 N c46_23 s = some (.ret, s) := x_ret (by rfl) s
theorem x46_21 : execA E C (fg 46) B 29 E0 N c46_21 s = seqX (execA E C (fg 46) B 29 E0 N c46_22 s) (execA E C (fg 46) B 29 E0 N c46_23) := x_seq (by rfl) s
noncomputable def c46_24 : Code := kE c46_20
theorem x46_24 : execA E C (fg 46) B 29 E0 N c46_24 s = some (.normal, s) := x_skip (by rfl) s
theorem x46_20 : execA E C (fg 46) B 29 E0 N c46_20 (φ, H) = condX (fget φ 22) (execA E C (fg 46) B 29 E0 N c46_21 (φ, H)) (execA E C (fg 46) B 29 E0 N c46_24 (φ, H)) := x_cond (by rfl) _
theorem x46_18 : execA E C (fg 46) B 29 E0 N c46_18 s = seqX (execA E C (fg 46) B 29 E0 N c46_19 s) (execA E C (fg 46) B 29 E0 N c46_20) := x_seq (by rfl) s
theorem x46_14 : execA E C (fg 46) B 29 E0 N c46_14 (φ, H) = condX (fget φ 15) (execA E C (fg 46) B 29 E0 N c46_15 (φ, H)) (execA E C (fg 46) B 29 E0 N c46_18 (φ, H)) := x_cond (by rfl) _
theorem x46_12 : execA E C (fg 46) B 29 E0 N c46_12 s = seqX (execA E C (fg 46) B 29 E0 N c46_13 s) (execA E C (fg 46) B 29 E0 N c46_14) := x_seq (by rfl) s
theorem x46_8 : execA E C (fg 46) B 29 E0 N c46_8 (φ, H) = condX (fget φ 11) (execA E C (fg 46) B 29 E0 N c46_9 (φ, H)) (execA E C (fg 46) B 29 E0 N c46_12 (φ, H)) := x_cond (by rfl) _
theorem x46_6 : execA E C (fg 46) B 29 E0 N c46_6 s = seqX (execA E C (fg 46) B 29 E0 N c46_7 s) (execA E C (fg 46) B 29 E0 N c46_8) := x_seq (by rfl) s
theorem x46_5 : execA E C (fg 46) B 29 E0 N c46_5 s = blockX 0 (fun s => (forget s.1 [22], s.2)) (execA E C (fg 46) B 29 E0 N c46_6 s) := x_block (by rfl) (by rfl) s
noncomputable def c46_25 : Code := kR c46_4
noncomputable def c46_26 : Code := kL c46_25
noncomputable def r46_8 : Array Oper := kO c46_26
noncomputable def o46_8_0 : Oper := opN r46_8 0
theorem x46_26 : execA E C (fg 46) B 29 E0 N c46_26 s = regX (runA E C B 29 r46_8 r46_8.toList s) (fun s => gcM E0 [] (forget s.1 [], s.2)) := x_reg (ops := r46_8) (by rfl) (by rfl) s
theorem r46_8_l : r46_8.toList = [o46_8_0] := nrfl rfl
theorem s46_8_0 : stepA E C B 29 r46_8 o46_8_0 (φ, H) = some (fput φ 6 (.int .i64 0), H) := nrfl rfl
noncomputable def c46_27 : Code := kR c46_25
theorem x46_27 : execA E C (fg 46) B 29 E0 N c46_27 s = some (.ret, s) := x_ret (by rfl) s
theorem x46_25 : execA E C (fg 46) B 29 E0 N c46_25 s = seqX (execA E C (fg 46) B 29 E0 N c46_26 s) (execA E C (fg 46) B 29 E0 N c46_27) := x_seq (by rfl) s
theorem x46_4 : execA E C (fg 46) B 29 E0 N c46_4 s = seqX (execA E C (fg 46) B 29 E0 N c46_5 s) (execA E C (fg 46) B 29 E0 N c46_25) := x_seq (by rfl) s
theorem x46_2 : execA E C (fg 46) B 29 E0 N c46_2 s = seqX (execA E C (fg 46) B 29 E0 N c46_3 s) (execA E C (fg 46) B 29 E0 N c46_4) := x_seq (by rfl) s
theorem x46_0 : execA E C (fg 46) B 29 E0 N c46_0 s = seqX (execA E C (fg 46) B 29 E0 N c46_1 s) (execA E C (fg 46) B 29 E0 N c46_2) := x_seq (by rfl) s
theorem fi_46 : fInfo E 46 = some ⟨29, #[.tmp 6], c46_0⟩ := nrfl rfl
theorem b_46 (args : List AV) : bodyA E C fg N 46 args H B = bodyX E [.tmp 6] (execA E C (fg 46) B 29 H N c46_0 (frame0 args 0 [], H)) := bodyA_eq fi_46 args H
/-! ### f12: novaculite/prop.Worst -/
noncomputable def c12_0 : Code := kBody Proofs.Try.f12
noncomputable def c12_1 : Code := kL c12_0
noncomputable def r12_0 : Array Oper := kO c12_1
noncomputable def o12_0_0 : Oper := opN r12_0 0
noncomputable def o12_0_1 : Oper := opN r12_0 1
theorem x12_1 : execA E C (fg 12) B 48 E0 N c12_1 s = regX (runA E C B 48 r12_0 r12_0.toList s) (fun s => gcM E0 [6, 7] (forget s.1 [6, 7], s.2)) := x_reg (ops := r12_0) (by rfl) (by rfl) s
theorem r12_0_l : r12_0.toList = [o12_0_0, o12_0_1] := nrfl rfl
theorem s12_0_0 : stepA E C B 48 r12_0 o12_0_0 (φ, H) = some (fput φ 6 (.nilsl), H) := nrfl rfl
theorem s12_0_1 : stepA E C B 48 r12_0 o12_0_1 (φ, H) = some (fput φ 7 (.int .i64 0), H) := nrfl rfl
noncomputable def c12_2 : Code := kR c12_0
noncomputable def c12_3 : Code := kL c12_2
noncomputable def c12_4 : Code := kL c12_3
noncomputable def r12_1 : Array Oper := kO c12_4
noncomputable def o12_1_0 : Oper := opN r12_1 0
noncomputable def o12_1_1 : Oper := opN r12_1 1
noncomputable def o12_1_2 : Oper := opN r12_1 2
noncomputable def o12_1_3 : Oper := opN r12_1 3
noncomputable def o12_1_4 : Oper := opN r12_1 4
theorem x12_4 : execA E C (fg 12) B 48 E0 N c12_4 s = regX (runA E C B 48 r12_1 r12_1.toList s) (fun s => gcM E0 [14, 15, 16, 17] (forget s.1 [14, 15, 16, 17], s.2)) := x_reg (ops := r12_1) (by rfl) (by rfl) s
theorem r12_1_l : r12_1.toList = [o12_1_0, o12_1_1, o12_1_2, o12_1_3, o12_1_4] := nrfl rfl
theorem s12_1_0 : stepA E C B 48 r12_1 o12_1_0 (φ, H) = some (fput φ 14 (fget φ 0), H) := nrfl rfl
theorem s12_1_1 : stepA E C B 48 r12_1 o12_1_1 (φ, H) = some (fput φ 15 (fget φ 1), H) := nrfl rfl
theorem s12_1_2 : stepA E C B 48 r12_1 o12_1_2 (φ, H) = some (fput φ 16 (fget φ 2), H) := nrfl rfl
theorem s12_1_3 : stepA E C B 48 r12_1 o12_1_3 (φ, H) = stp (some 17) φ H (aCall C (fun j => B + j * 48 + 17) true 46 [(fget φ 14), (fget φ 15), (fget φ 16)]) := nrfl rfl
theorem s12_1_4 : stepA E C B 48 r12_1 o12_1_4 (φ, H) = some (fput φ 8 (fget φ 17), H) := nrfl rfl
noncomputable def c12_5 : Code := kR c12_3
noncomputable def c12_6 : Code := kL c12_5
noncomputable def r12_2 : Array Oper := kO c12_6
noncomputable def o12_2_0 : Oper := opN r12_2 0
noncomputable def o12_2_1 : Oper := opN r12_2 1
theorem x12_6 : execA E C (fg 12) B 48 E0 N c12_6 s = regX (runA E C B 48 r12_2 r12_2.toList s) (fun s => gcM E0 [18] (forget s.1 [18], s.2)) := x_reg (ops := r12_2) (by rfl) (by rfl) s
theorem r12_2_l : r12_2.toList = [o12_2_0, o12_2_1] := nrfl rfl
theorem s12_2_0 : stepA E C B 48 r12_2 o12_2_0 (φ, H) = some (fput φ 18 (fget φ 8), H) := nrfl rfl
theorem s12_2_1 : stepA E C B 48 r12_2 o12_2_1 (φ, H) = stp (some 19) φ H (just (aBin E.T .neq 27 (fget φ 18) (.int .i64 0))) := nrfl rfl
noncomputable def c12_7 : Code := kR c12_5
noncomputable def c12_8 : Code := kT c12_7
noncomputable def c12_9 : Code := kL c12_8
noncomputable def r12_3 : Array Oper := kO c12_9
noncomputable def o12_3_0 : Oper := opN r12_3 0
noncomputable def o12_3_1 : Oper := opN r12_3 1
noncomputable def o12_3_2 : Oper := opN r12_3 2
theorem x12_9 : execA E C (fg 12) B 48 E0 N c12_9 s = regX (runA E C B 48 r12_3 r12_3.toList s) (fun s => gcM E0 [0, 1, 2, 8, 19, 20] (forget s.1 [0, 1, 2, 8, 19, 20], s.2)) := x_reg (ops := r12_3) (by rfl) (by rfl) s
theorem r12_3_l : r12_3.toList = [o12_3_0, o12_3_1, o12_3_2] := nrfl rfl
theorem s12_3_0 : stepA E C B 48 r12_3 o12_3_0 (φ, H) = some (fput φ 20 (fget φ 8), H) := nrfl rfl
theorem s12_3_1 : stepA E C B 48 r12_3 o12_3_1 (φ, H) = some (fput φ 6 (.nilsl), H) := nrfl rfl
theorem s12_3_2 : stepA E C B 48 r12_3 o12_3_2 (φ, H) = some (fput φ 7 (fget φ 20), H) := nrfl rfl
noncomputable def c12_10 : Code := kR c12_8
theorem x12_10 : execA E C (fg 12) B 48 E0 N c12_10 s = some (.ret, s) := x_ret (by rfl) s
theorem x12_8 : execA E C (fg 12) B 48 E0 N c12_8 s = seqX (execA E C (fg 12) B 48 E0 N c12_9 s) (execA E C (fg 12) B 48 E0 N c12_10) := x_seq (by rfl) s
noncomputable def c12_11 : Code := kE c12_7
theorem x12_11 : execA E C (fg 12) B 48 E0 N c12_11 s = some (.normal, s) := x_skip (by rfl) s
theorem x12_7 : execA E C (fg 12) B 48 E0 N c12_7 (φ, H) = condX (fget φ 19) (execA E C (fg 12) B 48 E0 N c12_8 (φ, H)) (execA E C (fg 12) B 48 E0 N c12_11 (φ, H)) := x_cond (by rfl) _
theorem x12_5 : execA E C (fg 12) B 48 E0 N c12_5 s = seqX (execA E C (fg 12) B 48 E0 N c12_6 s) (execA E C (fg 12) B 48 E0 N c12_7) := x_seq (by rfl) s
theorem x12_3 : execA E C (fg 12) B 48 E0 N c12_3 s = seqX (execA E C (fg 12) B 48 E0 N c12_4 s) (execA E C (fg 12) B 48 E0 N c12_5) := x_seq (by rfl) s
noncomputable def c12_12 : Code := kR c12_2
noncomputable def c12_13 : Code := kL c12_12
noncomputable def r12_4 : Array Oper := kO c12_13
noncomputable def o12_4_0 : Oper := opN r12_4 0
noncomputable def o12_4_1 : Oper := opN r12_4 1
noncomputable def o12_4_2 : Oper := opN r12_4 2
noncomputable def o12_4_3 : Oper := opN r12_4 3
noncomputable def o12_4_4 : Oper := opN r12_4 4
theorem x12_13 : execA E C (fg 12) B 48 E0 N c12_13 s = regX (runA E C B 48 r12_4 r12_4.toList s) (fun s => gcM E0 [2, 8, 19, 21, 22, 23, 24] (forget s.1 [2, 8, 19, 21, 22, 23, 24], s.2)) := x_reg (ops := r12_4) (by rfl) (by rfl) s
theorem r12_4_l : r12_4.toList = [o12_4_0, o12_4_1, o12_4_2, o12_4_3, o12_4_4] := nrfl rfl
theorem s12_4_0 : stepA E C B 48 r12_4 o12_4_0 (φ, H) = some (fput φ 21 (fget φ 0), H) := nrfl rfl
theorem s12_4_1 : stepA E C B 48 r12_4 o12_4_1 (φ, H) = some (fput φ 22 (fget φ 1), H) := nrfl rfl
theorem s12_4_2 : stepA E C B 48 r12_4 o12_4_2 (φ, H) = some (fput φ 23 (fget φ 2), H) := nrfl rfl
theorem s12_4_3 : stepA E C B 48 r12_4 o12_4_3 (φ, H) = stp (some 24) φ H (aCall C (fun j => B + j * 48 + 24) true 47 [(fget φ 21), (fget φ 22), (fget φ 23)]) := nrfl rfl
theorem s12_4_4 : stepA E C B 48 r12_4 o12_4_4 (φ, H) = some (fput φ 9 (fget φ 24), H) := nrfl rfl
noncomputable def c12_14 : Code := kR c12_12
noncomputable def c12_15 : Code := kL c12_14
noncomputable def r12_5 : Array Oper := kO c12_15
noncomputable def o12_5_0 : Oper := opN r12_5 0
theorem x12_15 : execA E C (fg 12) B 48 E0 N c12_15 s = regX (runA E C B 48 r12_5 r12_5.toList s) (fun s => gcM E0 [] (forget s.1 [], s.2)) := x_reg (ops := r12_5) (by rfl) (by rfl) s
theorem r12_5_l : r12_5.toList = [o12_5_0] := nrfl rfl
theorem s12_5_0 : stepA E C B 48 r12_5 o12_5_0 (φ, H) = some (fput φ 10 (.nilsl), H) := nrfl rfl
noncomputable def c12_16 : Code := kR c12_14
noncomputable def c12_17 : Code := kL c12_16
noncomputable def c12_18 : Code := kL c12_17
noncomputable def r12_6 : Array Oper := kO c12_18
noncomputable def o12_6_0 : Oper := opN r12_6 0
noncomputable def o12_6_1 : Oper := opN r12_6 1
noncomputable def o12_6_2 : Oper := opN r12_6 2
theorem x12_18 : execA E C (fg 12) B 48 E0 N c12_18 s = regX (runA E C B 48 r12_6 r12_6.toList s) (fun s => gcM E0 [0] (forget s.1 [0], s.2)) := x_reg (ops := r12_6) (by rfl) (by rfl) s
theorem r12_6_l : r12_6.toList = [o12_6_0, o12_6_1, o12_6_2] := nrfl rfl
theorem s12_6_0 : stepA E C B 48 r12_6 o12_6_0 (φ, H) = some (fput φ 25 (fget φ 0), H) := nrfl rfl
theorem s12_6_1 : stepA E C B 48 r12_6 o12_6_1 (φ, H) = stp (some 26) φ H (aBuiltin E.T (B + 26) .len #[22] [(fget φ 25)]) := nrfl rfl
theorem s12_6_2 : stepA E C B 48 r12_6 o12_6_2 (φ, H) = some (fput φ 27 (.int .i64 0), H) := nrfl rfl
noncomputable def c12_19 : Code := kR c12_17
noncomputable def c12_20 : Code := kB c12_19
noncomputable def c12_21 : Code := kB c12_20
noncomputable def c12_22 : Code := kL c12_21
noncomputable def r12_7 : Array Oper := kO c12_22
noncomputable def o12_7_0 : Oper := opN r12_7 0
theorem x12_22 : execA E C (fg 12) B 48 E0 N c12_22 s = regX (runA E C B 48 r12_7 r12_7.toList s) (fun s => gcM E0 [] (forget s.1 [], s.2)) := x_reg (ops := r12_7) (by rfl) (by rfl) s
theorem r12_7_l : r12_7.toList = [o12_7_0] := nrfl rfl
theorem s12_7_0 : stepA E C B 48 r12_7 o12_7_0 (φ, H) = stp (some 28) φ H (just (aBin E.T .lss 3 (fget φ 27) (fget φ 26))) := nrfl rfl
noncomputable def c12_23 : Code := kR c12_21
noncomputable def c12_24 : Code := kL c12_23
noncomputable def c12_25 : Code := kT c12_24
theorem x12_25 : execA E C (fg 12) B 48 E0 N c12_25 s = some (.normal, s) := x_skip (by rfl) s
noncomputable def c12_26 : Code := kE c12_24
theorem x12_26 : execA E C (fg 12) B 48 E0 N c12_26 s = some (.exit 0, s) := x_exit (by rfl) s
theorem x12_24 : execA E C (fg 12) B 48 E0 N c12_24 (φ, H) = condX (fget φ 28) (execA E C (fg 12) B 48 E0 N c12_25 (φ, H)) (execA E C (fg 12) B 48 E0 N c12_26 (φ, H)) := x_cond (by rfl) _
noncomputable def c12_27 : Code := kR c12_23
noncomputable def c12_28 : Code := kL c12_27
noncomputable def c12_29 : Code := kB c12_28
noncomputable def c12_30 : Code := kL c12_29
noncomputable def r12_8 : Array Oper := kO c12_30
noncomputable def o12_8_0 : Oper := opN r12_8 0
noncomputable def o12_8_1 : Oper := opN r12_8 1
noncomputable def o12_8_2 : Oper := opN r12_8 2
noncomputable def o12_8_3 : Oper := opN r12_8 3
noncomputable def o12_8_4 : Oper := opN r12_8 4
noncomputable def o12_8_5 : Oper := opN r12_8 5
theorem x12_30 : execA E C (fg 12) B 48 E0 N c12_30 s = regX (runA E C B 48 r12_8 r12_8.toList s) (fun s => gcM E0 [28, 29, 30, 31] (forget s.1 [28, 29, 30, 31], s.2)) := x_reg (ops := r12_8) (by rfl) (by rfl) s
theorem r12_8_l : r12_8.toList = [o12_8_0, o12_8_1, o12_8_2, o12_8_3, o12_8_4, o12_8_5] := nrfl rfl
theorem s12_8_0 : stepA E C B 48 r12_8 o12_8_0 (φ, H) = some (fput φ 29 (fget φ 27), H) := nrfl rfl
theorem s12_8_1 : stepA E C B 48 r12_8 o12_8_1 (φ, H) = stp (some 30) φ H (just (aIndexAddr E.T 22 (fget φ 25) (fget φ 27))) := nrfl rfl
theorem s12_8_2 : stepA E C B 48 r12_8 o12_8_2 (φ, H) = stp (some 31) φ H (just (aLoad E.T 56 (fget φ 30))) := nrfl rfl
theorem s12_8_3 : stepA E C B 48 r12_8 o12_8_3 (φ, H) = stp (some 12) φ H (opBox (B + 12) (zeroCells E.T 56)) := nrfl rfl
theorem s12_8_4 : stepA E C B 48 r12_8 o12_8_4 (φ, H) = some (fput φ 11 (fget φ 29), H) := nrfl rfl
theorem s12_8_5 : stepA E C B 48 r12_8 o12_8_5 (φ, H) = stp none φ H (opStore E.T 56 (fget φ 12) (fget φ 31)) := nrfl rfl
noncomputable def c12_31 : Code := kR c12_29
noncomputable def c12_32 : Code := kL c12_31
noncomputable def r12_9 : Array Oper := kO c12_32
noncomputable def o12_9_0 : Oper := opN r12_9 0
noncomputable def o12_9_1 : Oper := opN r12_9 1
noncomputable def o12_9_2 : Oper := opN r12_9 2
theorem x12_32 : execA E C (fg 12) B 48 E0 N c12_32 s = regX (runA E C B 48 r12_9 r12_9.toList s) (fun s => gcM E0 [32, 33] (forget s.1 [32, 33], s.2)) := x_reg (ops := r12_9) (by rfl) (by rfl) s
theorem r12_9_l : r12_9.toList = [o12_9_0, o12_9_1, o12_9_2] := nrfl rfl
theorem s12_9_0 : stepA E C B 48 r12_9 o12_9_0 (φ, H) = stp (some 32) φ H (just (aFieldAddr E.T 56 (fget φ 12) 2)) := nrfl rfl
theorem s12_9_1 : stepA E C B 48 r12_9 o12_9_1 (φ, H) = stp (some 33) φ H (just (aLoad E.T 3 (fget φ 32))) := nrfl rfl
theorem s12_9_2 : stepA E C B 48 r12_9 o12_9_2 (φ, H) = some (fput φ 13 (fget φ 33), H) := nrfl rfl
noncomputable def c12_33 : Code := kR c12_31
noncomputable def c12_34 : Code := kL c12_33
noncomputable def c12_35 : Code := kL c12_34
noncomputable def r12_10 : Array Oper := kO c12_35
noncomputable def o12_10_0 : Oper := opN r12_10 0
noncomputable def o12_10_1 : Oper := opN r12_10 1
noncomputable def o12_10_2 : Oper := opN r12_10 2
theorem x12_35 : execA E C (fg 12) B 48 E0 N c12_35 s = regX (runA E C B 48 r12_10 r12_10.toList s) (fun s => gcM E0 [11, 34, 35] (forget s.1 [11, 34, 35], s.2)) := x_reg (ops := r12_10) (by rfl) (by rfl) s
theorem r12_10_l : r12_10.toList = [o12_10_0, o12_10_1, o12_10_2] := nrfl rfl
theorem s12_10_0 : stepA E C B 48 r12_10 o12_10_0 (φ, H) = some (fput φ 34 (fget φ 11), H) := nrfl rfl
theorem s12_10_1 : stepA E C B 48 r12_10 o12_10_1 (φ, H) = some (fput φ 35 (fget φ 1), H) := nrfl rfl
theorem s12_10_2 : stepA E C B 48 r12_10 o12_10_2 (φ, H) = stp (some 36) φ H (just (aBin E.T .geq 3 (fget φ 34) (fget φ 35))) := nrfl rfl
noncomputable def c12_36 : Code := kR c12_34
noncomputable def c12_37 : Code := kT c12_36
noncomputable def r12_11 : Array Oper := kO c12_37
noncomputable def o12_11_0 : Oper := opN r12_11 0
noncomputable def o12_11_1 : Oper := opN r12_11 1
noncomputable def o12_11_2 : Oper := opN r12_11 2
noncomputable def o12_11_3 : Oper := opN r12_11 3
noncomputable def o12_11_4 : Oper := opN r12_11 4
noncomputable def o12_11_5 : Oper := opN r12_11 5
theorem x12_37 : execA E C (fg 12) B 48 E0 N c12_37 s = regX (drawA E C B 48 r12_11 s) (fun s => gcM E0 [12, 36, 37, 38, 39, 40, 41] (forget s.1 [12, 36, 37, 38, 39, 40, 41], s.2)) := x_draw (ops := r12_11) (by rfl) (by rfl) s
theorem r12_11_l : r12_11.toList = [o12_11_0, o12_11_1, o12_11_2, o12_11_3, o12_11_4, o12_11_5] := nrfl rfl
theorem r12_11_st : statOk r12_11 = true := by kernel_rfl
theorem r12_11_dr : drawA E C B 48 r12_11 s = if neat 48 s = true then drX r12_11 (runT E C B 48 r12_11 r12_11.toList 0 s) else none := draw_eq r12_11_st s
theorem r12_11_an (l : List (Nat × Tr)) : dynOk r12_11 l = (!writing l || dynPairs [[], [], [], [1, 2], [0, 1, 2, 3], [0, 1, 2, 3, 4]] (touching l)) := dynOk_eq (by kernel_rfl) l
theorem s12_11_0 : stepT E C B 48 r12_11 o12_11_0 (φ, H) = stpT (some 37) φ H (just (aLoad E.T 56 (fget φ 12))) := stT_go rfl (goT_R rfl rfl)
theorem s12_11_1 : stepT E C B 48 r12_11 o12_11_1 (φ, H) = some ((fput φ 38 (fget φ 9), H), ⟨false, [], []⟩) := stT_go rfl (goT_mv rfl rfl)
theorem s12_11_2 : stepT E C B 48 r12_11 o12_11_2 (φ, H) = stpT (some 39) φ H (just (aLoad E.T 56 (fget φ 12))) := stT_go rfl (goT_R rfl rfl)
theorem s12_11_3 : stepT E C B 48 r12_11 o12_11_3 (φ, H) = callVT E C (B + 48 * 8) (some 40) (fun j => B + j * 48 + 40) φ H (fget φ 38) [(fget φ 39)] true := stT_go rfl (goT_V rfl rfl)
theorem s12_11_4 : stepT E C B 48 r12_11 o12_11_4 (φ, H) = stpT (some 41) φ H (aCall C (fun j => B + j * 48 + 41) true 48 [(fget φ 37), (fget φ 40)]) := stT_go rfl (goT_R rfl rfl)
theorem s12_11_5 : stepT E C B 48 r12_11 o12_11_5 (φ, H) = some ((fput φ 13 (fget φ 41), H), ⟨false, [], []⟩) := stT_go rfl (goT_mv rfl rfl)
noncomputable def c12_38 : Code := kE c12_36
theorem x12_38 : execA E C (fg 12) B 48 E0 N c12_38 s = some (.normal, s) := x_skip (by rfl) s
theorem x12_36 : execA E C (fg 12) B 48 E0 N c12_36 (φ, H) = condX (fget φ 36) (execA E C (fg 12) B 48 E0 N c12_37 (φ, H)) (execA E C (fg 12) B 48 E0 N c12_38 (φ, H)) := x_cond (by rfl) _
theorem x12_34 : execA E C (fg 12) B 48 E0 N c12_34 s = seqX (execA E C (fg 12) B 48 E0 N c12_35 s) (execA E C (fg 12) B 48 E0 N c12_36) := x_seq (by rfl) s
noncomputable def c12_39 : Code := kR c12_33
noncomputable def r12_12 : Array Oper := kO c12_39
noncomputable def o12_12_0 : Oper := opN r12_12 0
noncomputable def o12_12_1 : Oper := opN r12_12 1
noncomputable def o12_12_2 : Oper := opN r12_12 2
noncomputable def o12_12_3 : Oper := opN r12_12 3
noncomputable def o12_12_4 : Oper := opN r12_12 4
theorem x12_39 : execA E C (fg 12) B 48 E0 N c12_39 s = regX (runA E C B 48 r12_12 r12_12.toList s) (fun s => gcM E0 [12, 13, 36, 42, 43, 44, 45] (forget s.1 [12, 13, 36, 42, 43, 44, 45], s.2)) := x_reg (ops := r12_12) (by rfl) (by rfl) s
theorem r12_12_l : r12_12.toList = [o12_12_0, o12_12_1, o12_12_2, o12_12_3, o12_12_4] := nrfl rfl
theorem s12_12_0 : stepA E C B 48 r12_12 o12_12_0 (φ, H) = some (fput φ 42 (fget φ 10), H) := nrfl rfl
theorem s12_12_1 : stepA E C B 48 r12_12 o12_12_1 (φ, H) = some (fput φ 43 (fget φ 13), H) := nrfl rfl
theorem s12_12_2 : stepA E C B 48 r12_12 o12_12_2 (φ, H) = stp (some 44) φ H (aBuildSlice E.T (B + 44) 23 1 (evO E φ) [(0, Operand.tmp 43)]) := nrfl rfl
theorem s12_12_3 : stepA E C B 48 r12_12 o12_12_3 (φ, H) = stp (some 45) φ H (aBuiltin E.T (B + 45) .append #[23, 23] [(fget φ 42), (fget φ 44)]) := nrfl rfl
theorem s12_12_4 : stepA E C B 48 r12_12 o12_12_4 (φ, H) = some (fput φ 10 (fget φ 45), H) := nrfl rfl
theorem x12_33 : execA E C (fg 12) B 48 E0 N c12_33 s = seqX (execA E C (fg 12) B 48 E0 N c12_34 s) (execA E C (fg 12) B 48 E0 N c12_39) := x_seq (by rfl) s
theorem x12_31 : execA E C (fg 12) B 48 E0 N c12_31 s = seqX (execA E C (fg 12) B 48 E0 N c12_32 s) (execA E C (fg 12) B 48 E0 N c12_33) := x_seq (by rfl) s
theorem x12_29 : execA E C (fg 12) B 48 E0 N c12_29 s = seqX (execA E C (fg 12) B 48 E0 N c12_30 s) (execA E C (fg 12) B 48 E0 N c12_31) := x_seq (by rfl) s
theorem x12_28 : execA E C (fg 12) B 48 E0 N c12_28 s = blockX 1 (fun s => (forget s.1 [], s.2)) (execA E C (fg 12) B 48 E0 N c12_29 s) := x_block (by rfl) (by rfl) s
noncomputable def c12_40 : Code := kR c12_27
noncomputable def r12_13 : Array Oper := kO c12_40
noncomputable def o12_13_0 : Oper := opN r12_13 0
noncomputable def o12_13_1 : Oper := opN r12_13 1
theorem x12_40 : execA E C (fg 12) B 48 E0 N c12_40 s = regX (runA E C B 48 r12_13 r12_13.toList s) (fun s => gcM E0 [46] (forget s.1 [46], s.2)) := x_reg (ops := r12_13) (by rfl) (by rfl) s
theorem r12_13_l : r12_13.toList = [o12_13_0, o12_13_1] := nrfl rfl
theorem s12_13_0 : stepA E C B 48 r12_13 o12_13_0 (φ, H) = stp (some 46) φ H (just (aBin E.T .add 3 (fget φ 27) (.int .i64 1))) := nrfl rfl
theorem s12_13_1 : stepA E C B 48 r12_13 o12_13_1 (φ, H) = some (fput φ 27 (fget φ 46), H) := nrfl rfl
theorem x12_27 : execA E C (fg 12) B 48 E0 N c12_27 s = seqX (execA E C (fg 12) B 48 E0 N c12_28 s) (execA E C (fg 12) B 48 E0 N c12_40) := x_seq (by rfl) s
theorem x12_23 : execA E C (fg 12) B 48 E0 N c12_23 s = seqX (execA E C (fg 12) B 48 E0 N c12_24 s) (execA E C (fg 12) B 48 E0 N c12_27) := x_seq (by rfl) s
theorem x12_21 : execA E C (fg 12) B 48 E0 N c12_21 s = seqX (execA E C (fg 12) B 48 E0 N c12_22 s) (execA E C (fg 12) B 48 E0 N c12_23) := x_seq (by rfl) s
-- a loop of f12: x12_20; body c12_21; slots [27, 26, 25, 10, 9, 1]
theorem x12_20 : execA E C (fg 12) B 48 E0 N c12_20 s = iterA (execA E C (fg 12) B 48 E0 N c12_21) (headA E0) N s := x_loop (by rfl) s
theorem x12_19 : execA E C (fg 12) B 48 E0 N c12_19 s = blockX 0 (fun s => (forget s.1 [1, 9, 25, 26, 27, 28], s.2)) (execA E C (fg 12) B 48 E0 N c12_20 s) := x_block (by rfl) (by rfl) s
theorem x12_17 : execA E C (fg 12) B 48 E0 N c12_17 s = seqX (execA E C (fg 12) B 48 E0 N c12_18 s) (execA E C (fg 12) B 48 E0 N c12_19) := x_seq (by rfl) s
noncomputable def c12_41 : Code := kR c12_16
noncomputable def c12_42 : Code := kL c12_41
noncomputable def r12_14 : Array Oper := kO c12_42
noncomputable def o12_14_0 : Oper := opN r12_14 0
noncomputable def o12_14_1 : Oper := opN r12_14 1
noncomputable def o12_14_2 : Oper := opN r12_14 2
theorem x12_42 : execA E C (fg 12) B 48 E0 N c12_42 s = regX (runA E C B 48 r12_14 r12_14.toList s) (fun s => gcM E0 [10, 47] (forget s.1 [10, 47], s.2)) := x_reg (ops := r12_14) (by rfl) (by rfl) s
theorem r12_14_l : r12_14.toList = [o12_14_0, o12_14_1, o12_14_2] := nrfl rfl
theorem s12_14_0 : stepA E C B 48 r12_14 o12_14_0 (φ, H) = some (fput φ 47 (fget φ 10), H) := nrfl rfl
theorem s12_14_1 : stepA E C B 48 r12_14 o12_14_1 (φ, H) = some (fput φ 6 (fget φ 47), H) := nrfl rfl
theorem s12_14_2 : stepA E C B 48 r12_14 o12_14_2 (φ, H) = some (fput φ 7 (.int .i64 0), H) := nrfl rfl
noncomputable def c12_43 : Code := kR c12_41
theorem x12_43 : execA E C (fg 12) B 48 E0 N c12_43 s = some (.ret, s) := x_ret (by rfl) s
theorem x12_41 : execA E C (fg 12) B 48 E0 N c12_41 s = seqX (execA E C (fg 12) B 48 E0 N c12_42 s) (execA E C (fg 12) B 48 E0 N c12_43) := x_seq (by rfl) s
theorem x12_16 : execA E C (fg 12) B 48 E0 N c12_16 s = seqX (execA E C (fg 12) B 48 E0 N c12_17 s) (execA E C (fg 12) B 48 E0 N c12_41) := x_seq (by rfl) s
theorem x12_14 : execA E C (fg 12) B 48 E0 N c12_14 s = seqX (execA E C (fg 12) B 48 E0 N c12_15 s) (execA E C (fg 12) B 48 E0 N c12_16) := x_seq (by rfl) s
theorem x12_12 : execA E C (fg 12) B 48 E0 N c12_12 s = seqX (execA E C (fg 12) B 48 E0 N c12_13 s) (execA E C (fg 12) B 48 E0 N c12_14) := x_seq (by rfl) s
theorem x12_2 : execA E C (fg 12) B 48 E0 N c12_2 s = seqX (execA E C (fg 12) B 48 E0 N c12_3 s) (execA E C (fg 12) B 48 E0 N c12_12) := x_seq (by rfl) s
theorem x12_0 : execA E C (fg 12) B 48 E0 N c12_0 s = seqX (execA E C (fg 12) B 48 E0 N c12_1 s) (execA E C (fg 12) B 48 E0 N c12_2) := x_seq (by rfl) s
theorem fi_12 : fInfo E 12 = some ⟨48, #[.tmp 6, .tmp 7], c12_0⟩ := nrfl rfl
theorem b_12 (args : List AV) : bodyA E C fg N 12 args H B = bodyX E [.tmp 6, .tmp 7] (execA E C (fg 12) B 48 H N c12_0 (frame0 args 0 [], H)) := bodyA_eq fi_12 args H
/-! ### f48: (novaculite/prop.Stone).worst -/
noncomputable def c48_0 : Code := kBody Proofs.Try.f48
noncomputable def c48_1 : Code := kL c48_0
noncomputable def r48_0 : Array Oper := kO c48_1
noncomputable def o48_0_0 : Oper := opN r48_0 0
noncomputable def o48_0_1 : Oper := opN r48_0 1
theorem x48_1 : execA E C (fg 48) B 11 E0 N c48_1 s = regX (runA E C B 11 r48_0 r48_0.toList s) (fun s => gcM E0 [0, 4] (forget s.1 [0, 4], s.2)) := x_reg (ops := r48_0) (by rfl) (by rfl) s
theorem r48_0_l : r48_0.toList = [o48_0_0, o48_0_1] := nrfl rfl
theorem s48_0_0 : stepA E C B 11 r48_0 o48_0_0 (φ, H) = stp (some 2) φ H (opBox (B + 2) (acells (fget φ 0))) := nrfl rfl
theorem s48_0_1 : stepA E C B 11 r48_0 o48_0_1 (φ, H) = some (fput φ 4 (.int .i64 0), H) := nrfl rfl
noncomputable def c48_2 : Code := kR c48_0
noncomputable def c48_3 : Code := kL c48_2
noncomputable def c48_4 : Code := kL c48_3
noncomputable def r48_1 : Array Oper := kO c48_4
noncomputable def o48_1_0 : Oper := opN r48_1 0
noncomputable def o48_1_1 : Oper := opN r48_1 1
theorem x48_4 : execA E C (fg 48) B 11 E0 N c48_4 s = regX (runA E C B 11 r48_1 r48_1.toList s) (fun s => gcM E0 [1, 5] (forget s.1 [1, 5], s.2)) := x_reg (ops := r48_1) (by rfl) (by rfl) s
theorem r48_1_l : r48_1.toList = [o48_1_0, o48_1_1] := nrfl rfl
theorem s48_1_0 : stepA E C B 11 r48_1 o48_1_0 (φ, H) = some (fput φ 5 (fget φ 1), H) := nrfl rfl
theorem s48_1_1 : stepA E C B 11 r48_1 o48_1_1 (φ, H) = stp (some 6) φ H (just (aBin E.T .gtr 3 (fget φ 5) (.int .i64 0))) := nrfl rfl
noncomputable def c48_5 : Code := kR c48_3
noncomputable def c48_6 : Code := kT c48_5
noncomputable def c48_7 : Code := kL c48_6
noncomputable def r48_2 : Array Oper := kO c48_7
noncomputable def o48_2_0 : Oper := opN r48_2 0
noncomputable def o48_2_1 : Oper := opN r48_2 1
noncomputable def o48_2_2 : Oper := opN r48_2 2
theorem x48_7 : execA E C (fg 48) B 11 E0 N c48_7 s = regX (runA E C B 11 r48_2 r48_2.toList s) (fun s => gcM E0 [2, 6, 7, 8] (forget s.1 [2, 6, 7, 8], s.2)) := x_reg (ops := r48_2) (by rfl) (by rfl) s
theorem r48_2_l : r48_2.toList = [o48_2_0, o48_2_1, o48_2_2] := nrfl rfl
theorem s48_2_0 : stepA E C B 11 r48_2 o48_2_0 (φ, H) = stp (some 7) φ H (just (aFieldAddr E.T 56 (fget φ 2) 3)) := nrfl rfl
theorem s48_2_1 : stepA E C B 11 r48_2 o48_2_1 (φ, H) = stp (some 8) φ H (just (aLoad E.T 3 (fget φ 7))) := nrfl rfl
theorem s48_2_2 : stepA E C B 11 r48_2 o48_2_2 (φ, H) = some (fput φ 4 (fget φ 8), H) := nrfl rfl
noncomputable def c48_8 : Code := kR c48_6
theorem x48_8 : execA E C (fg 48) B 11 E0 N c48_8 s = some (.ret, s) := x_ret (by rfl) s
theorem x48_6 : execA E C (fg 48) B 11 E0 N c48_6 s = seqX (execA E C (fg 48) B 11 E0 N c48_7 s) (execA E C (fg 48) B 11 E0 N c48_8) := x_seq (by rfl) s
noncomputable def c48_9 : Code := kE c48_5
theorem x48_9 : execA E C (fg 48) B 11 E0 N c48_9 s = some (.normal, s) := x_skip (by rfl) s
theorem x48_5 : execA E C (fg 48) B 11 E0 N c48_5 (φ, H) = condX (fget φ 6) (execA E C (fg 48) B 11 E0 N c48_6 (φ, H)) (execA E C (fg 48) B 11 E0 N c48_9 (φ, H)) := x_cond (by rfl) _
theorem x48_3 : execA E C (fg 48) B 11 E0 N c48_3 s = seqX (execA E C (fg 48) B 11 E0 N c48_4 s) (execA E C (fg 48) B 11 E0 N c48_5) := x_seq (by rfl) s
noncomputable def c48_10 : Code := kR c48_2
noncomputable def c48_11 : Code := kL c48_10
noncomputable def r48_3 : Array Oper := kO c48_11
noncomputable def o48_3_0 : Oper := opN r48_3 0
noncomputable def o48_3_1 : Oper := opN r48_3 1
noncomputable def o48_3_2 : Oper := opN r48_3 2
theorem x48_11 : execA E C (fg 48) B 11 E0 N c48_11 s = regX (runA E C B 11 r48_3 r48_3.toList s) (fun s => gcM E0 [2, 6, 9, 10] (forget s.1 [2, 6, 9, 10], s.2)) := x_reg (ops := r48_3) (by rfl) (by rfl) s
theorem r48_3_l : r48_3.toList = [o48_3_0, o48_3_1, o48_3_2] := nrfl rfl
theorem s48_3_0 : stepA E C B 11 r48_3 o48_3_0 (φ, H) = stp (some 9) φ H (just (aFieldAddr E.T 56 (fget φ 2) 2)) := nrfl rfl
theorem s48_3_1 : stepA E C B 11 r48_3 o48_3_1 (φ, H) = stp (some 10) φ H (just (aLoad E.T 3 (fget φ 9))) := nrfl rfl
theorem s48_3_2 : stepA E C B 11 r48_3 o48_3_2 (φ, H) = some (fput φ 4 (fget φ 10), H) := nrfl rfl
noncomputable def c48_12 : Code := kR c48_10
theorem x48_12 : execA E C (fg 48) B 11 E0 N c48_12 s = some (.ret, s) := x_ret (by rfl) s
theorem x48_10 : execA E C (fg 48) B 11 E0 N c48_10 s = seqX (execA E C (fg 48) B 11 E0 N c48_11 s) (execA E C (fg 48) B 11 E0 N c48_12) := x_seq (by rfl) s
theorem x48_2 : execA E C (fg 48) B 11 E0 N c48_2 s = seqX (execA E C (fg 48) B 11 E0 N c48_3 s) (execA E C (fg 48) B 11 E0 N c48_10) := x_seq (by rfl) s
theorem x48_0 : execA E C (fg 48) B 11 E0 N c48_0 s = seqX (execA E C (fg 48) B 11 E0 N c48_1 s) (execA E C (fg 48) B 11 E0 N c48_2) := x_seq (by rfl) s
theorem fi_48 : fInfo E 48 = some ⟨11, #[.tmp 4], c48_0⟩ := nrfl rfl
theorem b_48 (args : List AV) : bodyA E C fg N 48 args H B = bodyX E [.tmp 4] (execA E C (fg 48) B 11 H N c48_0 (frame0 args 0 [], H)) := bodyA_eq fi_48 args H
/-! ### f51: novaculite/prop.weighed -/
noncomputable def c51_0 : Code := kBody Proofs.Try.f51
noncomputable def c51_1 : Code := kL c51_0
noncomputable def r51_0 : Array Oper := kO c51_1
noncomputable def o51_0_0 : Oper := opN r51_0 0
theorem x51_1 : execA E C (fg 51) B 36 E0 N c51_1 s = regX (runA E C B 36 r51_0 r51_0.toList s) (fun s => gcM E0 [4] (forget s.1 [4], s.2)) := x_reg (ops := r51_0) (by rfl) (by rfl) s
theorem r51_0_l : r51_0.toList = [o51_0_0] := nrfl rfl
theorem s51_0_0 : stepA E C B 36 r51_0 o51_0_0 (φ, H) = some (fput φ 4 (.int .i64 0), H) := nrfl rfl
noncomputable def c51_2 : Code := kR c51_0
noncomputable def c51_3 : Code := kL c51_2
noncomputable def c51_4 : Code := kL c51_3
noncomputable def r51_1 : Array Oper := kO c51_4
noncomputable def o51_1_0 : Oper := opN r51_1 0
noncomputable def o51_1_1 : Oper := opN r51_1 1
noncomputable def o51_1_2 : Oper := opN r51_1 2
noncomputable def o51_1_3 : Oper := opN r51_1 3
noncomputable def o51_1_4 : Oper := opN r51_1 4
theorem x51_4 : execA E C (fg 51) B 36 E0 N c51_4 s = regX (runA E C B 36 r51_1 r51_1.toList s) (fun s => gcM E0 [7, 8, 9, 10] (forget s.1 [7, 8, 9, 10], s.2)) := x_reg (ops := r51_1) (by rfl) (by rfl) s
theorem r51_1_l : r51_1.toList = [o51_1_0, o51_1_1, o51_1_2, o51_1_3, o51_1_4] := nrfl rfl
theorem s51_1_0 : stepA E C B 36 r51_1 o51_1_0 (φ, H) = some (fput φ 7 (fget φ 1), H) := nrfl rfl
theorem s51_1_1 : stepA E C B 36 r51_1 o51_1_1 (φ, H) = stp (some 8) φ H (aBuiltin E.T (B + 8) .len #[23] [(fget φ 7)]) := nrfl rfl
theorem s51_1_2 : stepA E C B 36 r51_1 o51_1_2 (φ, H) = some (fput φ 9 (fget φ 0), H) := nrfl rfl
theorem s51_1_3 : stepA E C B 36 r51_1 o51_1_3 (φ, H) = stp (some 10) φ H (aBuiltin E.T (B + 10) .len #[22] [(fget φ 9)]) := nrfl rfl
theorem s51_1_4 : stepA E C B 36 r51_1 o51_1_4 (φ, H) = stp (some 11) φ H (just (aBin E.T .neq 3 (fget φ 8) (fget φ 10))) := nrfl rfl
noncomputable def c51_5 : Code := kR c51_3
noncomputable def c51_6 : Code := kT c51_5
noncomputable def c51_7 : Code := kL c51_6
noncomputable def r51_2 : Array Oper := kO c51_7
noncomputable def o51_2_0 : Oper := opN r51_2 0
theorem x51_7 : execA E C (fg 51) B 36 E0 N c51_7 s = regX (runA E C B 36 r51_2 r51_2.toList s) (fun s => gcM E0 [0, 1, 11] (forget s.1 [0, 1, 11], s.2)) := x_reg (ops := r51_2) (by rfl) (by rfl) s
theorem r51_2_l : r51_2.toList = [o51_2_0] := nrfl rfl
theorem s51_2_0 : stepA E C B 36 r51_2 o51_2_0 (φ, H) = some (fput φ 4 (.int .i64 5), H) := nrfl rfl
noncomputable def c51_8 : Code := kR c51_6
theorem x51_8 : execA E C (fg 51) B 36 E0 N c51_8 s = some (.ret, s) := x_ret (by rfl) s
theorem x51_6 : execA E C (fg 51) B 36 E0 N c51_6 s = seqX (execA E C (fg 51) B 36 E0 N c51_7 s) (execA E C (fg 51) B 36 E0 N c51_8) := x_seq (by rfl) s
noncomputable def c51_9 : Code := kE c51_5
theorem x51_9 : execA E C (fg 51) B 36 E0 N c51_9 s = some (.normal, s) := x_skip (by rfl) s
theorem x51_5 : execA E C (fg 51) B 36 E0 N c51_5 (φ, H) = condX (fget φ 11) (execA E C (fg 51) B 36 E0 N c51_6 (φ, H)) (execA E C (fg 51) B 36 E0 N c51_9 (φ, H)) := x_cond (by rfl) _
theorem x51_3 : execA E C (fg 51) B 36 E0 N c51_3 s = seqX (execA E C (fg 51) B 36 E0 N c51_4 s) (execA E C (fg 51) B 36 E0 N c51_5) := x_seq (by rfl) s
noncomputable def c51_10 : Code := kR c51_2
noncomputable def c51_11 : Code := kL c51_10
noncomputable def c51_12 : Code := kL c51_11
noncomputable def r51_3 : Array Oper := kO c51_12
noncomputable def o51_3_0 : Oper := opN r51_3 0
noncomputable def o51_3_1 : Oper := opN r51_3 1
noncomputable def o51_3_2 : Oper := opN r51_3 2
theorem x51_12 : execA E C (fg 51) B 36 E0 N c51_12 s = regX (runA E C B 36 r51_3 r51_3.toList s) (fun s => gcM E0 [1, 11] (forget s.1 [1, 11], s.2)) := x_reg (ops := r51_3) (by rfl) (by rfl) s
theorem r51_3_l : r51_3.toList = [o51_3_0, o51_3_1, o51_3_2] := nrfl rfl
theorem s51_3_0 : stepA E C B 36 r51_3 o51_3_0 (φ, H) = some (fput φ 12 (fget φ 1), H) := nrfl rfl
theorem s51_3_1 : stepA E C B 36 r51_3 o51_3_1 (φ, H) = stp (some 13) φ H (aBuiltin E.T (B + 13) .len #[23] [(fget φ 12)]) := nrfl rfl
theorem s51_3_2 : stepA E C B 36 r51_3 o51_3_2 (φ, H) = some (fput φ 14 (.int .i64 0), H) := nrfl rfl
noncomputable def c51_13 : Code := kR c51_11
noncomputable def c51_14 : Code := kB c51_13
noncomputable def c51_15 : Code := kB c51_14
noncomputable def c51_16 : Code := kL c51_15
noncomputable def r51_4 : Array Oper := kO c51_16
noncomputable def o51_4_0 : Oper := opN r51_4 0
theorem x51_16 : execA E C (fg 51) B 36 E0 N c51_16 s = regX (runA E C B 36 r51_4 r51_4.toList s) (fun s => gcM E0 [] (forget s.1 [], s.2)) := x_reg (ops := r51_4) (by rfl) (by rfl) s
theorem r51_4_l : r51_4.toList = [o51_4_0] := nrfl rfl
theorem s51_4_0 : stepA E C B 36 r51_4 o51_4_0 (φ, H) = stp (some 15) φ H (just (aBin E.T .lss 3 (fget φ 14) (fget φ 13))) := nrfl rfl
noncomputable def c51_17 : Code := kR c51_15
noncomputable def c51_18 : Code := kL c51_17
noncomputable def c51_19 : Code := kT c51_18
theorem x51_19 : execA E C (fg 51) B 36 E0 N c51_19 s = some (.normal, s) := x_skip (by rfl) s
noncomputable def c51_20 : Code := kE c51_18
theorem x51_20 : execA E C (fg 51) B 36 E0 N c51_20 s = some (.exit 0, s) := x_exit (by rfl) s
theorem x51_18 : execA E C (fg 51) B 36 E0 N c51_18 (φ, H) = condX (fget φ 15) (execA E C (fg 51) B 36 E0 N c51_19 (φ, H)) (execA E C (fg 51) B 36 E0 N c51_20 (φ, H)) := x_cond (by rfl) _
noncomputable def c51_21 : Code := kR c51_17
noncomputable def c51_22 : Code := kL c51_21
noncomputable def c51_23 : Code := kB c51_22
noncomputable def c51_24 : Code := kL c51_23
noncomputable def r51_5 : Array Oper := kO c51_24
noncomputable def o51_5_0 : Oper := opN r51_5 0
noncomputable def o51_5_1 : Oper := opN r51_5 1
noncomputable def o51_5_2 : Oper := opN r51_5 2
noncomputable def o51_5_3 : Oper := opN r51_5 3
noncomputable def o51_5_4 : Oper := opN r51_5 4
theorem x51_24 : execA E C (fg 51) B 36 E0 N c51_24 s = regX (runA E C B 36 r51_5 r51_5.toList s) (fun s => gcM E0 [15, 16, 17, 18] (forget s.1 [15, 16, 17, 18], s.2)) := x_reg (ops := r51_5) (by rfl) (by rfl) s
theorem r51_5_l : r51_5.toList = [o51_5_0, o51_5_1, o51_5_2, o51_5_3, o51_5_4] := nrfl rfl
theorem s51_5_0 : stepA E C B 36 r51_5 o51_5_0 (φ, H) = some (fput φ 16 (fget φ 14), H) := nrfl rfl
theorem s51_5_1 : stepA E C B 36 r51_5 o51_5_1 (φ, H) = stp (some 17) φ H (just (aIndexAddr E.T 23 (fget φ 12) (fget φ 14))) := nrfl rfl
theorem s51_5_2 : stepA E C B 36 r51_5 o51_5_2 (φ, H) = stp (some 18) φ H (just (aLoad E.T 3 (fget φ 17))) := nrfl rfl
theorem s51_5_3 : stepA E C B 36 r51_5 o51_5_3 (φ, H) = some (fput φ 5 (fget φ 16), H) := nrfl rfl
theorem s51_5_4 : stepA E C B 36 r51_5 o51_5_4 (φ, H) = some (fput φ 6 (fget φ 18), H) := nrfl rfl
noncomputable def c51_25 : Code := kR c51_23
noncomputable def c51_26 : Code := kL c51_25
noncomputable def r51_6 : Array Oper := kO c51_26
noncomputable def o51_6_0 : Oper := opN r51_6 0
noncomputable def o51_6_1 : Oper := opN r51_6 1
noncomputable def o51_6_2 : Oper := opN r51_6 2
noncomputable def o51_6_3 : Oper := opN r51_6 3
noncomputable def o51_6_4 : Oper := opN r51_6 4
noncomputable def o51_6_5 : Oper := opN r51_6 5
noncomputable def o51_6_6 : Oper := opN r51_6 6
noncomputable def o51_6_7 : Oper := opN r51_6 7
noncomputable def o51_6_8 : Oper := opN r51_6 8
noncomputable def o51_6_9 : Oper := opN r51_6 9
noncomputable def o51_6_10 : Oper := opN r51_6 10
noncomputable def o51_6_11 : Oper := opN r51_6 11
noncomputable def o51_6_12 : Oper := opN r51_6 12
noncomputable def o51_6_13 : Oper := opN r51_6 13
noncomputable def o51_6_14 : Oper := opN r51_6 14
noncomputable def o51_6_15 : Oper := opN r51_6 15
theorem x51_26 : execA E C (fg 51) B 36 E0 N c51_26 s = regX (runA E C B 36 r51_6 r51_6.toList s) (fun s => gcM E0 [5, 6, 19, 20, 21, 22, 23, 24, 25, 26, 27, 28, 29, 30, 31, 32, 33] (forget s.1 [5, 6, 19, 20, 21, 22, 23, 24, 25, 26, 27, 28, 29, 30, 31, 32, 33], s.2)) := x_reg (ops := r51_6) (by rfl) (by rfl) s
theorem r51_6_l : r51_6.toList = [o51_6_0, o51_6_1, o51_6_2, o51_6_3, o51_6_4, o51_6_5, o51_6_6, o51_6_7, o51_6_8, o51_6_9, o51_6_10, o51_6_11, o51_6_12, o51_6_13, o51_6_14, o51_6_15] := nrfl rfl
theorem s51_6_0 : stepA E C B 36 r51_6 o51_6_0 (φ, H) = some (fput φ 19 (fget φ 6), H) := nrfl rfl
theorem s51_6_1 : stepA E C B 36 r51_6 o51_6_1 (φ, H) = some (fput φ 20 (fget φ 0), H) := nrfl rfl
theorem s51_6_2 : stepA E C B 36 r51_6 o51_6_2 (φ, H) = some (fput φ 21 (fget φ 5), H) := nrfl rfl
theorem s51_6_3 : stepA E C B 36 r51_6 o51_6_3 (φ, H) = stp (some 22) φ H (just (aIndexAddr E.T 22 (fget φ 20) (fget φ 21))) := nrfl rfl
theorem s51_6_4 : stepA E C B 36 r51_6 o51_6_4 (φ, H) = stp (some 23) φ H (just (aFieldAddr E.T 56 (fget φ 22) 2)) := nrfl rfl
theorem s51_6_5 : stepA E C B 36 r51_6 o51_6_5 (φ, H) = stp (some 24) φ H (just (aLoad E.T 3 (fget φ 23))) := nrfl rfl
theorem s51_6_6 : stepA E C B 36 r51_6 o51_6_6 (φ, H) = stp (some 25) φ H (just (aBin E.T .lss 3 (fget φ 19) (fget φ 24))) := nrfl rfl
theorem s51_6_7 : stepA E C B 36 r51_6 o51_6_7 (φ, H) = some (fput φ 26 (fget φ 25), H) := nrfl rfl
theorem s51_6_8 : stepA E C B 36 r51_6 o51_6_8 (φ, H) = gd φ 26 false (fun φ => some (fput φ 27 (.tup []), H)) (fun φ => some (fput φ 27 (fget φ 6), H)) := s_gd (j := 7) (oj := o51_6_7) rfl rfl rfl (fun _ => rfl) (fun _ => rfl)
theorem s51_6_9 : stepA E C B 36 r51_6 o51_6_9 (φ, H) = gd φ 26 false (fun φ => some (fput φ 28 (.tup []), H)) (fun φ => some (fput φ 28 (fget φ 0), H)) := s_gd (j := 7) (oj := o51_6_7) rfl rfl rfl (fun _ => rfl) (fun _ => rfl)
theorem s51_6_10 : stepA E C B 36 r51_6 o51_6_10 (φ, H) = gd φ 26 false (fun φ => some (fput φ 29 (.tup []), H)) (fun φ => some (fput φ 29 (fget φ 5), H)) := s_gd (j := 7) (oj := o51_6_7) rfl rfl rfl (fun _ => rfl) (fun _ => rfl)
theorem s51_6_11 : stepA E C B 36 r51_6 o51_6_11 (φ, H) = gd φ 26 false (fun φ => some (fput φ 30 (.tup []), H)) (fun φ => stp (some 30) φ H (just (aIndexAddr E.T 22 (fget φ 28) (fget φ 29)))) := s_gd (j := 7) (oj := o51_6_7) rfl rfl rfl (fun _ => rfl) (fun _ => rfl)
theorem s51_6_12 : stepA E C B 36 r51_6 o51_6_12 (φ, H) = gd φ 26 false (fun φ => some (fput φ 31 (.tup []), H)) (fun φ => stp (some 31) φ H (just (aFieldAddr E.T 56 (fget φ 30) 3))) := s_gd (j := 7) (oj := o51_6_7) rfl rfl rfl (fun _ => rfl) (fun _ => rfl)
theorem s51_6_13 : stepA E C B 36 r51_6 o51_6_13 (φ, H) = gd φ 26 false (fun φ => some (fput φ 32 (.tup []), H)) (fun φ => stp (some 32) φ H (just (aLoad E.T 3 (fget φ 31)))) := s_gd (j := 7) (oj := o51_6_7) rfl rfl rfl (fun _ => rfl) (fun _ => rfl)
theorem s51_6_14 : stepA E C B 36 r51_6 o51_6_14 (φ, H) = gd φ 26 false (fun φ => some (fput φ 33 (.tup []), H)) (fun φ => stp (some 33) φ H (just (aBin E.T .gtr 3 (fget φ 27) (fget φ 32)))) := s_gd (j := 7) (oj := o51_6_7) rfl rfl rfl (fun _ => rfl) (fun _ => rfl)
theorem s51_6_15 : stepA E C B 36 r51_6 o51_6_15 (φ, H) = stp (some 34) φ H (opPick (fget φ 26) (.bool true) (fget φ 33)) := nrfl rfl
noncomputable def c51_27 : Code := kR c51_25
noncomputable def c51_28 : Code := kT c51_27
noncomputable def c51_29 : Code := kL c51_28
noncomputable def r51_7 : Array Oper := kO c51_29
noncomputable def o51_7_0 : Oper := opN r51_7 0
theorem x51_29 : execA E C (fg 51) B 36 E0 N c51_29 s = regX (runA E C B 36 r51_7 r51_7.toList s) (fun s => gcM E0 [0, 12, 13, 14, 34] (forget s.1 [0, 12, 13, 14, 34], s.2)) := x_reg (ops := r51_7) (by rfl) (by rfl) s
theorem r51_7_l : r51_7.toList = [o51_7_0] := nrfl rfl
theorem s51_7_0 : stepA E C B 36 r51_7 o51_7_0 (φ, H) = some (fput φ 4 (.int .i64 1), H) := nrfl rfl
noncomputable def c51_30 : Code := kR c51_28
theorem x51_30 : execA E C (fg 51) B 36 E0 N c51_30 s = some (.ret, s) := x_ret (by rfl) s
theorem x51_28 : execA E C (fg 51) B 36 E0 N c51_28 s = seqX (execA E C (fg 51) B 36 E0 N c51_29 s) (execA E C (fg 51) B 36 E0 N c51_30) := x_seq (by rfl) s
noncomputable def c51_31 : Code := kE c51_27
theorem x51_31 : execA E C (fg 51) B 36 E0 N c51_31 s = some (.normal, s) := x_skip (by rfl) s
theorem x51_27 : execA E C (fg 51) B 36 E0 N c51_27 (φ, H) = condX (fget φ 34) (execA E C (fg 51) B 36 E0 N c51_28 (φ, H)) (execA E C (fg 51) B 36 E0 N c51_31 (φ, H)) := x_cond (by rfl) _
theorem x51_25 : execA E C (fg 51) B 36 E0 N c51_25 s = seqX (execA E C (fg 51) B 36 E0 N c51_26 s) (execA E C (fg 51) B 36 E0 N c51_27) := x_seq (by rfl) s
theorem x51_23 : execA E C (fg 51) B 36 E0 N c51_23 s = seqX (execA E C (fg 51) B 36 E0 N c51_24 s) (execA E C (fg 51) B 36 E0 N c51_25) := x_seq (by rfl) s
theorem x51_22 : execA E C (fg 51) B 36 E0 N c51_22 s = blockX 1 (fun s => (forget s.1 [34], s.2)) (execA E C (fg 51) B 36 E0 N c51_23 s) := x_block (by rfl) (by rfl) s
noncomputable def c51_32 : Code := kR c51_21
noncomputable def r51_8 : Array Oper := kO c51_32
noncomputable def o51_8_0 : Oper := opN r51_8 0
noncomputable def o51_8_1 : Oper := opN r51_8 1
theorem x51_32 : execA E C (fg 51) B 36 E0 N c51_32 s = regX (runA E C B 36 r51_8 r51_8.toList s) (fun s => gcM E0 [35] (forget s.1 [35], s.2)) := x_reg (ops := r51_8) (by rfl) (by rfl) s
theorem r51_8_l : r51_8.toList = [o51_8_0, o51_8_1] := nrfl rfl
theorem s51_8_0 : stepA E C B 36 r51_8 o51_8_0 (φ, H) = stp (some 35) φ H (just (aBin E.T .add 3 (fget φ 14) (.int .i64 1))) := nrfl rfl
theorem s51_8_1 : stepA E C B 36 r51_8 o51_8_1 (φ, H) = some (fput φ 14 (fget φ 35), H) := nrfl rfl
theorem x51_21 : execA E C (fg 51) B 36 E0 N c51_21 s = seqX (execA E C (fg 51) B 36 E0 N c51_22 s) (execA E C (fg 51) B 36 E0 N c51_32) := x_seq (by rfl) s
theorem x51_17 : execA E C (fg 51) B 36 E0 N c51_17 s = seqX (execA E C (fg 51) B 36 E0 N c51_18 s) (execA E C (fg 51) B 36 E0 N c51_21) := x_seq (by rfl) s
theorem x51_15 : execA E C (fg 51) B 36 E0 N c51_15 s = seqX (execA E C (fg 51) B 36 E0 N c51_16 s) (execA E C (fg 51) B 36 E0 N c51_17) := x_seq (by rfl) s
-- a loop of f51: x51_14; body c51_15; slots [14, 13, 12, 0]
theorem x51_14 : execA E C (fg 51) B 36 E0 N c51_14 s = iterA (execA E C (fg 51) B 36 E0 N c51_15) (headA E0) N s := x_loop (by rfl) s
theorem x51_13 : execA E C (fg 51) B 36 E0 N c51_13 s = blockX 0 (fun s => (forget s.1 [0, 12, 13, 14, 15], s.2)) (execA E C (fg 51) B 36 E0 N c51_14 s) := x_block (by rfl) (by rfl) s
theorem x51_11 : execA E C (fg 51) B 36 E0 N c51_11 s = seqX (execA E C (fg 51) B 36 E0 N c51_12 s) (execA E C (fg 51) B 36 E0 N c51_13) := x_seq (by rfl) s
noncomputable def c51_33 : Code := kR c51_10
noncomputable def c51_34 : Code := kL c51_33
noncomputable def r51_9 : Array Oper := kO c51_34
noncomputable def o51_9_0 : Oper := opN r51_9 0
theorem x51_34 : execA E C (fg 51) B 36 E0 N c51_34 s = regX (runA E C B 36 r51_9 r51_9.toList s) (fun s => gcM E0 [] (forget s.1 [], s.2)) := x_reg (ops := r51_9) (by rfl) (by rfl) s
theorem r51_9_l : r51_9.toList = [o51_9_0] := nrfl rfl
theorem s51_9_0 : stepA E C B 36 r51_9 o51_9_0 (φ, H) = some (fput φ 4 (.int .i64 0), H) := nrfl rfl
noncomputable def c51_35 : Code := kR c51_33
theorem x51_35 : execA E C (fg 51) B 36 E0 N c51_35 s = some (.ret, s) := x_ret (by rfl) s
theorem x51_33 : execA E C (fg 51) B 36 E0 N c51_33 s = seqX (execA E C (fg 51) B 36 E0 N c51_34 s) (execA E C (fg 51) B 36 E0 N c51_35) := x_seq (by rfl) s
theorem x51_10 : execA E C (fg 51) B 36 E0 N c51_10 s = seqX (execA E C (fg 51) B 36 E0 N c51_11 s) (execA E C (fg 51) B 36 E0 N c51_33) := x_seq (by rfl) s
theorem x51_2 : execA E C (fg 51) B 36 E0 N c51_2 s = seqX (execA E C (fg 51) B 36 E0 N c51_3 s) (execA E C (fg 51) B 36 E0 N c51_10) := x_seq (by rfl) s
theorem x51_0 : execA E C (fg 51) B 36 E0 N c51_0 s = seqX (execA E C (fg 51) B 36 E0 N c51_1 s) (execA E C (fg 51) B 36 E0 N c51_2) := x_seq (by rfl) s
theorem fi_51 : fInfo E 51 = some ⟨36, #[.tmp 4], c51_0⟩ := nrfl rfl
theorem b_51 (args : List AV) : bodyA E C fg N 51 args H B = bodyX E [.tmp 4] (execA E C (fg 51) B 36 H N c51_0 (frame0 args 0 [], H)) := bodyA_eq fi_51 args H
/-! ### f79: novaculite/prop.moment$1 -/
noncomputable def c79_0 : Code := kBody Proofs.Try.f79
noncomputable def c79_1 : Code := kL c79_0
noncomputable def r79_0 : Array Oper := kO c79_1
noncomputable def o79_0_0 : Oper := opN r79_0 0
theorem x79_1 : execA E C (fg 79) B 15 E0 N c79_1 s = regX (runA E C B 15 r79_0 r79_0.toList s) (fun s => gcM E0 [6] (forget s.1 [6], s.2)) := x_reg (ops := r79_0) (by rfl) (by rfl) s
theorem r79_0_l : r79_0.toList = [o79_0_0] := nrfl rfl
theorem s79_0_0 : stepA E C B 15 r79_0 o79_0_0 (φ, H) = some (fput φ 6 (.int .i64 0), H) := nrfl rfl
noncomputable def c79_2 : Code := kR c79_0
noncomputable def c79_3 : Code := kL c79_2
noncomputable def r79_1 : Array Oper := kO c79_3
noncomputable def o79_1_0 : Oper := opN r79_1 0
noncomputable def o79_1_1 : Oper := opN r79_1 1
noncomputable def o79_1_2 : Oper := opN r79_1 2
noncomputable def o79_1_3 : Oper := opN r79_1 3
noncomputable def o79_1_4 : Oper := opN r79_1 4
noncomputable def o79_1_5 : Oper := opN r79_1 5
noncomputable def o79_1_6 : Oper := opN r79_1 6
noncomputable def o79_1_7 : Oper := opN r79_1 7
noncomputable def o79_1_8 : Oper := opN r79_1 8
theorem x79_3 : execA E C (fg 79) B 15 E0 N c79_3 s = regX (drawA E C B 15 r79_1 s) (fun s => gcM E0 [0, 1, 2, 3, 7, 8, 9, 10, 11, 12, 13, 14] (forget s.1 [0, 1, 2, 3, 7, 8, 9, 10, 11, 12, 13, 14], s.2)) := x_draw (ops := r79_1) (by rfl) (by rfl) s
theorem r79_1_l : r79_1.toList = [o79_1_0, o79_1_1, o79_1_2, o79_1_3, o79_1_4, o79_1_5, o79_1_6, o79_1_7, o79_1_8] := nrfl rfl
theorem r79_1_st : statOk r79_1 = true := by kernel_rfl
theorem r79_1_dr : drawA E C B 15 r79_1 s = if neat 15 s = true then drX r79_1 (runT E C B 15 r79_1 r79_1.toList 0 s) else none := draw_eq r79_1_st s
theorem r79_1_an (l : List (Nat × Tr)) : dynOk r79_1 l = (!writing l || dynPairs [[], [], [], [], [2, 3], [2, 3, 4], [1, 2, 3, 4, 5], [0, 1, 2, 3, 4, 5, 6], [0, 1, 2, 3, 4, 5, 6, 7]] (touching l)) := dynOk_eq (by kernel_rfl) l
theorem s79_1_0 : stepT E C B 15 r79_1 o79_1_0 (φ, H) = some ((fput φ 7 (fget φ 1), H), ⟨false, [], []⟩) := stT_go rfl (goT_mv rfl rfl)
theorem s79_1_1 : stepT E C B 15 r79_1 o79_1_1 (φ, H) = stpT (some 8) φ H (just (aLoad E.T 85 (fget φ 2))) := stT_go rfl (goT_R rfl rfl)
theorem s79_1_2 : stepT E C B 15 r79_1 o79_1_2 (φ, H) = stpT (some 9) φ H (just (aLoad E.T 22 (fget φ 3))) := stT_go rfl (goT_R rfl rfl)
theorem s79_1_3 : stepT E C B 15 r79_1 o79_1_3 (φ, H) = some ((fput φ 10 (fget φ 0), H), ⟨false, [], []⟩) := stT_go rfl (goT_mv rfl rfl)
theorem s79_1_4 : stepT E C B 15 r79_1 o79_1_4 (φ, H) = stpT (some 11) φ H (just (aIndexAddr E.T 22 (fget φ 9) (fget φ 10))) := stT_go rfl (goT_R rfl rfl)
theorem s79_1_5 : stepT E C B 15 r79_1 o79_1_5 (φ, H) = stpT (some 12) φ H (just (aLoad E.T 56 (fget φ 11))) := stT_go rfl (goT_R rfl rfl)
theorem s79_1_6 : stepT E C B 15 r79_1 o79_1_6 (φ, H) = callVT E C (B + 15 * 8) (some 13) (fun j => B + j * 15 + 13) φ H (fget φ 8) [(fget φ 12)] true := stT_go rfl (goT_V rfl rfl)
theorem s79_1_7 : stepT E C B 15 r79_1 o79_1_7 (φ, H) = stpT (some 14) φ H (just (aBin E.T .mul 3 (fget φ 7) (fget φ 13))) := stT_go rfl (goT_R rfl rfl)
theorem s79_1_8 : stepT E C B 15 r79_1 o79_1_8 (φ, H) = some ((fput φ 6 (fget φ 14), H), ⟨false, [], []⟩) := stT_go rfl (goT_mv rfl rfl)
noncomputable def c79_4 : Code := kR c79_2
theorem x79_4 : execA E C (fg 79) B 15 E0 N c79_4 s = some (.ret, s) := x_ret (by rfl) s
theorem x79_2 : execA E C (fg 79) B 15 E0 N c79_2 s = seqX (execA E C (fg 79) B 15 E0 N c79_3 s) (execA E C (fg 79) B 15 E0 N c79_4) := x_seq (by rfl) s
theorem x79_0 : execA E C (fg 79) B 15 E0 N c79_0 s = seqX (execA E C (fg 79) B 15 E0 N c79_1 s) (execA E C (fg 79) B 15 E0 N c79_2) := x_seq (by rfl) s
theorem fi_79 : fInfo E 79 = some ⟨15, #[.tmp 6], c79_0⟩ := nrfl rfl
theorem b_79 (args : List AV) : bodyA E C fg N 79 args H B = bodyX E [.tmp 6] (execA E C (fg 79) B 15 H N c79_0 (frame0 args 0 [], H)) := bodyA_eq fi_79 args H
/-! ### f70: (novaculite/prop.row[int]).sum -/
noncomputable def c70_0 : Code := kBody Proofs.Try.f70
noncomputable def c70_1 : Code := kL c70_0
noncomputable def r70_0 : Array Oper := kO c70_1
noncomputable def o70_0_0 : Oper := opN r70_0 0
theorem x70_1 : execA E C (fg 70) B 26 E0 N c70_1 s = regX (runA E C B 26 r70_0 r70_0.toList s) (fun s => gcM E0 [6] (forget s.1 [6], s.2)) := x_reg (ops := r70_0) (by rfl) (by rfl) s
theorem r70_0_l : r70_0.toList = [o70_0_0] := nrfl rfl
theorem s70_0_0 : stepA E C B 26 r70_0 o70_0_0 (φ, H) = some (fput φ 6 (.int .i64 0), H) := nrfl rfl
noncomputable def c70_2 : Code := kR c70_0
noncomputable def c70_3 : Code := kL c70_2
noncomputable def r70_1 : Array Oper := kO c70_3
noncomputable def o70_1_0 : Oper := opN r70_1 0
theorem x70_3 : execA E C (fg 70) B 26 E0 N c70_3 s = regX (runA E C B 26 r70_1 r70_1.toList s) (fun s => gcM E0 [] (forget s.1 [], s.2)) := x_reg (ops := r70_1) (by rfl) (by rfl) s
theorem r70_1_l : r70_1.toList = [o70_1_0] := nrfl rfl
theorem s70_1_0 : stepA E C B 26 r70_1 o70_1_0 (φ, H) = some (fput φ 7 (.int .i64 0), H) := nrfl rfl
noncomputable def c70_4 : Code := kR c70_2
noncomputable def c70_5 : Code := kL c70_4
noncomputable def c70_6 : Code := kL c70_5
noncomputable def r70_2 : Array Oper := kO c70_6
noncomputable def o70_2_0 : Oper := opN r70_2 0
noncomputable def o70_2_1 : Oper := opN r70_2 1
theorem x70_6 : execA E C (fg 70) B 26 E0 N c70_6 s = regX (runA E C B 26 r70_2 r70_2.toList s) (fun s => gcM E0 [1, 9] (forget s.1 [1, 9], s.2)) := x_reg (ops := r70_2) (by rfl) (by rfl) s
theorem r70_2_l : r70_2.toList = [o70_2_0, o70_2_1] := nrfl rfl
theorem s70_2_0 : stepA E C B 26 r70_2 o70_2_0 (φ, H) = some (fput φ 9 (fget φ 1), H) := nrfl rfl
theorem s70_2_1 : stepA E C B 26 r70_2 o70_2_1 (φ, H) = some (fput φ 8 (fget φ 9), H) := nrfl rfl
noncomputable def c70_7 : Code := kR c70_5
noncomputable def c70_8 : Code := kB c70_7
noncomputable def c70_9 : Code := kB c70_8
noncomputable def c70_10 : Code := kL c70_9
noncomputable def c70_11 : Code := kL c70_10
noncomputable def r70_3 : Array Oper := kO c70_11
noncomputable def o70_3_0 : Oper := opN r70_3 0
noncomputable def o70_3_1 : Oper := opN r70_3 1
noncomputable def o70_3_2 : Oper := opN r70_3 2
noncomputable def o70_3_3 : Oper := opN r70_3 3
theorem x70_11 : execA E C (fg 70) B 26 E0 N c70_11 s = regX (runA E C B 26 r70_3 r70_3.toList s) (fun s => gcM E0 [10, 11, 12] (forget s.1 [10, 11, 12], s.2)) := x_reg (ops := r70_3) (by rfl) (by rfl) s
theorem r70_3_l : r70_3.toList = [o70_3_0, o70_3_1, o70_3_2, o70_3_3] := nrfl rfl
theorem s70_3_0 : stepA E C B 26 r70_3 o70_3_0 (φ, H) = some (fput φ 10 (fget φ 8), H) := nrfl rfl
theorem s70_3_1 : stepA E C B 26 r70_3 o70_3_1 (φ, H) = some (fput φ 11 (fget φ 0), H) := nrfl rfl
theorem s70_3_2 : stepA E C B 26 r70_3 o70_3_2 (φ, H) = stp (some 12) φ H (aBuiltin E.T (B + 12) .len #[108] [(fget φ 11)]) := nrfl rfl
theorem s70_3_3 : stepA E C B 26 r70_3 o70_3_3 (φ, H) = stp (some 13) φ H (just (aBin E.T .lss 3 (fget φ 10) (fget φ 12))) := nrfl rfl
noncomputable def c70_12 : Code := kR c70_10
noncomputable def c70_13 : Code := kT c70_12
theorem x70_13 : execA E C (fg 70) B 26 E0 N c70_13 s = some (.normal, s) := x_skip (by rfl) s
noncomputable def c70_14 : Code := kE c70_12
theorem x70_14 : execA E C (fg 70) B 26 E0 N c70_14 s = some (.exit 0, s) := x_exit (by rfl) s
theorem x70_12 : execA E C (fg 70) B 26 E0 N c70_12 (φ, H) = condX (fget φ 13) (execA E C (fg 70) B 26 E0 N c70_13 (φ, H)) (execA E C (fg 70) B 26 E0 N c70_14 (φ, H)) := x_cond (by rfl) _
theorem x70_10 : execA E C (fg 70) B 26 E0 N c70_10 s = seqX (execA E C (fg 70) B 26 E0 N c70_11 s) (execA E C (fg 70) B 26 E0 N c70_12) := x_seq (by rfl) s
noncomputable def c70_15 : Code := kR c70_9
noncomputable def c70_16 : Code := kL c70_15
noncomputable def c70_17 : Code := kB c70_16
noncomputable def r70_5 : Array Oper := kO c70_17
noncomputable def o70_5_0 : Oper := opN r70_5 0
noncomputable def o70_5_1 : Oper := opN r70_5 1
noncomputable def o70_5_2 : Oper := opN r70_5 2
noncomputable def o70_5_3 : Oper := opN r70_5 3
noncomputable def o70_5_4 : Oper := opN r70_5 4
noncomputable def o70_5_5 : Oper := opN r70_5 5
noncomputable def o70_5_6 : Oper := opN r70_5 6
noncomputable def o70_5_7 : Oper := opN r70_5 7
noncomputable def o70_5_8 : Oper := opN r70_5 8
noncomputable def o70_5_9 : Oper := opN r70_5 9
theorem x70_17 : execA E C (fg 70) B 26 E0 N c70_17 s = regX (runA E C B 26 r70_5 r70_5.toList s) (fun s => gcM E0 [13, 16, 17, 18, 19, 20, 21, 22, 23, 24] (forget s.1 [13, 16, 17, 18, 19, 20, 21, 22, 23, 24], s.2)) := x_reg (ops := r70_5) (by rfl) (by rfl) s
theorem r70_5_l : r70_5.toList = [o70_5_0, o70_5_1, o70_5_2, o70_5_3, o70_5_4, o70_5_5, o70_5_6, o70_5_7, o70_5_8, o70_5_9] := nrfl rfl
theorem s70_5_0 : stepA E C B 26 r70_5 o70_5_0 (φ, H) = some (fput φ 16 (fget φ 7), H) := nrfl rfl
theorem s70_5_1 : stepA E C B 26 r70_5 o70_5_1 (φ, H) = some (fput φ 17 (fget φ 2), H) := nrfl rfl
theorem s70_5_2 : stepA E C B 26 r70_5 o70_5_2 (φ, H) = some (fput φ 18 (fget φ 8), H) := nrfl rfl
theorem s70_5_3 : stepA E C B 26 r70_5 o70_5_3 (φ, H) = some (fput φ 19 (fget φ 0), H) := nrfl rfl
theorem s70_5_4 : stepA E C B 26 r70_5 o70_5_4 (φ, H) = some (fput φ 20 (fget φ 8), H) := nrfl rfl
theorem s70_5_5 : stepA E C B 26 r70_5 o70_5_5 (φ, H) = stp (some 21) φ H (just (aIndexAddr E.T 108 (fget φ 19) (fget φ 20))) := nrfl rfl
theorem s70_5_6 : stepA E C B 26 r70_5 o70_5_6 (φ, H) = stp (some 22) φ H (just (aLoad E.T 3 (fget φ 21))) := nrfl rfl
theorem s70_5_7 : stepA E C B 26 r70_5 o70_5_7 (φ, H) = callV E C (B + 26 * 8) (some 23) (fun j => B + j * 26 + 23) φ H (fget φ 17) [(fget φ 18), (fget φ 22)] true := nrfl rfl
theorem s70_5_8 : stepA E C B 26 r70_5 o70_5_8 (φ, H) = stp (some 24) φ H (just (aBin E.T .add 3 (fget φ 16) (fget φ 23))) := nrfl rfl
theorem s70_5_9 : stepA E C B 26 r70_5 o70_5_9 (φ, H) = some (fput φ 7 (fget φ 24), H) := nrfl rfl
theorem x70_16 : execA E C (fg 70) B 26 E0 N c70_16 s = blockX 1 (fun s => (forget s.1 [], s.2)) (execA E C (fg 70) B 26 E0 N c70_17 s) := x_block (by rfl) (by rfl) s
noncomputable def c70_18 : Code := kR c70_15
noncomputable def r70_4 : Array Oper := kO c70_18
noncomputable def o70_4_0 : Oper := opN r70_4 0
noncomputable def o70_4_1 : Oper := opN r70_4 1
noncomputable def o70_4_2 : Oper := opN r70_4 2
theorem x70_18 : execA E C (fg 70) B 26 E0 N c70_18 s = regX (runA E C B 26 r70_4 r70_4.toList s) (fun s => gcM E0 [14, 15] (forget s.1 [14, 15], s.2)) := x_reg (ops := r70_4) (by rfl) (by rfl) s
theorem r70_4_l : r70_4.toList = [o70_4_0, o70_4_1, o70_4_2] := nrfl rfl
theorem s70_4_0 : stepA E C B 26 r70_4 o70_4_0 (φ, H) = some (fput φ 14 (fget φ 8), H) := nrfl rfl
theorem s70_4_1 : stepA E C B 26 r70_4 o70_4_1 (φ, H) = stp (some 15) φ H (just (aBin E.T .add 3 (fget φ 14) (.int .i64 1))) := nrfl rfl
theorem s70_4_2 : stepA E C B 26 r70_4 o70_4_2 (φ, H) = some (fput φ 8 (fget φ 15), H) := nrfl rfl
theorem x70_15 : execA E C (fg 70) B 26 E0 N c70_15 s = seqX (execA E C (fg 70) B 26 E0 N c70_16 s) (execA E C (fg 70) B 26 E0 N c70_18) := x_seq (by rfl) s
theorem x70_9 : execA E C (fg 70) B 26 E0 N c70_9 s = seqX (execA E C (fg 70) B 26 E0 N c70_10 s) (execA E C (fg 70) B 26 E0 N c70_15) := x_seq (by rfl) s
-- a loop of f70: x70_8; body c70_9; slots [8, 7, 2, 0]
theorem x70_8 : execA E C (fg 70) B 26 E0 N c70_8 s = iterA (execA E C (fg 70) B 26 E0 N c70_9) (headA E0) N s := x_loop (by rfl) s
theorem x70_7 : execA E C (fg 70) B 26 E0 N c70_7 s = blockX 0 (fun s => (forget s.1 [0, 2, 8, 13], s.2)) (execA E C (fg 70) B 26 E0 N c70_8 s) := x_block (by rfl) (by rfl) s
theorem x70_5 : execA E C (fg 70) B 26 E0 N c70_5 s = seqX (execA E C (fg 70) B 26 E0 N c70_6 s) (execA E C (fg 70) B 26 E0 N c70_7) := x_seq (by rfl) s
noncomputable def c70_19 : Code := kR c70_4
noncomputable def c70_20 : Code := kL c70_19
noncomputable def r70_6 : Array Oper := kO c70_20
noncomputable def o70_6_0 : Oper := opN r70_6 0
noncomputable def o70_6_1 : Oper := opN r70_6 1
theorem x70_20 : execA E C (fg 70) B 26 E0 N c70_20 s = regX (runA E C B 26 r70_6 r70_6.toList s) (fun s => gcM E0 [7, 25] (forget s.1 [7, 25], s.2)) := x_reg (ops := r70_6) (by rfl) (by rfl) s
theorem r70_6_l : r70_6.toList = [o70_6_0, o70_6_1] := nrfl rfl
theorem s70_6_0 : stepA E C B 26 r70_6 o70_6_0 (φ, H) = some (fput φ 25 (fget φ 7), H) := nrfl rfl
theorem s70_6_1 : stepA E C B 26 r70_6 o70_6_1 (φ, H) = some (fput φ 6 (fget φ 25), H) := nrfl rfl
noncomputable def c70_21 : Code := kR c70_19
theorem x70_21 : execA E C (fg 70) B 26 E0 N c70_21 s = some (.ret, s) := x_ret (by rfl) s
theorem x70_19 : execA E C (fg 70) B 26 E0 N c70_19 s = seqX (execA E C (fg 70) B 26 E0 N c70_20 s) (execA E C (fg 70) B 26 E0 N c70_21) := x_seq (by rfl) s
theorem x70_4 : execA E C (fg 70) B 26 E0 N c70_4 s = seqX (execA E C (fg 70) B 26 E0 N c70_5 s) (execA E C (fg 70) B 26 E0 N c70_19) := x_seq (by rfl) s
theorem x70_2 : execA E C (fg 70) B 26 E0 N c70_2 s = seqX (execA E C (fg 70) B 26 E0 N c70_3 s) (execA E C (fg 70) B 26 E0 N c70_4) := x_seq (by rfl) s
theorem x70_0 : execA E C (fg 70) B 26 E0 N c70_0 s = seqX (execA E C (fg 70) B 26 E0 N c70_1 s) (execA E C (fg 70) B 26 E0 N c70_2) := x_seq (by rfl) s
theorem fi_70 : fInfo E 70 = some ⟨26, #[.tmp 6], c70_0⟩ := nrfl rfl
theorem b_70 (args : List AV) : bodyA E C fg N 70 args H B = bodyX E [.tmp 6] (execA E C (fg 70) B 26 H N c70_0 (frame0 args 0 [], H)) := bodyA_eq fi_70 args H
/-! ### f52: novaculite/prop.moment -/
noncomputable def c52_0 : Code := kBody Proofs.Try.f52
noncomputable def c52_1 : Code := kL c52_0
noncomputable def r52_0 : Array Oper := kO c52_1
noncomputable def o52_0_0 : Oper := opN r52_0 0
noncomputable def o52_0_1 : Oper := opN r52_0 1
theorem x52_1 : execA E C (fg 52) B 18 E0 N c52_1 s = regX (runA E C B 18 r52_0 r52_0.toList s) (fun s => gcM E0 [0, 8] (forget s.1 [0, 8], s.2)) := x_reg (ops := r52_0) (by rfl) (by rfl) s
theorem r52_0_l : r52_0.toList = [o52_0_0, o52_0_1] := nrfl rfl
theorem s52_0_0 : stepA E C B 18 r52_0 o52_0_0 (φ, H) = stp (some 4) φ H (opBox (B + 4) (acells (fget φ 0))) := nrfl rfl
theorem s52_0_1 : stepA E C B 18 r52_0 o52_0_1 (φ, H) = some (fput φ 8 (.int .i64 0), H) := nrfl rfl
noncomputable def c52_2 : Code := kR c52_0
noncomputable def c52_3 : Code := kL c52_2
noncomputable def r52_1 : Array Oper := kO c52_3
noncomputable def o52_1_0 : Oper := opN r52_1 0
noncomputable def o52_1_1 : Oper := opN r52_1 1
noncomputable def o52_1_2 : Oper := opN r52_1 2
noncomputable def o52_1_3 : Oper := opN r52_1 3
noncomputable def o52_1_4 : Oper := opN r52_1 4
noncomputable def o52_1_5 : Oper := opN r52_1 5
theorem x52_3 : execA E C (fg 52) B 18 E0 N c52_3 s = regX (runA E C B 18 r52_1 r52_1.toList s) (fun s => gcM E0 [3, 10, 11, 12, 13] (forget s.1 [3, 10, 11, 12, 13], s.2)) := x_reg (ops := r52_1) (by rfl) (by rfl) s
theorem r52_1_l : r52_1.toList = [o52_1_0, o52_1_1, o52_1_2, o52_1_3, o52_1_4, o52_1_5] := nrfl rfl
theorem s52_1_0 : stepA E C B 18 r52_1 o52_1_0 (φ, H) = stp (some 10) φ H (just (aLoad E.T 22 (fget φ 4))) := nrfl rfl
theorem s52_1_1 : stepA E C B 18 r52_1 o52_1_1 (φ, H) = some (fput φ 11 (fget φ 2), H) := nrfl rfl
theorem s52_1_2 : stepA E C B 18 r52_1 o52_1_2 (φ, H) = some (fput φ 12 (fget φ 3), H) := nrfl rfl
theorem s52_1_3 : stepA E C B 18 r52_1 o52_1_3 (φ, H) = stp (some 13) φ H (aCall C (fun j => B + j * 18 + 13) true 47 [(fget φ 10), (fget φ 11), (fget φ 12)]) := nrfl rfl
theorem s52_1_4 : stepA E C B 18 r52_1 o52_1_4 (φ, H) = stp (some 9) φ H (opBox (B + 9) (zeroCells E.T 85)) := nrfl rfl
theorem s52_1_5 : stepA E C B 18 r52_1 o52_1_5 (φ, H) = stp none φ H (opStore E.T 85 (fget φ 9) (fget φ 13)) := nrfl rfl
noncomputable def c52_4 : Code := kR c52_2
noncomputable def c52_5 : Code := kL c52_4
noncomputable def r52_2 : Array Oper := kO c52_5
noncomputable def o52_2_0 : Oper := opN r52_2 0
noncomputable def o52_2_1 : Oper := opN r52_2 1
noncomputable def o52_2_2 : Oper := opN r52_2 2
noncomputable def o52_2_3 : Oper := opN r52_2 3
noncomputable def o52_2_4 : Oper := opN r52_2 4
theorem x52_5 : execA E C (fg 52) B 18 E0 N c52_5 s = regX (runA E C B 18 r52_2 r52_2.toList s) (fun s => gcM E0 [1, 2, 4, 9, 14, 15, 16, 17] (forget s.1 [1, 2, 4, 9, 14, 15, 16, 17], s.2)) := x_reg (ops := r52_2) (by rfl) (by rfl) s
theorem r52_2_l : r52_2.toList = [o52_2_0, o52_2_1, o52_2_2, o52_2_3, o52_2_4] := nrfl rfl
theorem s52_2_0 : stepA E C B 18 r52_2 o52_2_0 (φ, H) = some (fput φ 14 (fget φ 1), H) := nrfl rfl
theorem s52_2_1 : stepA E C B 18 r52_2 o52_2_1 (φ, H) = some (fput φ 15 (fget φ 2), H) := nrfl rfl
theorem s52_2_2 : stepA E C B 18 r52_2 o52_2_2 (φ, H) = stp (some 16) φ H (.pure (.clo 79 [(fget φ 9), (fget φ 4)], [])) := nrfl rfl
theorem s52_2_3 : stepA E C B 18 r52_2 o52_2_3 (φ, H) = stp (some 17) φ H (aCall C (fun j => B + j * 18 + 17) true 70 [(fget φ 14), (fget φ 15), (fget φ 16)]) := nrfl rfl
theorem s52_2_4 : stepA E C B 18 r52_2 o52_2_4 (φ, H) = some (fput φ 8 (fget φ 17), H) := nrfl rfl
noncomputable def c52_6 : Code := kR c52_4
theorem x52_6 : execA E C (fg 52) B 18 E0 N c52_6 s = some (.ret, s) := x_ret (by rfl) s
theorem x52_4 : execA E C (fg 52) B 18 E0 N c52_4 s = seqX (execA E C (fg 52) B 18 E0 N c52_5 s) (execA E C (fg 52) B 18 E0 N c52_6) := x_seq (by rfl) s
theorem x52_2 : execA E C (fg 52) B 18 E0 N c52_2 s = seqX (execA E C (fg 52) B 18 E0 N c52_3 s) (execA E C (fg 52) B 18 E0 N c52_4) := x_seq (by rfl) s
theorem x52_0 : execA E C (fg 52) B 18 E0 N c52_0 s = seqX (execA E C (fg 52) B 18 E0 N c52_1 s) (execA E C (fg 52) B 18 E0 N c52_2) := x_seq (by rfl) s
theorem fi_52 : fInfo E 52 = some ⟨18, #[.tmp 8], c52_0⟩ := nrfl rfl
theorem b_52 (args : List AV) : bodyA E C fg N 52 args H B = bodyX E [.tmp 8] (execA E C (fg 52) B 18 H N c52_0 (frame0 args 0 [], H)) := bodyA_eq fi_52 args H
/-! ### f15: novaculite/prop.Moment -/
noncomputable def c15_0 : Code := kBody Proofs.Try.f15
noncomputable def c15_1 : Code := kL c15_0
noncomputable def r15_0 : Array Oper := kO c15_1
noncomputable def o15_0_0 : Oper := opN r15_0 0
noncomputable def o15_0_1 : Oper := opN r15_0 1
theorem x15_1 : execA E C (fg 15) B 30 E0 N c15_1 s = regX (runA E C B 30 r15_0 r15_0.toList s) (fun s => gcM E0 [8, 9] (forget s.1 [8, 9], s.2)) := x_reg (ops := r15_0) (by rfl) (by rfl) s
theorem r15_0_l : r15_0.toList = [o15_0_0, o15_0_1] := nrfl rfl
theorem s15_0_0 : stepA E C B 30 r15_0 o15_0_0 (φ, H) = some (fput φ 8 (.int .i64 0), H) := nrfl rfl
theorem s15_0_1 : stepA E C B 30 r15_0 o15_0_1 (φ, H) = some (fput φ 9 (.int .i64 0), H) := nrfl rfl
noncomputable def c15_2 : Code := kR c15_0
noncomputable def c15_3 : Code := kL c15_2
noncomputable def c15_4 : Code := kL c15_3
noncomputable def r15_1 : Array Oper := kO c15_4
noncomputable def o15_1_0 : Oper := opN r15_1 0
noncomputable def o15_1_1 : Oper := opN r15_1 1
noncomputable def o15_1_2 : Oper := opN r15_1 2
noncomputable def o15_1_3 : Oper := opN r15_1 3
noncomputable def o15_1_4 : Oper := opN r15_1 4
theorem x15_4 : execA E C (fg 15) B 30 E0 N c15_4 s = regX (runA E C B 30 r15_1 r15_1.toList s) (fun s => gcM E0 [12, 13, 14, 15] (forget s.1 [12, 13, 14, 15], s.2)) := x_reg (ops := r15_1) (by rfl) (by rfl) s
theorem r15_1_l : r15_1.toList = [o15_1_0, o15_1_1, o15_1_2, o15_1_3, o15_1_4] := nrfl rfl
theorem s15_1_0 : stepA E C B 30 r15_1 o15_1_0 (φ, H) = some (fput φ 12 (fget φ 0), H) := nrfl rfl
theorem s15_1_1 : stepA E C B 30 r15_1 o15_1_1 (φ, H) = some (fput φ 13 (fget φ 2), H) := nrfl rfl
theorem s15_1_2 : stepA E C B 30 r15_1 o15_1_2 (φ, H) = some (fput φ 14 (fget φ 3), H) := nrfl rfl
theorem s15_1_3 : stepA E C B 30 r15_1 o15_1_3 (φ, H) = stp (some 15) φ H (aCall C (fun j => B + j * 30 + 15) true 46 [(fget φ 12), (fget φ 13), (fget φ 14)]) := nrfl rfl
theorem s15_1_4 : stepA E C B 30 r15_1 o15_1_4 (φ, H) = some (fput φ 10 (fget φ 15), H) := nrfl rfl
noncomputable def c15_5 : Code := kR c15_3
noncomputable def c15_6 : Code := kL c15_5
noncomputable def r15_2 : Array Oper := kO c15_6
noncomputable def o15_2_0 : Oper := opN r15_2 0
noncomputable def o15_2_1 : Oper := opN r15_2 1
theorem x15_6 : execA E C (fg 15) B 30 E0 N c15_6 s = regX (runA E C B 30 r15_2 r15_2.toList s) (fun s => gcM E0 [16] (forget s.1 [16], s.2)) := x_reg (ops := r15_2) (by rfl) (by rfl) s
theorem r15_2_l : r15_2.toList = [o15_2_0, o15_2_1] := nrfl rfl
theorem s15_2_0 : stepA E C B 30 r15_2 o15_2_0 (φ, H) = some (fput φ 16 (fget φ 10), H) := nrfl rfl
theorem s15_2_1 : stepA E C B 30 r15_2 o15_2_1 (φ, H) = stp (some 17) φ H (just (aBin E.T .neq 27 (fget φ 16) (.int .i64 0))) := nrfl rfl
noncomputable def c15_7 : Code := kR c15_5
noncomputable def c15_8 : Code := kT c15_7
noncomputable def c15_9 : Code := kL c15_8
noncomputable def r15_3 : Array Oper := kO c15_9
noncomputable def o15_3_0 : Oper := opN r15_3 0
noncomputable def o15_3_1 : Oper := opN r15_3 1
noncomputable def o15_3_2 : Oper := opN r15_3 2
theorem x15_9 : execA E C (fg 15) B 30 E0 N c15_9 s = regX (runA E C B 30 r15_3 r15_3.toList s) (fun s => gcM E0 [0, 1, 2, 3, 10, 17, 18] (forget s.1 [0, 1, 2, 3, 10, 17, 18], s.2)) := x_reg (ops := r15_3) (by rfl) (by rfl) s
theorem r15_3_l : r15_3.toList = [o15_3_0, o15_3_1, o15_3_2] := nrfl rfl
theorem s15_3_0 : stepA E C B 30 r15_3 o15_3_0 (φ, H) = some (fput φ 18 (fget φ 10), H) := nrfl rfl
theorem s15_3_1 : stepA E C B 30 r15_3 o15_3_1 (φ, H) = some (fput φ 8 (.int .i64 0), H) := nrfl rfl
theorem s15_3_2 : stepA E C B 30 r15_3 o15_3_2 (φ, H) = some (fput φ 9 (fget φ 18), H) := nrfl rfl
noncomputable def c15_10 : Code := kR c15_8
theorem x15_10 : execA E C (fg 15) B 30 E0 N c15_10 s = some (.ret, s) := x_ret (by rfl) s
theorem x15_8 : execA E C (fg 15) B 30 E0 N c15_8 s = seqX (execA E C (fg 15) B 30 E0 N c15_9 s) (execA E C (fg 15) B 30 E0 N c15_10) := x_seq (by rfl) s
noncomputable def c15_11 : Code := kE c15_7
theorem x15_11 : execA E C (fg 15) B 30 E0 N c15_11 s = some (.normal, s) := x_skip (by rfl) s
theorem x15_7 : execA E C (fg 15) B 30 E0 N c15_7 (φ, H) = condX (fget φ 17) (execA E C (fg 15) B 30 E0 N c15_8 (φ, H)) (execA E C (fg 15) B 30 E0 N c15_11 (φ, H)) := x_cond (by rfl) _
theorem x15_5 : execA E C (fg 15) B 30 E0 N c15_5 s = seqX (execA E C (fg 15) B 30 E0 N c15_6 s) (execA E C (fg 15) B 30 E0 N c15_7) := x_seq (by rfl) s
theorem x15_3 : execA E C (fg 15) B 30 E0 N c15_3 s = seqX (execA E C (fg 15) B 30 E0 N c15_4 s) (execA E C (fg 15) B 30 E0 N c15_5) := x_seq (by rfl) s
noncomputable def c15_12 : Code := kR c15_2
noncomputable def c15_13 : Code := kL c15_12
noncomputable def c15_14 : Code := kL c15_13
noncomputable def r15_4 : Array Oper := kO c15_14
noncomputable def o15_4_0 : Oper := opN r15_4 0
noncomputable def o15_4_1 : Oper := opN r15_4 1
noncomputable def o15_4_2 : Oper := opN r15_4 2
noncomputable def o15_4_3 : Oper := opN r15_4 3
theorem x15_14 : execA E C (fg 15) B 30 E0 N c15_14 s = regX (runA E C B 30 r15_4 r15_4.toList s) (fun s => gcM E0 [10, 17, 19, 20, 21] (forget s.1 [10, 17, 19, 20, 21], s.2)) := x_reg (ops := r15_4) (by rfl) (by rfl) s
theorem r15_4_l : r15_4.toList = [o15_4_0, o15_4_1, o15_4_2, o15_4_3] := nrfl rfl
theorem s15_4_0 : stepA E C B 30 r15_4 o15_4_0 (φ, H) = some (fput φ 19 (fget φ 0), H) := nrfl rfl
theorem s15_4_1 : stepA E C B 30 r15_4 o15_4_1 (φ, H) = some (fput φ 20 (fget φ 1), H) := nrfl rfl
theorem s15_4_2 : stepA E C B 30 r15_4 o15_4_2 (φ, H) = stp (some 21) φ H (aCall C (fun j => B + j * 30 + 21) true 51 [(fget φ 19), (fget φ 20)]) := nrfl rfl
theorem s15_4_3 : stepA E C B 30 r15_4 o15_4_3 (φ, H) = some (fput φ 11 (fget φ 21), H) := nrfl rfl
noncomputable def c15_15 : Code := kR c15_13
noncomputable def c15_16 : Code := kL c15_15
noncomputable def r15_5 : Array Oper := kO c15_16
noncomputable def o15_5_0 : Oper := opN r15_5 0
noncomputable def o15_5_1 : Oper := opN r15_5 1
theorem x15_16 : execA E C (fg 15) B 30 E0 N c15_16 s = regX (runA E C B 30 r15_5 r15_5.toList s) (fun s => gcM E0 [22] (forget s.1 [22], s.2)) := x_reg (ops := r15_5) (by rfl) (by rfl) s
theorem r15_5_l : r15_5.toList = [o15_5_0, o15_5_1] := nrfl rfl
theorem s15_5_0 : stepA E C B 30 r15_5 o15_5_0 (φ, H) = some (fput φ 22 (fget φ 11), H) := nrfl rfl
theorem s15_5_1 : stepA E C B 30 r15_5 o15_5_1 (φ, H) = stp (some 23) φ H (just (aBin E.T .neq 27 (fget φ 22) (.int .i64 0))) := nrfl rfl
noncomputable def c15_17 : Code := kR c15_15
noncomputable def c15_18 : Code := kT c15_17
noncomputable def c15_19 : Code := kL c15_18
noncomputable def r15_6 : Array Oper := kO c15_19
noncomputable def o15_6_0 : Oper := opN r15_6 0
noncomputable def o15_6_1 : Oper := opN r15_6 1
noncomputable def o15_6_2 : Oper := opN r15_6 2
theorem x15_19 : execA E C (fg 15) B 30 E0 N c15_19 s = regX (runA E C B 30 r15_6 r15_6.toList s) (fun s => gcM E0 [0, 1, 2, 3, 11, 23, 24] (forget s.1 [0, 1, 2, 3, 11, 23, 24], s.2)) := x_reg (ops := r15_6) (by rfl) (by rfl) s
theorem r15_6_l : r15_6.toList = [o15_6_0, o15_6_1, o15_6_2] := nrfl rfl
theorem s15_6_0 : stepA E C B 30 r15_6 o15_6_0 (φ, H) = some (fput φ 24 (fget φ 11), H) := nrfl rfl
theorem s15_6_1 : stepA E C B 30 r15_6 o15_6_1 (φ, H) = some (fput φ 8 (.int .i64 0), H) := nrfl rfl
theorem s15_6_2 : stepA E C B 30 r15_6 o15_6_2 (φ, H) = some (fput φ 9 (fget φ 24), H) := nrfl rfl
noncomputable def c15_20 : Code := kR c15_18
theorem x15_20 : execA E C (fg 15) B 30 E0 N c15_20 s = some (.ret, s) := x_ret (by rfl) s
theorem x15_18 : execA E C (fg 15) B 30 E0 N c15_18 s = seqX (execA E C (fg 15) B 30 E0 N c15_19 s) (execA E C (fg 15) B 30 E0 N c15_20) := x_seq (by rfl) s
noncomputable def c15_21 : Code := kE c15_17
theorem x15_21 : execA E C (fg 15) B 30 E0 N c15_21 s = some (.normal, s) := x_skip (by rfl) s
theorem x15_17 : execA E C (fg 15) B 30 E0 N c15_17 (φ, H) = condX (fget φ 23) (execA E C (fg 15) B 30 E0 N c15_18 (φ, H)) (execA E C (fg 15) B 30 E0 N c15_21 (φ, H)) := x_cond (by rfl) _
theorem x15_15 : execA E C (fg 15) B 30 E0 N c15_15 s = seqX (execA E C (fg 15) B 30 E0 N c15_16 s) (execA E C (fg 15) B 30 E0 N c15_17) := x_seq (by rfl) s
theorem x15_13 : execA E C (fg 15) B 30 E0 N c15_13 s = seqX (execA E C (fg 15) B 30 E0 N c15_14 s) (execA E C (fg 15) B 30 E0 N c15_15) := x_seq (by rfl) s
noncomputable def c15_22 : Code := kR c15_12
noncomputable def c15_23 : Code := kL c15_22
noncomputable def r15_7 : Array Oper := kO c15_23
noncomputable def o15_7_0 : Oper := opN r15_7 0
noncomputable def o15_7_1 : Oper := opN r15_7 1
noncomputable def o15_7_2 : Oper := opN r15_7 2
noncomputable def o15_7_3 : Oper := opN r15_7 3
noncomputable def o15_7_4 : Oper := opN r15_7 4
noncomputable def o15_7_5 : Oper := opN r15_7 5
noncomputable def o15_7_6 : Oper := opN r15_7 6
theorem x15_23 : execA E C (fg 15) B 30 E0 N c15_23 s = regX (runA E C B 30 r15_7 r15_7.toList s) (fun s => gcM E0 [0, 1, 2, 3, 11, 23, 25, 26, 27, 28, 29] (forget s.1 [0, 1, 2, 3, 11, 23, 25, 26, 27, 28, 29], s.2)) := x_reg (ops := r15_7) (by rfl) (by rfl) s
theorem r15_7_l : r15_7.toList = [o15_7_0, o15_7_1, o15_7_2, o15_7_3, o15_7_4, o15_7_5, o15_7_6] := nrfl rfl
theorem s15_7_0 : stepA E C B 30 r15_7 o15_7_0 (φ, H) = some (fput φ 25 (fget φ 0), H) := nrfl rfl
theorem s15_7_1 : stepA E C B 30 r15_7 o15_7_1 (φ, H) = some (fput φ 26 (fget φ 1), H) := nrfl rfl
theorem s15_7_2 : stepA E C B 30 r15_7 o15_7_2 (φ, H) = some (fput φ 27 (fget φ 2), H) := nrfl rfl
theorem s15_7_3 : stepA E C B 30 r15_7 o15_7_3 (φ, H) = some (fput φ 28 (fget φ 3), H) := nrfl rfl
theorem s15_7_4 : stepA E C B 30 r15_7 o15_7_4 (φ, H) = stp (some 29) φ H (aCall C (fun j => B + j * 30 + 29) true 52 [(fget φ 25), (fget φ 26), (fget φ 27), (fget φ 28)]) := nrfl rfl
theorem s15_7_5 : stepA E C B 30 r15_7 o15_7_5 (φ, H) = some (fput φ 8 (fget φ 29), H) := nrfl rfl
theorem s15_7_6 : stepA E C B 30 r15_7 o15_7_6 (φ, H) = some (fput φ 9 (.int .i64 0), H) := nrfl rfl
noncomputable def c15_24 : Code := kR c15_22
theorem x15_24 : execA E C (fg 15) B 30 E0 N c15_24 s = some (.ret, s) := x_ret (by rfl) s
theorem x15_22 : execA E C (fg 15) B 30 E0 N c15_22 s = seqX (execA E C (fg 15) B 30 E0 N c15_23 s) (execA E C (fg 15) B 30 E0 N c15_24) := x_seq (by rfl) s
theorem x15_12 : execA E C (fg 15) B 30 E0 N c15_12 s = seqX (execA E C (fg 15) B 30 E0 N c15_13 s) (execA E C (fg 15) B 30 E0 N c15_22) := x_seq (by rfl) s
theorem x15_2 : execA E C (fg 15) B 30 E0 N c15_2 s = seqX (execA E C (fg 15) B 30 E0 N c15_3 s) (execA E C (fg 15) B 30 E0 N c15_12) := x_seq (by rfl) s
theorem x15_0 : execA E C (fg 15) B 30 E0 N c15_0 s = seqX (execA E C (fg 15) B 30 E0 N c15_1 s) (execA E C (fg 15) B 30 E0 N c15_2) := x_seq (by rfl) s
theorem fi_15 : fInfo E 15 = some ⟨30, #[.tmp 8, .tmp 9], c15_0⟩ := nrfl rfl
theorem b_15 (args : List AV) : bodyA E C fg N 15 args H B = bodyX E [.tmp 8, .tmp 9] (execA E C (fg 15) B 30 H N c15_0 (frame0 args 0 [], H)) := bodyA_eq fi_15 args H
/-! ### f19: novaculite/prop.Proves -/
noncomputable def c19_0 : Code := kBody Proofs.Try.f19
noncomputable def c19_1 : Code := kL c19_0
noncomputable def r19_0 : Array Oper := kO c19_1
noncomputable def o19_0_0 : Oper := opN r19_0 0
theorem x19_1 : execA E C (fg 19) B 31 E0 N c19_1 s = regX (runA E C B 31 r19_0 r19_0.toList s) (fun s => gcM E0 [6] (forget s.1 [6], s.2)) := x_reg (ops := r19_0) (by rfl) (by rfl) s
theorem r19_0_l : r19_0.toList = [o19_0_0] := nrfl rfl
theorem s19_0_0 : stepA E C B 31 r19_0 o19_0_0 (φ, H) = some (fput φ 6 (.int .i64 0), H) := nrfl rfl
noncomputable def c19_2 : Code := kR c19_0
noncomputable def c19_3 : Code := kL c19_2
noncomputable def c19_4 : Code := kL c19_3
noncomputable def r19_1 : Array Oper := kO c19_4
noncomputable def o19_1_0 : Oper := opN r19_1 0
noncomputable def o19_1_1 : Oper := opN r19_1 1
noncomputable def o19_1_2 : Oper := opN r19_1 2
noncomputable def o19_1_3 : Oper := opN r19_1 3
theorem x19_4 : execA E C (fg 19) B 31 E0 N c19_4 s = regX (runA E C B 31 r19_1 r19_1.toList s) (fun s => gcM E0 [9, 10, 11] (forget s.1 [9, 10, 11], s.2)) := x_reg (ops := r19_1) (by rfl) (by rfl) s
theorem r19_1_l : r19_1.toList = [o19_1_0, o19_1_1, o19_1_2, o19_1_3] := nrfl rfl
theorem s19_1_0 : stepA E C B 31 r19_1 o19_1_0 (φ, H) = some (fput φ 9 (fget φ 0), H) := nrfl rfl
theorem s19_1_1 : stepA E C B 31 r19_1 o19_1_1 (φ, H) = some (fput φ 10 (fget φ 2), H) := nrfl rfl
theorem s19_1_2 : stepA E C B 31 r19_1 o19_1_2 (φ, H) = stp (some 11) φ H (aCall C (fun j => B + j * 31 + 11) true 57 [(fget φ 9), (fget φ 10)]) := nrfl rfl
theorem s19_1_3 : stepA E C B 31 r19_1 o19_1_3 (φ, H) = some (fput φ 7 (fget φ 11), H) := nrfl rfl
noncomputable def c19_5 : Code := kR c19_3
noncomputable def c19_6 : Code := kL c19_5
noncomputable def r19_2 : Array Oper := kO c19_6
noncomputable def o19_2_0 : Oper := opN r19_2 0
noncomputable def o19_2_1 : Oper := opN r19_2 1
theorem x19_6 : execA E C (fg 19) B 31 E0 N c19_6 s = regX (runA E C B 31 r19_2 r19_2.toList s) (fun s => gcM E0 [12] (forget s.1 [12], s.2)) := x_reg (ops := r19_2) (by rfl) (by rfl) s
theorem r19_2_l : r19_2.toList = [o19_2_0, o19_2_1] := nrfl rfl
theorem s19_2_0 : stepA E C B 31 r19_2 o19_2_0 (φ, H) = some (fput φ 12 (fget φ 7), H) := nrfl rfl
theorem s19_2_1 : stepA E C B 31 r19_2 o19_2_1 (φ, H) = stp (some 13) φ H (just (aBin E.T .neq 27 (fget φ 12) (.int .i64 0))) := nrfl rfl
noncomputable def c19_7 : Code := kR c19_5
noncomputable def c19_8 : Code := kT c19_7
noncomputable def c19_9 : Code := kL c19_8
noncomputable def r19_3 : Array Oper := kO c19_9
noncomputable def o19_3_0 : Oper := opN r19_3 0
noncomputable def o19_3_1 : Oper := opN r19_3 1
theorem x19_9 : execA E C (fg 19) B 31 E0 N c19_9 s = regX (runA E C B 31 r19_3 r19_3.toList s) (fun s => gcM E0 [0, 1, 2, 7, 13, 14] (forget s.1 [0, 1, 2, 7, 13, 14], s.2)) := x_reg (ops := r19_3) (by rfl) (by rfl) s
theorem r19_3_l : r19_3.toList = [o19_3_0, o19_3_1] := nrfl rfl
theorem s19_3_0 : stepA E C B 31 r19_3 o19_3_0 (φ, H) = some (fput φ 14 (fget φ 7), H) := nrfl rfl
theorem s19_3_1 : stepA E C B 31 r19_3 o19_3_1 (φ, H) = some (fput φ 6 (fget φ 14), H) := nrfl rfl
noncomputable def c19_10 : Code := kR c19_8
theorem x19_10 : execA E C (fg 19) B 31 E0 N c19_10 s = some (.ret, s) := x_ret (by rfl) s
theorem x19_8 : execA E C (fg 19) B 31 E0 N c19_8 s = seqX (execA E C (fg 19) B 31 E0 N c19_9 s) (execA E C (fg 19) B 31 E0 N c19_10) := x_seq (by rfl) s
noncomputable def c19_11 : Code := kE c19_7
theorem x19_11 : execA E C (fg 19) B 31 E0 N c19_11 s = some (.normal, s) := x_skip (by rfl) s
theorem x19_7 : execA E C (fg 19) B 31 E0 N c19_7 (φ, H) = condX (fget φ 13) (execA E C (fg 19) B 31 E0 N c19_8 (φ, H)) (execA E C (fg 19) B 31 E0 N c19_11 (φ, H)) := x_cond (by rfl) _
theorem x19_5 : execA E C (fg 19) B 31 E0 N c19_5 s = seqX (execA E C (fg 19) B 31 E0 N c19_6 s) (execA E C (fg 19) B 31 E0 N c19_7) := x_seq (by rfl) s
theorem x19_3 : execA E C (fg 19) B 31 E0 N c19_3 s = seqX (execA E C (fg 19) B 31 E0 N c19_4 s) (execA E C (fg 19) B 31 E0 N c19_5) := x_seq (by rfl) s
noncomputable def c19_12 : Code := kR c19_2
noncomputable def c19_13 : Code := kL c19_12
noncomputable def c19_14 : Code := kL c19_13
noncomputable def r19_4 : Array Oper := kO c19_14
noncomputable def o19_4_0 : Oper := opN r19_4 0
noncomputable def o19_4_1 : Oper := opN r19_4 1
noncomputable def o19_4_2 : Oper := opN r19_4 2
noncomputable def o19_4_3 : Oper := opN r19_4 3
theorem x19_14 : execA E C (fg 19) B 31 E0 N c19_14 s = regX (runA E C B 31 r19_4 r19_4.toList s) (fun s => gcM E0 [7, 13, 15, 16, 17] (forget s.1 [7, 13, 15, 16, 17], s.2)) := x_reg (ops := r19_4) (by rfl) (by rfl) s
theorem r19_4_l : r19_4.toList = [o19_4_0, o19_4_1, o19_4_2, o19_4_3] := nrfl rfl
theorem s19_4_0 : stepA E C B 31 r19_4 o19_4_0 (φ, H) = some (fput φ 15 (fget φ 0), H) := nrfl rfl
theorem s19_4_1 : stepA E C B 31 r19_4 o19_4_1 (φ, H) = some (fput φ 16 (fget φ 1), H) := nrfl rfl
theorem s19_4_2 : stepA E C B 31 r19_4 o19_4_2 (φ, H) = stp (some 17) φ H (aCall C (fun j => B + j * 31 + 17) true 51 [(fget φ 15), (fget φ 16)]) := nrfl rfl
theorem s19_4_3 : stepA E C B 31 r19_4 o19_4_3 (φ, H) = some (fput φ 8 (fget φ 17), H) := nrfl rfl
noncomputable def c19_15 : Code := kR c19_13
noncomputable def c19_16 : Code := kL c19_15
noncomputable def r19_5 : Array Oper := kO c19_16
noncomputable def o19_5_0 : Oper := opN r19_5 0
noncomputable def o19_5_1 : Oper := opN r19_5 1
theorem x19_16 : execA E C (fg 19) B 31 E0 N c19_16 s = regX (runA E C B 31 r19_5 r19_5.toList s) (fun s => gcM E0 [18] (forget s.1 [18], s.2)) := x_reg (ops := r19_5) (by rfl) (by rfl) s
theorem r19_5_l : r19_5.toList = [o19_5_0, o19_5_1] := nrfl rfl
theorem s19_5_0 : stepA E C B 31 r19_5 o19_5_0 (φ, H) = some (fput φ 18 (fget φ 8), H) := nrfl rfl
theorem s19_5_1 : stepA E C B 31 r19_5 o19_5_1 (φ, H) = stp (some 19) φ H (just (aBin E.T .neq 27 (fget φ 18) (.int .i64 0))) := nrfl rfl
noncomputable def c19_17 : Code := kR c19_15
noncomputable def c19_18 : Code := kT c19_17
noncomputable def c19_19 : Code := kL c19_18
noncomputable def r19_6 : Array Oper := kO c19_19
noncomputable def o19_6_0 : Oper := opN r19_6 0
noncomputable def o19_6_1 : Oper := opN r19_6 1
theorem x19_19 : execA E C (fg 19) B 31 E0 N c19_19 s = regX (runA E C B 31 r19_6 r19_6.toList s) (fun s => gcM E0 [0, 1, 2, 8, 19, 20] (forget s.1 [0, 1, 2, 8, 19, 20], s.2)) := x_reg (ops := r19_6) (by rfl) (by rfl) s
theorem r19_6_l : r19_6.toList = [o19_6_0, o19_6_1] := nrfl rfl
theorem s19_6_0 : stepA E C B 31 r19_6 o19_6_0 (φ, H) = some (fput φ 20 (fget φ 8), H) := nrfl rfl
theorem s19_6_1 : stepA E C B 31 r19_6 o19_6_1 (φ, H) = some (fput φ 6 (fget φ 20), H) := nrfl rfl
noncomputable def c19_20 : Code := kR c19_18
theorem x19_20 : execA E C (fg 19) B 31 E0 N c19_20 s = some (.ret, s) := x_ret (by rfl) s
theorem x19_18 : execA E C (fg 19) B 31 E0 N c19_18 s = seqX (execA E C (fg 19) B 31 E0 N c19_19 s) (execA E C (fg 19) B 31 E0 N c19_20) := x_seq (by rfl) s
noncomputable def c19_21 : Code := kE c19_17
theorem x19_21 : execA E C (fg 19) B 31 E0 N c19_21 s = some (.normal, s) := x_skip (by rfl) s
theorem x19_17 : execA E C (fg 19) B 31 E0 N c19_17 (φ, H) = condX (fget φ 19) (execA E C (fg 19) B 31 E0 N c19_18 (φ, H)) (execA E C (fg 19) B 31 E0 N c19_21 (φ, H)) := x_cond (by rfl) _
theorem x19_15 : execA E C (fg 19) B 31 E0 N c19_15 s = seqX (execA E C (fg 19) B 31 E0 N c19_16 s) (execA E C (fg 19) B 31 E0 N c19_17) := x_seq (by rfl) s
theorem x19_13 : execA E C (fg 19) B 31 E0 N c19_13 s = seqX (execA E C (fg 19) B 31 E0 N c19_14 s) (execA E C (fg 19) B 31 E0 N c19_15) := x_seq (by rfl) s
noncomputable def c19_22 : Code := kR c19_12
noncomputable def c19_23 : Code := kL c19_22
noncomputable def c19_24 : Code := kL c19_23
noncomputable def r19_7 : Array Oper := kO c19_24
noncomputable def o19_7_0 : Oper := opN r19_7 0
noncomputable def o19_7_1 : Oper := opN r19_7 1
noncomputable def o19_7_2 : Oper := opN r19_7 2
noncomputable def o19_7_3 : Oper := opN r19_7 3
noncomputable def o19_7_4 : Oper := opN r19_7 4
noncomputable def o19_7_5 : Oper := opN r19_7 5
noncomputable def o19_7_6 : Oper := opN r19_7 6
noncomputable def o19_7_7 : Oper := opN r19_7 7
noncomputable def o19_7_8 : Oper := opN r19_7 8
noncomputable def o19_7_9 : Oper := opN r19_7 9
theorem x19_24 : execA E C (fg 19) B 31 E0 N c19_24 s = regX (runA E C B 31 r19_7 r19_7.toList s) (fun s => gcM E0 [0, 1, 2, 8, 19, 21, 22, 23, 24, 25, 26, 27, 28, 29] (forget s.1 [0, 1, 2, 8, 19, 21, 22, 23, 24, 25, 26, 27, 28, 29], s.2)) := x_reg (ops := r19_7) (by rfl) (by rfl) s
theorem r19_7_l : r19_7.toList = [o19_7_0, o19_7_1, o19_7_2, o19_7_3, o19_7_4, o19_7_5, o19_7_6, o19_7_7, o19_7_8, o19_7_9] := nrfl rfl
theorem s19_7_0 : stepA E C B 31 r19_7 o19_7_0 (φ, H) = some (fput φ 21 (fget φ 0), H) := nrfl rfl
theorem s19_7_1 : stepA E C B 31 r19_7 o19_7_1 (φ, H) = some (fput φ 22 (fget φ 1), H) := nrfl rfl
theorem s19_7_2 : stepA E C B 31 r19_7 o19_7_2 (φ, H) = some (fput φ 23 (fget φ 2), H) := nrfl rfl
theorem s19_7_3 : stepA E C B 31 r19_7 o19_7_3 (φ, H) = stp (some 24) φ H (aCall C (fun j => B + j * 31 + 24) true 52 [(fget φ 21), (fget φ 22), (fget φ 23), (.int .i64 1)]) := nrfl rfl
theorem s19_7_4 : stepA E C B 31 r19_7 o19_7_4 (φ, H) = some (fput φ 25 (fget φ 0), H) := nrfl rfl
theorem s19_7_5 : stepA E C B 31 r19_7 o19_7_5 (φ, H) = some (fput φ 26 (fget φ 1), H) := nrfl rfl
theorem s19_7_6 : stepA E C B 31 r19_7 o19_7_6 (φ, H) = some (fput φ 27 (fget φ 2), H) := nrfl rfl
theorem s19_7_7 : stepA E C B 31 r19_7 o19_7_7 (φ, H) = stp (some 28) φ H (aCall C (fun j => B + j * 31 + 28) true 52 [(fget φ 25), (fget φ 26), (fget φ 27), (.int .i64 (-1))]) := nrfl rfl
theorem s19_7_8 : stepA E C B 31 r19_7 o19_7_8 (φ, H) = stp (some 29) φ H (aBuiltin E.T (B + 29) .max #[3, 3] [(fget φ 24), (fget φ 28)]) := nrfl rfl
theorem s19_7_9 : stepA E C B 31 r19_7 o19_7_9 (φ, H) = stp (some 30) φ H (just (aBin E.T .leq 3 (fget φ 29) (.int .i64 0))) := nrfl rfl
noncomputable def c19_25 : Code := kR c19_23
noncomputable def c19_26 : Code := kT c19_25
noncomputable def c19_27 : Code := kL c19_26
noncomputable def r19_8 : Array Oper := kO c19_27
noncomputable def o19_8_0 : Oper := opN r19_8 0
theorem x19_27 : execA E C (fg 19) B 31 E0 N c19_27 s = regX (runA E C B 31 r19_8 r19_8.toList s) (fun s => gcM E0 [30] (forget s.1 [30], s.2)) := x_reg (ops := r19_8) (by rfl) (by rfl) s
theorem r19_8_l : r19_8.toList = [o19_8_0] := nrfl rfl
theorem s19_8_0 : stepA E C B 31 r19_8 o19_8_0 (φ, H) = some (fput φ 6 (.int .i64 14), H) := nrfl rfl
noncomputable def c19_28 : Code := kR c19_26
theorem x19_28 : execA E C (fg 19) B 31 E0 N c19_28 s = some (.ret, s) := x_ret (by rfl) s
theorem x19_26 : execA E C (fg 19) B 31 E0 N c19_26 s = seqX (execA E C (fg 19) B 31 E0 N c19_27 s) (execA E C (fg 19) B 31 E0 N c19_28) := x_seq (by rfl) s
noncomputable def c19_29 : Code := kE c19_25
theorem x19_29 : execA E C (fg 19) B 31 E0 N c19_29 s = some (.normal, s) := x_skip (by rfl) s
theorem x19_25 : execA E C (fg 19) B 31 E0 N c19_25 (φ, H) = condX (fget φ 30) (execA E C (fg 19) B 31 E0 N c19_26 (φ, H)) (execA E C (fg 19) B 31 E0 N c19_29 (φ, H)) := x_cond (by rfl) _
theorem x19_23 : execA E C (fg 19) B 31 E0 N c19_23 s = seqX (execA E C (fg 19) B 31 E0 N c19_24 s) (execA E C (fg 19) B 31 E0 N c19_25) := x_seq (by rfl) s
noncomputable def c19_30 : Code := kR c19_22
noncomputable def c19_31 : Code := kL c19_30
noncomputable def r19_9 : Array Oper := kO c19_31
noncomputable def o19_9_0 : Oper := opN r19_9 0
theorem x19_31 : execA E C (fg 19) B 31 E0 N c19_31 s = regX (runA E C B 31 r19_9 r19_9.toList s) (fun s => gcM E0 [30] (forget s.1 [30], s.2)) := x_reg (ops := r19_9) (by rfl) (by rfl) s
theorem r19_9_l : r19_9.toList = [o19_9_0] := nrfl rfl
theorem s19_9_0 : stepA E C B 31 r19_9 o19_9_0 (φ, H) = some (fput φ 6 (.int .i64 0), H) := nrfl rfl
noncomputable def c19_32 : Code := kR c19_30
theorem x19_32 : execA E C (fg 19) B 31 E0 N c19_32 s = some (.ret, s) := x_ret (by rfl) s
theorem x19_30 : execA E C (fg 19) B 31 E0 N c19_30 s = seqX (execA E C (fg 19) B 31 E0 N c19_31 s) (execA E C (fg 19) B 31 E0 N c19_32) := x_seq (by rfl) s
theorem x19_22 : execA E C (fg 19) B 31 E0 N c19_22 s = seqX (execA E C (fg 19) B 31 E0 N c19_23 s) (execA E C (fg 19) B 31 E0 N c19_30) := x_seq (by rfl) s
theorem x19_12 : execA E C (fg 19) B 31 E0 N c19_12 s = seqX (execA E C (fg 19) B 31 E0 N c19_13 s) (execA E C (fg 19) B 31 E0 N c19_22) := x_seq (by rfl) s
theorem x19_2 : execA E C (fg 19) B 31 E0 N c19_2 s = seqX (execA E C (fg 19) B 31 E0 N c19_3 s) (execA E C (fg 19) B 31 E0 N c19_12) := x_seq (by rfl) s
theorem x19_0 : execA E C (fg 19) B 31 E0 N c19_0 s = seqX (execA E C (fg 19) B 31 E0 N c19_1 s) (execA E C (fg 19) B 31 E0 N c19_2) := x_seq (by rfl) s
theorem fi_19 : fInfo E 19 = some ⟨31, #[.tmp 6], c19_0⟩ := nrfl rfl
theorem b_19 (args : List AV) : bodyA E C fg N 19 args H B = bodyX E [.tmp 6] (execA E C (fg 19) B 31 H N c19_0 (frame0 args 0 [], H)) := bodyA_eq fi_19 args H
/-! ### f7: novaculite/novaculitelaw07.inner -/
noncomputable def c7_0 : Code := kBody Proofs.Try.f7
noncomputable def c7_1 : Code := kL c7_0
noncomputable def r7_0 : Array Oper := kO c7_1
noncomputable def o7_0_0 : Oper := opN r7_0 0
theorem x7_1 : execA E C (fg 7) B 19 E0 N c7_1 s = regX (runA E C B 19 r7_0 r7_0.toList s) (fun s => gcM E0 [2] (forget s.1 [2], s.2)) := x_reg (ops := r7_0) (by rfl) (by rfl) s
theorem r7_0_l : r7_0.toList = [o7_0_0] := nrfl rfl
theorem s7_0_0 : stepA E C B 19 r7_0 o7_0_0 (φ, H) = some (fput φ 2 (.nilsl), H) := nrfl rfl
noncomputable def c7_2 : Code := kR c7_0
noncomputable def c7_3 : Code := kL c7_2
noncomputable def r7_1 : Array Oper := kO c7_3
noncomputable def o7_1_0 : Oper := opN r7_1 0
theorem x7_3 : execA E C (fg 7) B 19 E0 N c7_3 s = regX (runA E C B 19 r7_1 r7_1.toList s) (fun s => gcM E0 [] (forget s.1 [], s.2)) := x_reg (ops := r7_1) (by rfl) (by rfl) s
theorem r7_1_l : r7_1.toList = [o7_1_0] := nrfl rfl
theorem s7_1_0 : stepA E C B 19 r7_1 o7_1_0 (φ, H) = some (fput φ 3 (.nilsl), H) := nrfl rfl
noncomputable def c7_4 : Code := kR c7_2
noncomputable def c7_5 : Code := kL c7_4
noncomputable def c7_6 : Code := kL c7_5
noncomputable def r7_2 : Array Oper := kO c7_6
noncomputable def o7_2_0 : Oper := opN r7_2 0
theorem x7_6 : execA E C (fg 7) B 19 E0 N c7_6 s = regX (runA E C B 19 r7_2 r7_2.toList s) (fun s => gcM E0 [] (forget s.1 [], s.2)) := x_reg (ops := r7_2) (by rfl) (by rfl) s
theorem r7_2_l : r7_2.toList = [o7_2_0] := nrfl rfl
theorem s7_2_0 : stepA E C B 19 r7_2 o7_2_0 (φ, H) = some (fput φ 4 (.int .i64 0), H) := nrfl rfl
noncomputable def c7_7 : Code := kR c7_5
noncomputable def c7_8 : Code := kB c7_7
noncomputable def c7_9 : Code := kB c7_8
noncomputable def c7_10 : Code := kL c7_9
noncomputable def c7_11 : Code := kL c7_10
noncomputable def r7_3 : Array Oper := kO c7_11
noncomputable def o7_3_0 : Oper := opN r7_3 0
noncomputable def o7_3_1 : Oper := opN r7_3 1
noncomputable def o7_3_2 : Oper := opN r7_3 2
noncomputable def o7_3_3 : Oper := opN r7_3 3
theorem x7_11 : execA E C (fg 7) B 19 E0 N c7_11 s = regX (runA E C B 19 r7_3 r7_3.toList s) (fun s => gcM E0 [5, 6, 7] (forget s.1 [5, 6, 7], s.2)) := x_reg (ops := r7_3) (by rfl) (by rfl) s
theorem r7_3_l : r7_3.toList = [o7_3_0, o7_3_1, o7_3_2, o7_3_3] := nrfl rfl
theorem s7_3_0 : stepA E C B 19 r7_3 o7_3_0 (φ, H) = some (fput φ 5 (fget φ 4), H) := nrfl rfl
theorem s7_3_1 : stepA E C B 19 r7_3 o7_3_1 (φ, H) = some (fput φ 6 (fget φ 0), H) := nrfl rfl
theorem s7_3_2 : stepA E C B 19 r7_3 o7_3_2 (φ, H) = stp (some 7) φ H (aBuiltin E.T (B + 7) .len #[22] [(fget φ 6)]) := nrfl rfl
theorem s7_3_3 : stepA E C B 19 r7_3 o7_3_3 (φ, H) = stp (some 8) φ H (just (aBin E.T .lss 3 (fget φ 5) (fget φ 7))) := nrfl rfl
noncomputable def c7_12 : Code := kR c7_10
noncomputable def c7_13 : Code := kT c7_12
theorem x7_13 : execA E C (fg 7) B 19 E0 N c7_13 s = some (.normal, s) := x_skip (by rfl) s
noncomputable def c7_14 : Code := kE c7_12
theorem x7_14 : execA E C (fg 7) B 19 E0 N c7_14 s = some (.exit 0, s) := x_exit (by rfl) s
theorem x7_12 : execA E C (fg 7) B 19 E0 N c7_12 (φ, H) = condX (fget φ 8) (execA E C (fg 7) B 19 E0 N c7_13 (φ, H)) (execA E C (fg 7) B 19 E0 N c7_14 (φ, H)) := x_cond (by rfl) _
theorem x7_10 : execA E C (fg 7) B 19 E0 N c7_10 s = seqX (execA E C (fg 7) B 19 E0 N c7_11 s) (execA E C (fg 7) B 19 E0 N c7_12) := x_seq (by rfl) s
noncomputable def c7_15 : Code := kR c7_9
noncomputable def c7_16 : Code := kL c7_15
noncomputable def c7_17 : Code := kB c7_16
noncomputable def r7_5 : Array Oper := kO c7_17
noncomputable def o7_5_0 : Oper := opN r7_5 0
noncomputable def o7_5_1 : Oper := opN r7_5 1
noncomputable def o7_5_2 : Oper := opN r7_5 2
noncomputable def o7_5_3 : Oper := opN r7_5 3
noncomputable def o7_5_4 : Oper := opN r7_5 4
noncomputable def o7_5_5 : Oper := opN r7_5 5
noncomputable def o7_5_6 : Oper := opN r7_5 6
noncomputable def o7_5_7 : Oper := opN r7_5 7
theorem x7_17 : execA E C (fg 7) B 19 E0 N c7_17 s = regX (runA E C B 19 r7_5 r7_5.toList s) (fun s => gcM E0 [8, 11, 12, 13, 14, 15, 16, 17] (forget s.1 [8, 11, 12, 13, 14, 15, 16, 17], s.2)) := x_reg (ops := r7_5) (by rfl) (by rfl) s
theorem r7_5_l : r7_5.toList = [o7_5_0, o7_5_1, o7_5_2, o7_5_3, o7_5_4, o7_5_5, o7_5_6, o7_5_7] := nrfl rfl
theorem s7_5_0 : stepA E C B 19 r7_5 o7_5_0 (φ, H) = some (fput φ 11 (fget φ 3), H) := nrfl rfl
theorem s7_5_1 : stepA E C B 19 r7_5 o7_5_1 (φ, H) = some (fput φ 12 (fget φ 0), H) := nrfl rfl
theorem s7_5_2 : stepA E C B 19 r7_5 o7_5_2 (φ, H) = some (fput φ 13 (fget φ 4), H) := nrfl rfl
theorem s7_5_3 : stepA E C B 19 r7_5 o7_5_3 (φ, H) = stp (some 14) φ H (just (aIndexAddr E.T 22 (fget φ 12) (fget φ 13))) := nrfl rfl
theorem s7_5_4 : stepA E C B 19 r7_5 o7_5_4 (φ, H) = stp (some 15) φ H (just (aLoad E.T 56 (fget φ 14))) := nrfl rfl
theorem s7_5_5 : stepA E C B 19 r7_5 o7_5_5 (φ, H) = stp (some 16) φ H (aBuildSlice E.T (B + 16) 25 1 (evO E φ) [(0, Operand.tmp 15)]) := nrfl rfl
theorem s7_5_6 : stepA E C B 19 r7_5 o7_5_6 (φ, H) = stp (some 17) φ H (aBuiltin E.T (B + 17) .append #[25, 25] [(fget φ 11), (fget φ 16)]) := nrfl rfl
theorem s7_5_7 : stepA E C B 19 r7_5 o7_5_7 (φ, H) = some (fput φ 3 (fget φ 17), H) := nrfl rfl
theorem x7_16 : execA E C (fg 7) B 19 E0 N c7_16 s = blockX 1 (fun s => (forget s.1 [], s.2)) (execA E C (fg 7) B 19 E0 N c7_17 s) := x_block (by rfl) (by rfl) s
noncomputable def c7_18 : Code := kR c7_15
noncomputable def r7_4 : Array Oper := kO c7_18
noncomputable def o7_4_0 : Oper := opN r7_4 0
noncomputable def o7_4_1 : Oper := opN r7_4 1
noncomputable def o7_4_2 : Oper := opN r7_4 2
theorem x7_18 : execA E C (fg 7) B 19 E0 N c7_18 s = regX (runA E C B 19 r7_4 r7_4.toList s) (fun s => gcM E0 [9, 10] (forget s.1 [9, 10], s.2)) := x_reg (ops := r7_4) (by rfl) (by rfl) s
theorem r7_4_l : r7_4.toList = [o7_4_0, o7_4_1, o7_4_2] := nrfl rfl
theorem s7_4_0 : stepA E C B 19 r7_4 o7_4_0 (φ, H) = some (fput φ 9 (fget φ 4), H) := nrfl rfl
theorem s7_4_1 : stepA E C B 19 r7_4 o7_4_1 (φ, H) = stp (some 10) φ H (just (aBin E.T .add 3 (fget φ 9) (.int .i64 1))) := nrfl rfl
theorem s7_4_2 : stepA E C B 19 r7_4 o7_4_2 (φ, H) = some (fput φ 4 (fget φ 10), H) := nrfl rfl
theorem x7_15 : execA E C (fg 7) B 19 E0 N c7_15 s = seqX (execA E C (fg 7) B 19 E0 N c7_16 s) (execA E C (fg 7) B 19 E0 N c7_18) := x_seq (by rfl) s
theorem x7_9 : execA E C (fg 7) B 19 E0 N c7_9 s = seqX (execA E C (fg 7) B 19 E0 N c7_10 s) (execA E C (fg 7) B 19 E0 N c7_15) := x_seq (by rfl) s
-- a loop of f7: x7_8; body c7_9; slots [4, 3, 0]
theorem x7_8 : execA E C (fg 7) B 19 E0 N c7_8 s = iterA (execA E C (fg 7) B 19 E0 N c7_9) (headA E0) N s := x_loop (by rfl) s
theorem x7_7 : execA E C (fg 7) B 19 E0 N c7_7 s = blockX 0 (fun s => (forget s.1 [0, 4, 8], s.2)) (execA E C (fg 7) B 19 E0 N c7_8 s) := x_block (by rfl) (by rfl) s
theorem x7_5 : execA E C (fg 7) B 19 E0 N c7_5 s = seqX (execA E C (fg 7) B 19 E0 N c7_6 s) (execA E C (fg 7) B 19 E0 N c7_7) := x_seq (by rfl) s
noncomputable def c7_19 : Code := kR c7_4
noncomputable def c7_20 : Code := kL c7_19
noncomputable def r7_6 : Array Oper := kO c7_20
noncomputable def o7_6_0 : Oper := opN r7_6 0
noncomputable def o7_6_1 : Oper := opN r7_6 1
theorem x7_20 : execA E C (fg 7) B 19 E0 N c7_20 s = regX (runA E C B 19 r7_6 r7_6.toList s) (fun s => gcM E0 [3, 18] (forget s.1 [3, 18], s.2)) := x_reg (ops := r7_6) (by rfl) (by rfl) s
theorem r7_6_l : r7_6.toList = [o7_6_0, o7_6_1] := nrfl rfl
theorem s7_6_0 : stepA E C B 19 r7_6 o7_6_0 (φ, H) = some (fput φ 18 (fget φ 3), H) := nrfl rfl
theorem s7_6_1 : stepA E C B 19 r7_6 o7_6_1 (φ, H) = some (fput φ 2 (fget φ 18), H) := nrfl rfl
noncomputable def c7_21 : Code := kR c7_19
theorem x7_21 : execA E C (fg 7) B 19 E0 N c7_21 s = some (.ret, s) := x_ret (by rfl) s
theorem x7_19 : execA E C (fg 7) B 19 E0 N c7_19 s = seqX (execA E C (fg 7) B 19 E0 N c7_20 s) (execA E C (fg 7) B 19 E0 N c7_21) := x_seq (by rfl) s
theorem x7_4 : execA E C (fg 7) B 19 E0 N c7_4 s = seqX (execA E C (fg 7) B 19 E0 N c7_5 s) (execA E C (fg 7) B 19 E0 N c7_19) := x_seq (by rfl) s
theorem x7_2 : execA E C (fg 7) B 19 E0 N c7_2 s = seqX (execA E C (fg 7) B 19 E0 N c7_3 s) (execA E C (fg 7) B 19 E0 N c7_4) := x_seq (by rfl) s
theorem x7_0 : execA E C (fg 7) B 19 E0 N c7_0 s = seqX (execA E C (fg 7) B 19 E0 N c7_1 s) (execA E C (fg 7) B 19 E0 N c7_2) := x_seq (by rfl) s
theorem fi_7 : fInfo E 7 = some ⟨19, #[.tmp 2], c7_0⟩ := nrfl rfl
theorem b_7 (args : List AV) : bodyA E C fg N 7 args H B = bodyX E [.tmp 2] (execA E C (fg 7) B 19 H N c7_0 (frame0 args 0 [], H)) := bodyA_eq fi_7 args H
/-! ### f14: novaculite/novaculitelaw07.same -/
noncomputable def c14_0 : Code := kBody Proofs.Try.f14
noncomputable def c14_1 : Code := kL c14_0
noncomputable def r14_0 : Array Oper := kO c14_1
noncomputable def o14_0_0 : Oper := opN r14_0 0
theorem x14_1 : execA E C (fg 14) B 26 E0 N c14_1 s = regX (runA E C B 26 r14_0 r14_0.toList s) (fun s => gcM E0 [4] (forget s.1 [4], s.2)) := x_reg (ops := r14_0) (by rfl) (by rfl) s
theorem r14_0_l : r14_0.toList = [o14_0_0] := nrfl rfl
theorem s14_0_0 : stepA E C B 26 r14_0 o14_0_0 (φ, H) = some (fput φ 4 (.bool false), H) := nrfl rfl
noncomputable def c14_2 : Code := kR c14_0
noncomputable def c14_3 : Code := kL c14_2
noncomputable def c14_4 : Code := kL c14_3
noncomputable def r14_1 : Array Oper := kO c14_4
noncomputable def o14_1_0 : Oper := opN r14_1 0
noncomputable def o14_1_1 : Oper := opN r14_1 1
noncomputable def o14_1_2 : Oper := opN r14_1 2
noncomputable def o14_1_3 : Oper := opN r14_1 3
noncomputable def o14_1_4 : Oper := opN r14_1 4
theorem x14_4 : execA E C (fg 14) B 26 E0 N c14_4 s = regX (runA E C B 26 r14_1 r14_1.toList s) (fun s => gcM E0 [6, 7, 8, 9] (forget s.1 [6, 7, 8, 9], s.2)) := x_reg (ops := r14_1) (by rfl) (by rfl) s
theorem r14_1_l : r14_1.toList = [o14_1_0, o14_1_1, o14_1_2, o14_1_3, o14_1_4] := nrfl rfl
theorem s14_1_0 : stepA E C B 26 r14_1 o14_1_0 (φ, H) = some (fput φ 6 (fget φ 0), H) := nrfl rfl
theorem s14_1_1 : stepA E C B 26 r14_1 o14_1_1 (φ, H) = stp (some 7) φ H (aBuiltin E.T (B + 7) .len #[23] [(fget φ 6)]) := nrfl rfl
theorem s14_1_2 : stepA E C B 26 r14_1 o14_1_2 (φ, H) = some (fput φ 8 (fget φ 1), H) := nrfl rfl
theorem s14_1_3 : stepA E C B 26 r14_1 o14_1_3 (φ, H) = stp (some 9) φ H (aBuiltin E.T (B + 9) .len #[23] [(fget φ 8)]) := nrfl rfl
theorem s14_1_4 : stepA E C B 26 r14_1 o14_1_4 (φ, H) = stp (some 10) φ H (just (aBin E.T .neq 3 (fget φ 7) (fget φ 9))) := nrfl rfl
noncomputable def c14_5 : Code := kR c14_3
noncomputable def c14_6 : Code := kT c14_5
noncomputable def c14_7 : Code := kL c14_6
noncomputable def r14_2 : Array Oper := kO c14_7
noncomputable def o14_2_0 : Oper := opN r14_2 0
theorem x14_7 : execA E C (fg 14) B 26 E0 N c14_7 s = regX (runA E C B 26 r14_2 r14_2.toList s) (fun s => gcM E0 [0, 1, 10] (forget s.1 [0, 1, 10], s.2)) := x_reg (ops := r14_2) (by rfl) (by rfl) s
theorem r14_2_l : r14_2.toList = [o14_2_0] := nrfl rfl
theorem s14_2_0 : stepA E C B 26 r14_2 o14_2_0 (φ, H) = some (fput φ 4 (.bool false), H) := nrfl rfl
noncomputable def c14_8 : Code := kR c14_6
theorem x14_8 : execA E C (fg 14) B 26 E0 N c14_8 s = some (.ret, s) := x_ret (by rfl) s
theorem x14_6 : execA E C (fg 14) B 26 E0 N c14_6 s = seqX (execA E C (fg 14) B 26 E0 N c14_7 s) (execA E C (fg 14) B 26 E0 N c14_8) := x_seq (by rfl) s
noncomputable def c14_9 : Code := kE c14_5
theorem x14_9 : execA E C (fg 14) B 26 E0 N c14_9 s = some (.normal, s) := x_skip (by rfl) s
theorem x14_5 : execA E C (fg 14) B 26 E0 N c14_5 (φ, H) = condX (fget φ 10) (execA E C (fg 14) B 26 E0 N c14_6 (φ, H)) (execA E C (fg 14) B 26 E0 N c14_9 (φ, H)) := x_cond (by rfl) _
theorem x14_3 : execA E C (fg 14) B 26 E0 N c14_3 s = seqX (execA E C (fg 14) B 26 E0 N c14_4 s) (execA E C (fg 14) B 26 E0 N c14_5) := x_seq (by rfl) s
noncomputable def c14_10 : Code := kR c14_2
noncomputable def c14_11 : Code := kL c14_10
noncomputable def c14_12 : Code := kL c14_11
noncomputable def r14_3 : Array Oper := kO c14_12
noncomputable def o14_3_0 : Oper := opN r14_3 0
theorem x14_12 : execA E C (fg 14) B 26 E0 N c14_12 s = regX (runA E C B 26 r14_3 r14_3.toList s) (fun s => gcM E0 [10] (forget s.1 [10], s.2)) := x_reg (ops := r14_3) (by rfl) (by rfl) s
theorem r14_3_l : r14_3.toList = [o14_3_0] := nrfl rfl
theorem s14_3_0 : stepA E C B 26 r14_3 o14_3_0 (φ, H) = some (fput φ 5 (.int .i64 0), H) := nrfl rfl
noncomputable def c14_13 : Code := kR c14_11
noncomputable def c14_14 : Code := kB c14_13
noncomputable def c14_15 : Code := kB c14_14
noncomputable def c14_16 : Code := kL c14_15
noncomputable def c14_17 : Code := kL c14_16
noncomputable def r14_4 : Array Oper := kO c14_17
noncomputable def o14_4_0 : Oper := opN r14_4 0
noncomputable def o14_4_1 : Oper := opN r14_4 1
noncomputable def o14_4_2 : Oper := opN r14_4 2
noncomputable def o14_4_3 : Oper := opN r14_4 3
theorem x14_17 : execA E C (fg 14) B 26 E0 N c14_17 s = regX (runA E C B 26 r14_4 r14_4.toList s) (fun s => gcM E0 [11, 12, 13] (forget s.1 [11, 12, 13], s.2)) := x_reg (ops := r14_4) (by rfl) (by rfl) s
theorem r14_4_l : r14_4.toList = [o14_4_0, o14_4_1, o14_4_2, o14_4_3] := nrfl rfl
theorem s14_4_0 : stepA E C B 26 r14_4 o14_4_0 (φ, H) = some (fput φ 11 (fget φ 5), H) := nrfl rfl
theorem s14_4_1 : stepA E C B 26 r14_4 o14_4_1 (φ, H) = some (fput φ 12 (fget φ 0), H) := nrfl rfl
theorem s14_4_2 : stepA E C B 26 r14_4 o14_4_2 (φ, H) = stp (some 13) φ H (aBuiltin E.T (B + 13) .len #[23] [(fget φ 12)]) := nrfl rfl
theorem s14_4_3 : stepA E C B 26 r14_4 o14_4_3 (φ, H) = stp (some 14) φ H (just (aBin E.T .lss 3 (fget φ 11) (fget φ 13))) := nrfl rfl
noncomputable def c14_18 : Code := kR c14_16
noncomputable def c14_19 : Code := kT c14_18
theorem x14_19 : execA E C (fg 14) B 26 E0 N c14_19 s = some (.normal, s) := x_skip (by rfl) s
noncomputable def c14_20 : Code := kE c14_18
theorem x14_20 : execA E C (fg 14) B 26 E0 N c14_20 s = some (.exit 0, s) := x_exit (by rfl) s
theorem x14_18 : execA E C (fg 14) B 26 E0 N c14_18 (φ, H) = condX (fget φ 14) (execA E C (fg 14) B 26 E0 N c14_19 (φ, H)) (execA E C (fg 14) B 26 E0 N c14_20 (φ, H)) := x_cond (by rfl) _
theorem x14_16 : execA E C (fg 14) B 26 E0 N c14_16 s = seqX (execA E C (fg 14) B 26 E0 N c14_17 s) (execA E C (fg 14) B 26 E0 N c14_18) := x_seq (by rfl) s
noncomputable def c14_21 : Code := kR c14_15
noncomputable def c14_22 : Code := kL c14_21
noncomputable def c14_23 : Code := kB c14_22
noncomputable def c14_24 : Code := kL c14_23
noncomputable def r14_6 : Array Oper := kO c14_24
noncomputable def o14_6_0 : Oper := opN r14_6 0
noncomputable def o14_6_1 : Oper := opN r14_6 1
noncomputable def o14_6_2 : Oper := opN r14_6 2
noncomputable def o14_6_3 : Oper := opN r14_6 3
noncomputable def o14_6_4 : Oper := opN r14_6 4
noncomputable def o14_6_5 : Oper := opN r14_6 5
noncomputable def o14_6_6 : Oper := opN r14_6 6
noncomputable def o14_6_7 : Oper := opN r14_6 7
noncomputable def o14_6_8 : Oper := opN r14_6 8
theorem x14_24 : execA E C (fg 14) B 26 E0 N c14_24 s = regX (drawA E C B 26 r14_6 s) (fun s => gcM E0 [14, 17, 18, 19, 20, 21, 22, 23, 24] (forget s.1 [14, 17, 18, 19, 20, 21, 22, 23, 24], s.2)) := x_draw (ops := r14_6) (by rfl) (by rfl) s
theorem r14_6_l : r14_6.toList = [o14_6_0, o14_6_1, o14_6_2, o14_6_3, o14_6_4, o14_6_5, o14_6_6, o14_6_7, o14_6_8] := nrfl rfl
theorem r14_6_st : statOk r14_6 = true := by kernel_rfl
theorem r14_6_dr : drawA E C B 26 r14_6 s = if neat 26 s = true then drX r14_6 (runT E C B 26 r14_6 r14_6.toList 0 s) else none := draw_eq r14_6_st s
theorem r14_6_an (l : List (Nat × Tr)) : dynOk r14_6 l = (!writing l || dynPairs [[], [], [0, 1], [0, 1, 2], [], [], [4, 5], [4, 5, 6], [0, 1, 2, 3, 4, 5, 6, 7]] (touching l)) := dynOk_eq (by kernel_rfl) l
theorem s14_6_0 : stepT E C B 26 r14_6 o14_6_0 (φ, H) = some ((fput φ 17 (fget φ 0), H), ⟨false, [], []⟩) := stT_go rfl (goT_mv rfl rfl)
theorem s14_6_1 : stepT E C B 26 r14_6 o14_6_1 (φ, H) = some ((fput φ 18 (fget φ 5), H), ⟨false, [], []⟩) := stT_go rfl (goT_mv rfl rfl)
theorem s14_6_2 : stepT E C B 26 r14_6 o14_6_2 (φ, H) = stpT (some 19) φ H (just (aIndexAddr E.T 23 (fget φ 17) (fget φ 18))) := stT_go rfl (goT_R rfl rfl)
theorem s14_6_3 : stepT E C B 26 r14_6 o14_6_3 (φ, H) = stpT (some 20) φ H (just (aLoad E.T 3 (fget φ 19))) := stT_go rfl (goT_R rfl rfl)
theorem s14_6_4 : stepT E C B 26 r14_6 o14_6_4 (φ, H) = some ((fput φ 21 (fget φ 1), H), ⟨false, [], []⟩) := stT_go rfl (goT_mv rfl rfl)
theorem s14_6_5 : stepT E C B 26 r14_6 o14_6_5 (φ, H) = some ((fput φ 22 (fget φ 5), H), ⟨false, [], []⟩) := stT_go rfl (goT_mv rfl rfl)
theorem s14_6_6 : stepT E C B 26 r14_6 o14_6_6 (φ, H) = stpT (some 23) φ H (just (aIndexAddr E.T 23 (fget φ 21) (fget φ 22))) := stT_go rfl (goT_R rfl rfl)
theorem s14_6_7 : stepT E C B 26 r14_6 o14_6_7 (φ, H) = stpT (some 24) φ H (just (aLoad E.T 3 (fget φ 23))) := stT_go rfl (goT_R rfl rfl)
theorem s14_6_8 : stepT E C B 26 r14_6 o14_6_8 (φ, H) = stpT (some 25) φ H (just (aBin E.T .neq 3 (fget φ 20) (fget φ 24))) := stT_go rfl (goT_R rfl rfl)
noncomputable def c14_25 : Code := kR c14_23
noncomputable def c14_26 : Code := kT c14_25
noncomputable def c14_27 : Code := kL c14_26
noncomputable def r14_7 : Array Oper := kO c14_27
noncomputable def o14_7_0 : Oper := opN r14_7 0
theorem x14_27 : execA E C (fg 14) B 26 E0 N c14_27 s = regX (runA E C B 26 r14_7 r14_7.toList s) (fun s => gcM E0 [0, 1, 5, 25] (forget s.1 [0, 1, 5, 25], s.2)) := x_reg (ops := r14_7) (by rfl) (by rfl) s
theorem r14_7_l : r14_7.toList = [o14_7_0] := nrfl rfl
theorem s14_7_0 : stepA E C B 26 r14_7 o14_7_0 (φ, H) = some (fput φ 4 (.bool false), H) := nrfl rfl
noncomputable def c14_28 : Code := kR c14_26
theorem x14_28 : execA E C (fg 14) B 26 E0 N c14_28 s = some (.ret, s) := x_ret (by rfl) s
theorem x14_26 : execA E C (fg 14) B 26 E0 N c14_26 s = seqX (execA E C (fg 14) B 26 E0 N c14_27 s) (execA E C (fg 14) B 26 E0 N c14_28) := x_seq (by rfl) s
noncomputable def c14_29 : Code := kE c14_25
theorem x14_29 : execA E C (fg 14) B 26 E0 N c14_29 s = some (.normal, s) := x_skip (by rfl) s
theorem x14_25 : execA E C (fg 14) B 26 E0 N c14_25 (φ, H) = condX (fget φ 25) (execA E C (fg 14) B 26 E0 N c14_26 (φ, H)) (execA E C (fg 14) B 26 E0 N c14_29 (φ, H)) := x_cond (by rfl) _
theorem x14_23 : execA E C (fg 14) B 26 E0 N c14_23 s = seqX (execA E C (fg 14) B 26 E0 N c14_24 s) (execA E C (fg 14) B 26 E0 N c14_25) := x_seq (by rfl) s
theorem x14_22 : execA E C (fg 14) B 26 E0 N c14_22 s = blockX 1 (fun s => (forget s.1 [25], s.2)) (execA E C (fg 14) B 26 E0 N c14_23 s) := x_block (by rfl) (by rfl) s
noncomputable def c14_30 : Code := kR c14_21
noncomputable def r14_5 : Array Oper := kO c14_30
noncomputable def o14_5_0 : Oper := opN r14_5 0
noncomputable def o14_5_1 : Oper := opN r14_5 1
noncomputable def o14_5_2 : Oper := opN r14_5 2
theorem x14_30 : execA E C (fg 14) B 26 E0 N c14_30 s = regX (runA E C B 26 r14_5 r14_5.toList s) (fun s => gcM E0 [15, 16] (forget s.1 [15, 16], s.2)) := x_reg (ops := r14_5) (by rfl) (by rfl) s
theorem r14_5_l : r14_5.toList = [o14_5_0, o14_5_1, o14_5_2] := nrfl rfl
theorem s14_5_0 : stepA E C B 26 r14_5 o14_5_0 (φ, H) = some (fput φ 15 (fget φ 5), H) := nrfl rfl
theorem s14_5_1 : stepA E C B 26 r14_5 o14_5_1 (φ, H) = stp (some 16) φ H (just (aBin E.T .add 3 (fget φ 15) (.int .i64 1))) := nrfl rfl
theorem s14_5_2 : stepA E C B 26 r14_5 o14_5_2 (φ, H) = some (fput φ 5 (fget φ 16), H) := nrfl rfl
theorem x14_21 : execA E C (fg 14) B 26 E0 N c14_21 s = seqX (execA E C (fg 14) B 26 E0 N c14_22 s) (execA E C (fg 14) B 26 E0 N c14_30) := x_seq (by rfl) s
theorem x14_15 : execA E C (fg 14) B 26 E0 N c14_15 s = seqX (execA E C (fg 14) B 26 E0 N c14_16 s) (execA E C (fg 14) B 26 E0 N c14_21) := x_seq (by rfl) s
-- a loop of f14: x14_14; body c14_15; slots [5, 1, 0]
theorem x14_14 : execA E C (fg 14) B 26 E0 N c14_14 s = iterA (execA E C (fg 14) B 26 E0 N c14_15) (headA E0) N s := x_loop (by rfl) s
theorem x14_13 : execA E C (fg 14) B 26 E0 N c14_13 s = blockX 0 (fun s => (forget s.1 [0, 1, 5, 14], s.2)) (execA E C (fg 14) B 26 E0 N c14_14 s) := x_block (by rfl) (by rfl) s
theorem x14_11 : execA E C (fg 14) B 26 E0 N c14_11 s = seqX (execA E C (fg 14) B 26 E0 N c14_12 s) (execA E C (fg 14) B 26 E0 N c14_13) := x_seq (by rfl) s
noncomputable def c14_31 : Code := kR c14_10
noncomputable def c14_32 : Code := kL c14_31
noncomputable def r14_8 : Array Oper := kO c14_32
noncomputable def o14_8_0 : Oper := opN r14_8 0
theorem x14_32 : execA E C (fg 14) B 26 E0 N c14_32 s = regX (runA E C B 26 r14_8 r14_8.toList s) (fun s => gcM E0 [] (forget s.1 [], s.2)) := x_reg (ops := r14_8) (by rfl) (by rfl) s
theorem r14_8_l : r14_8.toList = [o14_8_0] := nrfl rfl
theorem s14_8_0 : stepA E C B 26 r14_8 o14_8_0 (φ, H) = some (fput φ 4 (.bool true), H) := nrfl rfl
noncomputable def c14_33 : Code := kR c14_31
theorem x14_33 : execA E C (fg 14) B 26 E0 N c14_33 s = some (.ret, s) := x_ret (by rfl) s
theorem x14_31 : execA E C (fg 14) B 26 E0 N c14_31 s = seqX (execA E C (fg 14) B 26 E0 N c14_32 s) (execA E C (fg 14) B 26 E0 N c14_33) := x_seq (by rfl) s
theorem x14_10 : execA E C (fg 14) B 26 E0 N c14_10 s = seqX (execA E C (fg 14) B 26 E0 N c14_11 s) (execA E C (fg 14) B 26 E0 N c14_31) := x_seq (by rfl) s
theorem x14_2 : execA E C (fg 14) B 26 E0 N c14_2 s = seqX (execA E C (fg 14) B 26 E0 N c14_3 s) (execA E C (fg 14) B 26 E0 N c14_10) := x_seq (by rfl) s
theorem x14_0 : execA E C (fg 14) B 26 E0 N c14_0 s = seqX (execA E C (fg 14) B 26 E0 N c14_1 s) (execA E C (fg 14) B 26 E0 N c14_2) := x_seq (by rfl) s
theorem fi_14 : fInfo E 14 = some ⟨26, #[.tmp 4], c14_0⟩ := nrfl rfl
theorem b_14 (args : List AV) : bodyA E C fg N 14 args H B = bodyX E [.tmp 4] (execA E C (fg 14) B 26 H N c14_0 (frame0 args 0 [], H)) := bodyA_eq fi_14 args H
end Go.AM.Yteellnlcligpfaa
