/- Of each function the parts of its text and an equation for each of them: printed by sym.py (own work). -/
import Derived.Test.YtikchlfbjdfioaaAmSy
import Derived.Test.YtikchlfbjdfioaaEnv
import Derived.KernelRfl

namespace Go.AM.Ytikchlfbjdfioaa
open Go Go.AM
set_option maxRecDepth 100000
variable {C : Callee} {B N : Nat} {E0 : AHeap} (φ : AFr) (H : AHeap) (s : St)

theorem T_0 : E.T 0 = some ⟨.other, 1, 0, none⟩ := nrfl rfl
theorem T_1 : E.T 1 = some ⟨.other, 1, 8, (some [.nilfunc])⟩ := nrfl rfl
theorem T_2 : E.T 2 = some ⟨.int .i64, 1, 8, (some [.int .i64 0])⟩ := nrfl rfl
theorem T_3 : E.T 3 = some ⟨.int .i64, 1, 8, (some [.int .i64 0])⟩ := nrfl rfl
theorem T_4 : E.T 4 = some ⟨.bool, 1, 1, (some [.bool false])⟩ := nrfl rfl
theorem T_5 : E.T 5 = some ⟨.int .u8, 1, 1, (some [.int .u8 0])⟩ := nrfl rfl
theorem T_6 : E.T 6 = some ⟨.int .u8, 1, 1, (some [.int .u8 0])⟩ := nrfl rfl
theorem T_7 : E.T 7 = some ⟨.struct [(0, 2, 1), (1, 3, 1), (2, 4, 1), (3, 6, 1)] false, 4, 24, (some [.int .i64 0, .int .i64 0, .bool false, .int .u8 0])⟩ := nrfl rfl
theorem T_8 : E.T 8 = some ⟨.struct [(0, 2, 1), (1, 3, 1), (2, 4, 1), (3, 6, 1)] false, 4, 24, (some [.int .i64 0, .int .i64 0, .bool false, .int .u8 0])⟩ := nrfl rfl
theorem T_9 : E.T 9 = some ⟨.str, 1, 16, (some [.str ⟨#[]⟩])⟩ := nrfl rfl
theorem T_10 : E.T 10 = some ⟨.str, 1, 16, (some [.str ⟨#[]⟩])⟩ := nrfl rfl
theorem T_11 : E.T 11 = some ⟨.str, 1, 16, (some [.str ⟨#[]⟩])⟩ := nrfl rfl
theorem T_12 : E.T 12 = some ⟨.int .u64, 1, 8, (some [.int .u64 0])⟩ := nrfl rfl
theorem T_13 : E.T 13 = some ⟨.struct [(0, 9, 1), (1, 12, 1)] false, 2, 24, (some [.str ⟨#[]⟩, .int .u64 0])⟩ := nrfl rfl
theorem T_14 : E.T 14 = some ⟨.struct [(0, 9, 1), (1, 12, 1)] false, 2, 24, (some [.str ⟨#[]⟩, .int .u64 0])⟩ := nrfl rfl
theorem T_15 : E.T 15 = some ⟨.other, 1, 8, (some [.nilptr])⟩ := nrfl rfl
theorem T_16 : E.T 16 = some ⟨.other, 1, 8, (some [.nilptr])⟩ := nrfl rfl
theorem T_17 : E.T 17 = some ⟨.other, 1, 8, (some [.nilptr])⟩ := nrfl rfl
theorem T_18 : E.T 18 = some ⟨.struct [(0, 17, 1)] false, 1, 8, (some [.nilptr])⟩ := nrfl rfl
theorem T_19 : E.T 19 = some ⟨.struct [(0, 17, 1)] false, 1, 8, (some [.nilptr])⟩ := nrfl rfl
theorem T_20 : E.T 20 = some ⟨.other, 1, 16, none⟩ := nrfl rfl
theorem T_21 : E.T 21 = some ⟨.int .i32, 1, 4, (some [.int .i32 0])⟩ := nrfl rfl
theorem T_22 : E.T 22 = some ⟨.arr 4 5 true, 4, 4, (some [.int .u8 0, .int .u8 0, .int .u8 0, .int .u8 0])⟩ := nrfl rfl
theorem T_23 : E.T 23 = some ⟨.arr 5 22 false, 20, 20, (some [.int .u8 0, .int .u8 0, .int .u8 0, .int .u8 0, .int .u8 0, .int .u8 0, .int .u8 0, .int .u8 0, .int .u8 0, .int .u8 0, .int .u8 0, .int .u8 0, .int .u8 0, .int .u8 0, .int .u8 0, .int .u8 0, .int .u8 0, .int .u8 0, .int .u8 0, .int .u8 0])⟩ := nrfl rfl
theorem T_24 : E.T 24 = some ⟨.struct [(0, 5, 1), (1, 23, 20)] false, 21, 21, (some [.int .u8 0, .int .u8 0, .int .u8 0, .int .u8 0, .int .u8 0, .int .u8 0, .int .u8 0, .int .u8 0, .int .u8 0, .int .u8 0, .int .u8 0, .int .u8 0, .int .u8 0, .int .u8 0, .int .u8 0, .int .u8 0, .int .u8 0, .int .u8 0, .int .u8 0, .int .u8 0, .int .u8 0])⟩ := nrfl rfl
theorem T_25 : E.T 25 = some ⟨.struct [(0, 5, 1), (1, 23, 20)] false, 21, 21, (some [.int .u8 0, .int .u8 0, .int .u8 0, .int .u8 0, .int .u8 0, .int .u8 0, .int .u8 0, .int .u8 0, .int .u8 0, .int .u8 0, .int .u8 0, .int .u8 0, .int .u8 0, .int .u8 0, .int .u8 0, .int .u8 0, .int .u8 0, .int .u8 0, .int .u8 0, .int .u8 0, .int .u8 0])⟩ := nrfl rfl
theorem T_26 : E.T 26 = some ⟨.arr 5 5 true, 5, 5, (some [.int .u8 0, .int .u8 0, .int .u8 0, .int .u8 0, .int .u8 0])⟩ := nrfl rfl
theorem T_27 : E.T 27 = some ⟨.slice 44, 1, 24, (some [.nilsl])⟩ := nrfl rfl
theorem T_28 : E.T 28 = some ⟨.other, 1, 8, (some [.nilfunc])⟩ := nrfl rfl
theorem T_29 : E.T 29 = some ⟨.other, 1, 8, (some [.nilfunc])⟩ := nrfl rfl
theorem T_30 : E.T 30 = some ⟨.int .i64, 1, 8, (some [.int .i64 0])⟩ := nrfl rfl
theorem T_31 : E.T 31 = some ⟨.other, 1, 0, none⟩ := nrfl rfl
theorem T_32 : E.T 32 = some ⟨.other, 1, 8, (some [.nilfunc])⟩ := nrfl rfl
theorem T_33 : E.T 33 = some ⟨.other, 1, 0, none⟩ := nrfl rfl
theorem T_34 : E.T 34 = some ⟨.other, 1, 8, (some [.nilfunc])⟩ := nrfl rfl
theorem T_35 : E.T 35 = some ⟨.other, 1, 8, (some [.nilfunc])⟩ := nrfl rfl
theorem T_36 : E.T 36 = some ⟨.slice 3, 1, 24, (some [.nilsl])⟩ := nrfl rfl
theorem T_37 : E.T 37 = some ⟨.other, 1, 8, (some [.nilfunc])⟩ := nrfl rfl
theorem T_38 : E.T 38 = some ⟨.other, 1, 0, none⟩ := nrfl rfl
theorem T_39 : E.T 39 = some ⟨.other, 1, 8, (some [.nilfunc])⟩ := nrfl rfl
theorem T_40 : E.T 40 = some ⟨.other, 1, 0, none⟩ := nrfl rfl
theorem T_41 : E.T 41 = some ⟨.other, 1, 8, (some [.nilfunc])⟩ := nrfl rfl
theorem T_42 : E.T 42 = some ⟨.other, 1, 8, (some [.nilfunc])⟩ := nrfl rfl
theorem T_43 : E.T 43 = some ⟨.struct [(0, 3, 1), (1, 3, 1), (2, 3, 1), (3, 3, 1)] true, 4, 32, (some [.int .i64 0, .int .i64 0, .int .i64 0, .int .i64 0])⟩ := nrfl rfl
theorem T_44 : E.T 44 = some ⟨.struct [(0, 3, 1), (1, 3, 1), (2, 3, 1), (3, 3, 1)] true, 4, 32, (some [.int .i64 0, .int .i64 0, .int .i64 0, .int .i64 0])⟩ := nrfl rfl
theorem T_45 : E.T 45 = some ⟨.other, 1, 8, (some [.nilfunc])⟩ := nrfl rfl
theorem T_46 : E.T 46 = some ⟨.other, 1, 8, (some [.nilfunc])⟩ := nrfl rfl
theorem T_47 : E.T 47 = some ⟨.other, 1, 8, (some [.nilfunc])⟩ := nrfl rfl
theorem T_48 : E.T 48 = some ⟨.other, 1, 8, (some [.nilfunc])⟩ := nrfl rfl
theorem T_49 : E.T 49 = some ⟨.other, 1, 8, (some [.nilfunc])⟩ := nrfl rfl
theorem T_50 : E.T 50 = some ⟨.other, 1, 8, (some [.nilfunc])⟩ := nrfl rfl
theorem T_51 : E.T 51 = some ⟨.other, 1, 8, (some [.nilfunc])⟩ := nrfl rfl
theorem T_52 : E.T 52 = some ⟨.other, 1, 8, (some [.nilfunc])⟩ := nrfl rfl
theorem T_53 : E.T 53 = some ⟨.other, 1, 8, (some [.nilfunc])⟩ := nrfl rfl
theorem T_54 : E.T 54 = some ⟨.other, 1, 8, (some [.nilfunc])⟩ := nrfl rfl
theorem T_55 : E.T 55 = some ⟨.struct [(0, 3, 1), (1, 3, 1)] true, 2, 16, (some [.int .i64 0, .int .i64 0])⟩ := nrfl rfl
theorem T_56 : E.T 56 = some ⟨.struct [(0, 3, 1), (1, 3, 1)] true, 2, 16, (some [.int .i64 0, .int .i64 0])⟩ := nrfl rfl
theorem T_57 : E.T 57 = some ⟨.other, 1, 0, none⟩ := nrfl rfl
theorem T_58 : E.T 58 = some ⟨.other, 1, 8, (some [.nilfunc])⟩ := nrfl rfl
theorem T_59 : E.T 59 = some ⟨.other, 1, 8, (some [.nilfunc])⟩ := nrfl rfl
theorem T_60 : E.T 60 = some ⟨.other, 1, 8, (some [.nilfunc])⟩ := nrfl rfl
theorem T_61 : E.T 61 = some ⟨.other, 1, 8, (some [.nilfunc])⟩ := nrfl rfl
theorem T_62 : E.T 62 = some ⟨.other, 1, 8, (some [.nilfunc])⟩ := nrfl rfl
theorem T_63 : E.T 63 = some ⟨.other, 1, 8, (some [.nilfunc])⟩ := nrfl rfl
theorem T_64 : E.T 64 = some ⟨.slice 22, 1, 24, (some [.nilsl])⟩ := nrfl rfl
theorem T_65 : E.T 65 = some ⟨.other, 1, 8, (some [.nilfunc])⟩ := nrfl rfl
theorem T_66 : E.T 66 = some ⟨.other, 1, 8, (some [.nilfunc])⟩ := nrfl rfl
theorem T_67 : E.T 67 = some ⟨.other, 1, 8, (some [.nilfunc])⟩ := nrfl rfl
theorem T_68 : E.T 68 = some ⟨.other, 1, 8, (some [.nilfunc])⟩ := nrfl rfl
theorem T_69 : E.T 69 = some ⟨.other, 1, 8, (some [.nilfunc])⟩ := nrfl rfl
theorem T_70 : E.T 70 = some ⟨.other, 1, 8, (some [.nilfunc])⟩ := nrfl rfl
theorem T_71 : E.T 71 = some ⟨.other, 1, 8, (some [.nilfunc])⟩ := nrfl rfl
theorem T_72 : E.T 72 = some ⟨.other, 1, 8, (some [.nilfunc])⟩ := nrfl rfl
theorem T_73 : E.T 73 = some ⟨.other, 1, 8, (some [.nilfunc])⟩ := nrfl rfl
theorem T_74 : E.T 74 = some ⟨.other, 1, 0, none⟩ := nrfl rfl
theorem T_75 : E.T 75 = some ⟨.other, 1, 8, (some [.nilfunc])⟩ := nrfl rfl
theorem T_76 : E.T 76 = some ⟨.other, 1, 0, none⟩ := nrfl rfl
theorem T_77 : E.T 77 = some ⟨.other, 1, 8, (some [.nilfunc])⟩ := nrfl rfl
theorem T_78 : E.T 78 = some ⟨.slice 56, 1, 24, (some [.nilsl])⟩ := nrfl rfl
theorem T_79 : E.T 79 = some ⟨.other, 1, 0, none⟩ := nrfl rfl
theorem T_80 : E.T 80 = some ⟨.other, 1, 8, (some [.nilfunc])⟩ := nrfl rfl
theorem T_81 : E.T 81 = some ⟨.other, 1, 0, none⟩ := nrfl rfl
theorem T_82 : E.T 82 = some ⟨.other, 1, 8, (some [.nilfunc])⟩ := nrfl rfl
theorem T_83 : E.T 83 = some ⟨.other, 1, 8, (some [.nilfunc])⟩ := nrfl rfl
theorem T_84 : E.T 84 = some ⟨.other, 1, 8, (some [.nilfunc])⟩ := nrfl rfl
theorem T_85 : E.T 85 = some ⟨.other, 1, 8, (some [.nilfunc])⟩ := nrfl rfl
theorem T_86 : E.T 86 = some ⟨.other, 1, 8, (some [.nilfunc])⟩ := nrfl rfl
theorem T_87 : E.T 87 = some ⟨.other, 1, 8, (some [.nilfunc])⟩ := nrfl rfl
theorem T_88 : E.T 88 = some ⟨.other, 1, 8, (some [.nilfunc])⟩ := nrfl rfl
theorem T_89 : E.T 89 = some ⟨.other, 1, 8, (some [.nilfunc])⟩ := nrfl rfl
theorem T_90 : E.T 90 = some ⟨.slice 3, 1, 24, (some [.nilsl])⟩ := nrfl rfl
theorem T_91 : E.T 91 = some ⟨.other, 1, 8, (some [.nilfunc])⟩ := nrfl rfl
theorem T_92 : E.T 92 = some ⟨.int .u64, 1, 8, (some [.int .u64 0])⟩ := nrfl rfl
theorem T_93 : E.T 93 = some ⟨.other, 1, 0, none⟩ := nrfl rfl
theorem T_94 : E.T 94 = some ⟨.other, 1, 8, (some [.nilfunc])⟩ := nrfl rfl
theorem T_95 : E.T 95 = some ⟨.other, 1, 8, (some [.nilfunc])⟩ := nrfl rfl
theorem T_96 : E.T 96 = some ⟨.other, 1, 8, (some [.nilfunc])⟩ := nrfl rfl
theorem T_97 : E.T 97 = some ⟨.other, 1, 8, (some [.nilfunc])⟩ := nrfl rfl
theorem T_98 : E.T 98 = some ⟨.other, 1, 8, (some [.nilfunc])⟩ := nrfl rfl
theorem T_99 : E.T 99 = some ⟨.other, 1, 8, (some [.nilfunc])⟩ := nrfl rfl
theorem T_100 : E.T 100 = some ⟨.other, 1, 8, (some [.nilfunc])⟩ := nrfl rfl
theorem T_101 : E.T 101 = some ⟨.slice 103, 1, 24, (some [.nilsl])⟩ := nrfl rfl
theorem T_102 : E.T 102 = some ⟨.struct [(0, 36, 1), (1, 56, 2)] false, 3, 40, (some [.nilsl, .int .i64 0, .int .i64 0])⟩ := nrfl rfl
theorem T_103 : E.T 103 = some ⟨.struct [(0, 36, 1), (1, 56, 2)] false, 3, 40, (some [.nilsl, .int .i64 0, .int .i64 0])⟩ := nrfl rfl
theorem T_104 : E.T 104 = some ⟨.other, 1, 8, (some [.nilfunc])⟩ := nrfl rfl
theorem T_105 : E.T 105 = some ⟨.int .u32, 1, 4, (some [.int .u32 0])⟩ := nrfl rfl
theorem T_106 : E.T 106 = some ⟨.other, 1, 0, none⟩ := nrfl rfl
theorem T_107 : E.T 107 = some ⟨.other, 1, 8, (some [.nilfunc])⟩ := nrfl rfl
theorem T_108 : E.T 108 = some ⟨.int .u64, 1, 8, (some [.int .u64 0])⟩ := nrfl rfl
theorem T_109 : E.T 109 = some ⟨.other, 1, 0, none⟩ := nrfl rfl
theorem T_110 : E.T 110 = some ⟨.other, 1, 8, (some [.nilfunc])⟩ := nrfl rfl
theorem T_111 : E.T 111 = some ⟨.slice 44, 1, 24, (some [.nilsl])⟩ := nrfl rfl
theorem T_112 : E.T 112 = some ⟨.other, 1, 8, (some [.nilfunc])⟩ := nrfl rfl
theorem T_113 : E.T 113 = some ⟨.other, 1, 8, (some [.nilfunc])⟩ := nrfl rfl
theorem T_114 : E.T 114 = some ⟨.other, 1, 8, (some [.nilfunc])⟩ := nrfl rfl
theorem T_115 : E.T 115 = some ⟨.other, 1, 8, (some [.nilfunc])⟩ := nrfl rfl
theorem T_116 : E.T 116 = some ⟨.other, 1, 8, (some [.nilfunc])⟩ := nrfl rfl
theorem T_117 : E.T 117 = some ⟨.int .i64, 1, 8, (some [.int .i64 0])⟩ := nrfl rfl
theorem T_118 : E.T 118 = some ⟨.other, 1, 0, none⟩ := nrfl rfl
theorem T_119 : E.T 119 = some ⟨.other, 1, 8, (some [.nilfunc])⟩ := nrfl rfl
theorem T_120 : E.T 120 = some ⟨.other, 1, 8, (some [.nilfunc])⟩ := nrfl rfl
theorem T_121 : E.T 121 = some ⟨.other, 1, 8, (some [.nilfunc])⟩ := nrfl rfl
theorem T_122 : E.T 122 = some ⟨.other, 1, 0, none⟩ := nrfl rfl
theorem T_123 : E.T 123 = some ⟨.other, 1, 8, (some [.nilfunc])⟩ := nrfl rfl
theorem T_124 : E.T 124 = some ⟨.other, 1, 8, (some [.nilfunc])⟩ := nrfl rfl
theorem T_125 : E.T 125 = some ⟨.other, 1, 8, (some [.nilfunc])⟩ := nrfl rfl
theorem T_126 : E.T 126 = some ⟨.int .u64, 1, 8, (some [.int .u64 0])⟩ := nrfl rfl
theorem T_127 : E.T 127 = some ⟨.other, 1, 8, (some [.nilfunc])⟩ := nrfl rfl
theorem T_128 : E.T 128 = some ⟨.other, 1, 8, (some [.nilfunc])⟩ := nrfl rfl
theorem T_129 : E.T 129 = some ⟨.other, 1, 8, (some [.nilfunc])⟩ := nrfl rfl
theorem T_130 : E.T 130 = some ⟨.other, 1, 8, (some [.nilptr])⟩ := nrfl rfl
theorem T_131 : E.T 131 = some ⟨.other, 1, 8, (some [.nilfunc])⟩ := nrfl rfl
theorem T_132 : E.T 132 = some ⟨.other, 1, 8, (some [.nilptr])⟩ := nrfl rfl
theorem T_133 : E.T 133 = some ⟨.other, 1, 8, (some [.nilfunc])⟩ := nrfl rfl
theorem T_134 : E.T 134 = some ⟨.other, 1, 8, (some [.nilfunc])⟩ := nrfl rfl
theorem T_135 : E.T 135 = some ⟨.struct [(0, 17, 1), (1, 17, 1), (2, 17, 1), (3, 9, 1)] false, 4, 40, (some [.nilptr, .nilptr, .nilptr, .str ⟨#[]⟩])⟩ := nrfl rfl
theorem T_136 : E.T 136 = some ⟨.struct [(0, 17, 1), (1, 17, 1), (2, 17, 1), (3, 9, 1)] false, 4, 40, (some [.nilptr, .nilptr, .nilptr, .str ⟨#[]⟩])⟩ := nrfl rfl
theorem T_137 : E.T 137 = some ⟨.arr 0 16 false, 0, 0, (some [])⟩ := nrfl rfl
theorem T_138 : E.T 138 = some ⟨.struct [(0, 137, 0)] false, 0, 0, (some [])⟩ := nrfl rfl
theorem T_139 : E.T 139 = some ⟨.struct [(0, 137, 0)] false, 0, 0, (some [])⟩ := nrfl rfl
theorem T_140 : E.T 140 = some ⟨.other, 1, 8, (some [.nilfunc])⟩ := nrfl rfl
theorem T_141 : E.T 141 = some ⟨.int .u8, 1, 1, (some [.int .u8 0])⟩ := nrfl rfl
theorem T_142 : E.T 142 = some ⟨.int .u8, 1, 1, (some [.int .u8 0])⟩ := nrfl rfl
theorem T_143 : E.T 143 = some ⟨.other, 1, 8, (some [.nilfunc])⟩ := nrfl rfl
theorem T_144 : E.T 144 = some ⟨.other, 1, 8, (some [.nilptr])⟩ := nrfl rfl
theorem T_145 : E.T 145 = some ⟨.int .i32, 1, 4, (some [.int .i32 0])⟩ := nrfl rfl
theorem T_146 : E.T 146 = some ⟨.int .i32, 1, 4, (some [.int .i32 0])⟩ := nrfl rfl
theorem T_147 : E.T 147 = some ⟨.struct [(0, 12, 1), (1, 12, 1), (2, 105, 1), (3, 141, 1), (4, 5, 1), (5, 5, 1), (6, 142, 1), (7, 143, 1), (8, 144, 1), (9, 145, 1), (10, 146, 1)] false, 11, 48, (some [.int .u64 0, .int .u64 0, .int .u32 0, .int .u8 0, .int .u8 0, .int .u8 0, .int .u8 0, .nilfunc, .nilptr, .int .i32 0, .int .i32 0])⟩ := nrfl rfl
theorem T_148 : E.T 148 = some ⟨.struct [(0, 12, 1), (1, 12, 1), (2, 105, 1), (3, 141, 1), (4, 5, 1), (5, 5, 1), (6, 142, 1), (7, 143, 1), (8, 144, 1), (9, 145, 1), (10, 146, 1)] false, 11, 48, (some [.int .u64 0, .int .u64 0, .int .u32 0, .int .u8 0, .int .u8 0, .int .u8 0, .int .u8 0, .nilfunc, .nilptr, .int .i32 0, .int .i32 0])⟩ := nrfl rfl
theorem T_149 : E.T 149 = some ⟨.other, 1, 8, (some [.nilptr])⟩ := nrfl rfl
/-! ### f34: (novaculite/prop.Stone).within -/
noncomputable def c34_0 : Code := kBody Proofs.Try.f34
noncomputable def c34_1 : Code := kL c34_0
noncomputable def r34_0 : Array Oper := kO c34_1
noncomputable def o34_0_0 : Oper := opN r34_0 0
noncomputable def o34_0_1 : Oper := opN r34_0 1
theorem x34_1 : execA E C (fg 34) B 42 E0 N c34_1 s = regX (runA E C B 42 r34_0 r34_0.toList s) (fun s => gcM E0 [0, 2] (forget s.1 [0, 2], s.2)) := x_reg (ops := r34_0) (by rfl) (by rfl) s
theorem r34_0_l : r34_0.toList = [o34_0_0, o34_0_1] := nrfl rfl
theorem s34_0_0 : stepA E C B 42 r34_0 o34_0_0 (φ, H) = stp (some 1) φ H (opBox (B + 1) (acells (fget φ 0))) := nrfl rfl
theorem s34_0_1 : stepA E C B 42 r34_0 o34_0_1 (φ, H) = some (fput φ 2 (.int .i64 0), H) := nrfl rfl
noncomputable def c34_2 : Code := kR c34_0
noncomputable def c34_3 : Code := kL c34_2
noncomputable def c34_4 : Code := kB c34_3
noncomputable def c34_5 : Code := kL c34_4
noncomputable def c34_6 : Code := kB c34_5
noncomputable def c34_7 : Code := kL c34_6
noncomputable def c34_8 : Code := kB c34_7
noncomputable def c34_9 : Code := kB c34_8
noncomputable def c34_10 : Code := kB c34_9
noncomputable def c34_11 : Code := kL c34_10
noncomputable def c34_12 : Code := kL c34_11
noncomputable def c34_13 : Code := kL c34_12
noncomputable def r34_1 : Array Oper := kO c34_13
noncomputable def o34_1_0 : Oper := opN r34_1 0
noncomputable def o34_1_1 : Oper := opN r34_1 1
noncomputable def o34_1_2 : Oper := opN r34_1 2
noncomputable def o34_1_3 : Oper := opN r34_1 3
noncomputable def o34_1_4 : Oper := opN r34_1 4
noncomputable def o34_1_5 : Oper := opN r34_1 5
noncomputable def o34_1_6 : Oper := opN r34_1 6
noncomputable def o34_1_7 : Oper := opN r34_1 7
noncomputable def o34_1_8 : Oper := opN r34_1 8
theorem x34_13 : execA E C (fg 34) B 42 E0 N c34_13 s = regX (runA E C B 42 r34_1 r34_1.toList s) (fun s => gcM E0 [4, 5, 6, 7, 8, 9, 10, 11] (forget s.1 [4, 5, 6, 7, 8, 9, 10, 11], s.2)) := x_reg (ops := r34_1) (by rfl) (by rfl) s
theorem r34_1_l : r34_1.toList = [o34_1_0, o34_1_1, o34_1_2, o34_1_3, o34_1_4, o34_1_5, o34_1_6, o34_1_7, o34_1_8] := nrfl rfl
theorem s34_1_0 : stepA E C B 42 r34_1 o34_1_0 (φ, H) = stp (some 4) φ H (just (aFieldAddr E.T 44 (fget φ 1) 0)) := nrfl rfl
theorem s34_1_1 : stepA E C B 42 r34_1 o34_1_1 (φ, H) = stp (some 5) φ H (just (aLoad E.T 3 (fget φ 4))) := nrfl rfl
theorem s34_1_2 : stepA E C B 42 r34_1 o34_1_2 (φ, H) = stp (some 6) φ H (just (aBin E.T .lss 3 (fget φ 5) (.int .i64 1))) := nrfl rfl
theorem s34_1_3 : stepA E C B 42 r34_1 o34_1_3 (φ, H) = some (fput φ 7 (fget φ 6), H) := nrfl rfl
theorem s34_1_4 : stepA E C B 42 r34_1 o34_1_4 (φ, H) = gd φ 7 false (fun φ => some (fput φ 8 (.tup []), H)) (fun φ => stp (some 8) φ H (just (aFieldAddr E.T 44 (fget φ 1) 0))) := s_gd (j := 3) (oj := o34_1_3) rfl rfl rfl (fun _ => rfl) (fun _ => rfl)
theorem s34_1_5 : stepA E C B 42 r34_1 o34_1_5 (φ, H) = gd φ 7 false (fun φ => some (fput φ 9 (.tup []), H)) (fun φ => stp (some 9) φ H (just (aLoad E.T 3 (fget φ 8)))) := s_gd (j := 3) (oj := o34_1_3) rfl rfl rfl (fun _ => rfl) (fun _ => rfl)
theorem s34_1_6 : stepA E C B 42 r34_1 o34_1_6 (φ, H) = gd φ 7 false (fun φ => some (fput φ 10 (.tup []), H)) (fun φ => stp (some 10) φ H (just (aBin E.T .gtr 3 (fget φ 9) (.int .i64 4194304)))) := s_gd (j := 3) (oj := o34_1_3) rfl rfl rfl (fun _ => rfl) (fun _ => rfl)
theorem s34_1_7 : stepA E C B 42 r34_1 o34_1_7 (φ, H) = stp (some 11) φ H (opPick (fget φ 7) (.bool true) (fget φ 10)) := nrfl rfl
theorem s34_1_8 : stepA E C B 42 r34_1 o34_1_8 (φ, H) = some (fput φ 3 (fget φ 11), H) := nrfl rfl
noncomputable def c34_14 : Code := kR c34_12
noncomputable def c34_15 : Code := kT c34_14
theorem x34_15 : execA E C (fg 34) B 42 E0 N c34_15 s = some (.exit 1, s) := x_exit (by rfl) s
noncomputable def c34_16 : Code := kE c34_14
theorem x34_16 : execA E C (fg 34) B 42 E0 N c34_16 s = some (.normal, s) := x_skip (by rfl) s
theorem x34_14 : execA E C (fg 34) B 42 E0 N c34_14 (φ, H) = condX (fget φ 3) (execA E C (fg 34) B 42 E0 N c34_15 (φ, H)) (execA E C (fg 34) B 42 E0 N c34_16 (φ, H)) := x_cond (by rfl) _
theorem x34_12 : execA E C (fg 34) B 42 E0 N c34_12 s = seqX (execA E C (fg 34) B 42 E0 N c34_13 s) (execA E C (fg 34) B 42 E0 N c34_14) := x_seq (by rfl) s
noncomputable def c34_17 : Code := kR c34_11
noncomputable def c34_18 : Code := kL c34_17
noncomputable def c34_19 : Code := kL c34_18
noncomputable def r34_2 : Array Oper := kO c34_19
noncomputable def o34_2_0 : Oper := opN r34_2 0
noncomputable def o34_2_1 : Oper := opN r34_2 1
noncomputable def o34_2_2 : Oper := opN r34_2 2
noncomputable def o34_2_3 : Oper := opN r34_2 3
noncomputable def o34_2_4 : Oper := opN r34_2 4
noncomputable def o34_2_5 : Oper := opN r34_2 5
noncomputable def o34_2_6 : Oper := opN r34_2 6
noncomputable def o34_2_7 : Oper := opN r34_2 7
noncomputable def o34_2_8 : Oper := opN r34_2 8
theorem x34_19 : execA E C (fg 34) B 42 E0 N c34_19 s = regX (runA E C B 42 r34_2 r34_2.toList s) (fun s => gcM E0 [3, 13, 14, 15, 16, 17, 18, 19, 20] (forget s.1 [3, 13, 14, 15, 16, 17, 18, 19, 20], s.2)) := x_reg (ops := r34_2) (by rfl) (by rfl) s
theorem r34_2_l : r34_2.toList = [o34_2_0, o34_2_1, o34_2_2, o34_2_3, o34_2_4, o34_2_5, o34_2_6, o34_2_7, o34_2_8] := nrfl rfl
theorem s34_2_0 : stepA E C B 42 r34_2 o34_2_0 (φ, H) = stp (some 13) φ H (just (aFieldAddr E.T 44 (fget φ 1) 1)) := nrfl rfl
theorem s34_2_1 : stepA E C B 42 r34_2 o34_2_1 (φ, H) = stp (some 14) φ H (just (aLoad E.T 3 (fget φ 13))) := nrfl rfl
theorem s34_2_2 : stepA E C B 42 r34_2 o34_2_2 (φ, H) = stp (some 15) φ H (just (aBin E.T .lss 3 (fget φ 14) (.int .i64 (-33554432)))) := nrfl rfl
theorem s34_2_3 : stepA E C B 42 r34_2 o34_2_3 (φ, H) = some (fput φ 16 (fget φ 15), H) := nrfl rfl
theorem s34_2_4 : stepA E C B 42 r34_2 o34_2_4 (φ, H) = gd φ 16 false (fun φ => some (fput φ 17 (.tup []), H)) (fun φ => stp (some 17) φ H (just (aFieldAddr E.T 44 (fget φ 1) 1))) := s_gd (j := 3) (oj := o34_2_3) rfl rfl rfl (fun _ => rfl) (fun _ => rfl)
theorem s34_2_5 : stepA E C B 42 r34_2 o34_2_5 (φ, H) = gd φ 16 false (fun φ => some (fput φ 18 (.tup []), H)) (fun φ => stp (some 18) φ H (just (aLoad E.T 3 (fget φ 17)))) := s_gd (j := 3) (oj := o34_2_3) rfl rfl rfl (fun _ => rfl) (fun _ => rfl)
theorem s34_2_6 : stepA E C B 42 r34_2 o34_2_6 (φ, H) = gd φ 16 false (fun φ => some (fput φ 19 (.tup []), H)) (fun φ => stp (some 19) φ H (just (aBin E.T .gtr 3 (fget φ 18) (.int .i64 33554432)))) := s_gd (j := 3) (oj := o34_2_3) rfl rfl rfl (fun _ => rfl) (fun _ => rfl)
theorem s34_2_7 : stepA E C B 42 r34_2 o34_2_7 (φ, H) = stp (some 20) φ H (opPick (fget φ 16) (.bool true) (fget φ 19)) := nrfl rfl
theorem s34_2_8 : stepA E C B 42 r34_2 o34_2_8 (φ, H) = some (fput φ 12 (fget φ 20), H) := nrfl rfl
noncomputable def c34_20 : Code := kR c34_18
noncomputable def c34_21 : Code := kT c34_20
theorem x34_21 : execA E C (fg 34) B 42 E0 N c34_21 s = some (.exit 2, s) := x_exit (by rfl) s
noncomputable def c34_22 : Code := kE c34_20
theorem x34_22 : execA E C (fg 34) B 42 E0 N c34_22 s = some (.normal, s) := x_skip (by rfl) s
theorem x34_20 : execA E C (fg 34) B 42 E0 N c34_20 (φ, H) = condX (fget φ 12) (execA E C (fg 34) B 42 E0 N c34_21 (φ, H)) (execA E C (fg 34) B 42 E0 N c34_22 (φ, H)) := x_cond (by rfl) _
theorem x34_18 : execA E C (fg 34) B 42 E0 N c34_18 s = seqX (execA E C (fg 34) B 42 E0 N c34_19 s) (execA E C (fg 34) B 42 E0 N c34_20) := x_seq (by rfl) s
noncomputable def c34_23 : Code := kR c34_17
noncomputable def c34_24 : Code := kL c34_23
noncomputable def c34_25 : Code := kL c34_24
noncomputable def r34_3 : Array Oper := kO c34_25
noncomputable def o34_3_0 : Oper := opN r34_3 0
noncomputable def o34_3_1 : Oper := opN r34_3 1
noncomputable def o34_3_2 : Oper := opN r34_3 2
noncomputable def o34_3_3 : Oper := opN r34_3 3
noncomputable def o34_3_4 : Oper := opN r34_3 4
noncomputable def o34_3_5 : Oper := opN r34_3 5
noncomputable def o34_3_6 : Oper := opN r34_3 6
noncomputable def o34_3_7 : Oper := opN r34_3 7
noncomputable def o34_3_8 : Oper := opN r34_3 8
noncomputable def o34_3_9 : Oper := opN r34_3 9
noncomputable def o34_3_10 : Oper := opN r34_3 10
noncomputable def o34_3_11 : Oper := opN r34_3 11
noncomputable def o34_3_12 : Oper := opN r34_3 12
noncomputable def o34_3_13 : Oper := opN r34_3 13
noncomputable def o34_3_14 : Oper := opN r34_3 14
theorem x34_25 : execA E C (fg 34) B 42 E0 N c34_25 s = regX (runA E C B 42 r34_3 r34_3.toList s) (fun s => gcM E0 [12, 22, 23, 24, 25, 26, 27, 28, 29, 30, 31, 32, 33, 34, 35] (forget s.1 [12, 22, 23, 24, 25, 26, 27, 28, 29, 30, 31, 32, 33, 34, 35], s.2)) := x_reg (ops := r34_3) (by rfl) (by rfl) s
theorem r34_3_l : r34_3.toList = [o34_3_0, o34_3_1, o34_3_2, o34_3_3, o34_3_4, o34_3_5, o34_3_6, o34_3_7, o34_3_8, o34_3_9, o34_3_10, o34_3_11, o34_3_12, o34_3_13, o34_3_14] := nrfl rfl
theorem s34_3_0 : stepA E C B 42 r34_3 o34_3_0 (φ, H) = stp (some 22) φ H (just (aFieldAddr E.T 44 (fget φ 1) 2)) := nrfl rfl
theorem s34_3_1 : stepA E C B 42 r34_3 o34_3_1 (φ, H) = stp (some 23) φ H (just (aLoad E.T 3 (fget φ 22))) := nrfl rfl
theorem s34_3_2 : stepA E C B 42 r34_3 o34_3_2 (φ, H) = stp (some 24) φ H (just (aFieldAddr E.T 44 (fget φ 1) 3)) := nrfl rfl
theorem s34_3_3 : stepA E C B 42 r34_3 o34_3_3 (φ, H) = stp (some 25) φ H (just (aLoad E.T 3 (fget φ 24))) := nrfl rfl
theorem s34_3_4 : stepA E C B 42 r34_3 o34_3_4 (φ, H) = stp (some 26) φ H (aBuiltin E.T (B + 26) .min #[3, 3] [(fget φ 23), (fget φ 25)]) := nrfl rfl
theorem s34_3_5 : stepA E C B 42 r34_3 o34_3_5 (φ, H) = stp (some 27) φ H (just (aBin E.T .lss 3 (fget φ 26) (.int .i64 1))) := nrfl rfl
theorem s34_3_6 : stepA E C B 42 r34_3 o34_3_6 (φ, H) = some (fput φ 28 (fget φ 27), H) := nrfl rfl
theorem s34_3_7 : stepA E C B 42 r34_3 o34_3_7 (φ, H) = gd φ 28 false (fun φ => some (fput φ 29 (.tup []), H)) (fun φ => stp (some 29) φ H (just (aFieldAddr E.T 44 (fget φ 1) 2))) := s_gd (j := 6) (oj := o34_3_6) rfl rfl rfl (fun _ => rfl) (fun _ => rfl)
theorem s34_3_8 : stepA E C B 42 r34_3 o34_3_8 (φ, H) = gd φ 28 false (fun φ => some (fput φ 30 (.tup []), H)) (fun φ => stp (some 30) φ H (just (aLoad E.T 3 (fget φ 29)))) := s_gd (j := 6) (oj := o34_3_6) rfl rfl rfl (fun _ => rfl) (fun _ => rfl)
theorem s34_3_9 : stepA E C B 42 r34_3 o34_3_9 (φ, H) = gd φ 28 false (fun φ => some (fput φ 31 (.tup []), H)) (fun φ => stp (some 31) φ H (just (aFieldAddr E.T 44 (fget φ 1) 3))) := s_gd (j := 6) (oj := o34_3_6) rfl rfl rfl (fun _ => rfl) (fun _ => rfl)
theorem s34_3_10 : stepA E C B 42 r34_3 o34_3_10 (φ, H) = gd φ 28 false (fun φ => some (fput φ 32 (.tup []), H)) (fun φ => stp (some 32) φ H (just (aLoad E.T 3 (fget φ 31)))) := s_gd (j := 6) (oj := o34_3_6) rfl rfl rfl (fun _ => rfl) (fun _ => rfl)
theorem s34_3_11 : stepA E C B 42 r34_3 o34_3_11 (φ, H) = gd φ 28 false (fun φ => some (fput φ 33 (.tup []), H)) (fun φ => stp (some 33) φ H (aBuiltin E.T (B + 33) .max #[3, 3] [(fget φ 30), (fget φ 32)])) := s_gd (j := 6) (oj := o34_3_6) rfl rfl rfl (fun _ => rfl) (fun _ => rfl)
theorem s34_3_12 : stepA E C B 42 r34_3 o34_3_12 (φ, H) = gd φ 28 false (fun φ => some (fput φ 34 (.tup []), H)) (fun φ => stp (some 34) φ H (just (aBin E.T .gtr 3 (fget φ 33) (.int .i64 9)))) := s_gd (j := 6) (oj := o34_3_6) rfl rfl rfl (fun _ => rfl) (fun _ => rfl)
theorem s34_3_13 : stepA E C B 42 r34_3 o34_3_13 (φ, H) = stp (some 35) φ H (opPick (fget φ 28) (.bool true) (fget φ 34)) := nrfl rfl
theorem s34_3_14 : stepA E C B 42 r34_3 o34_3_14 (φ, H) = some (fput φ 21 (fget φ 35), H) := nrfl rfl
noncomputable def c34_26 : Code := kR c34_24
noncomputable def c34_27 : Code := kT c34_26
theorem x34_27 : execA E C (fg 34) B 42 E0 N c34_27 s = some (.exit 3, s) := x_exit (by rfl) s
noncomputable def c34_28 : Code := kE c34_26
theorem x34_28 : execA E C (fg 34) B 42 E0 N c34_28 s = some (.normal, s) := x_skip (by rfl) s
theorem x34_26 : execA E C (fg 34) B 42 E0 N c34_26 (φ, H) = condX (fget φ 21) (execA E C (fg 34) B 42 E0 N c34_27 (φ, H)) (execA E C (fg 34) B 42 E0 N c34_28 (φ, H)) := x_cond (by rfl) _
theorem x34_24 : execA E C (fg 34) B 42 E0 N c34_24 s = seqX (execA E C (fg 34) B 42 E0 N c34_25 s) (execA E C (fg 34) B 42 E0 N c34_26) := x_seq (by rfl) s
noncomputable def c34_29 : Code := kR c34_23
noncomputable def c34_30 : Code := kL c34_29
noncomputable def r34_4 : Array Oper := kO c34_30
noncomputable def o34_4_0 : Oper := opN r34_4 0
noncomputable def o34_4_1 : Oper := opN r34_4 1
noncomputable def o34_4_2 : Oper := opN r34_4 2
noncomputable def o34_4_3 : Oper := opN r34_4 3
noncomputable def o34_4_4 : Oper := opN r34_4 4
noncomputable def o34_4_5 : Oper := opN r34_4 5
theorem x34_30 : execA E C (fg 34) B 42 E0 N c34_30 s = regX (runA E C B 42 r34_4 r34_4.toList s) (fun s => gcM E0 [1, 21, 37, 38, 39, 40, 41] (forget s.1 [1, 21, 37, 38, 39, 40, 41], s.2)) := x_reg (ops := r34_4) (by rfl) (by rfl) s
theorem r34_4_l : r34_4.toList = [o34_4_0, o34_4_1, o34_4_2, o34_4_3, o34_4_4, o34_4_5] := nrfl rfl
theorem s34_4_0 : stepA E C B 42 r34_4 o34_4_0 (φ, H) = stp (some 37) φ H (just (aFieldAddr E.T 44 (fget φ 1) 2)) := nrfl rfl
theorem s34_4_1 : stepA E C B 42 r34_4 o34_4_1 (φ, H) = stp (some 38) φ H (just (aLoad E.T 3 (fget φ 37))) := nrfl rfl
theorem s34_4_2 : stepA E C B 42 r34_4 o34_4_2 (φ, H) = stp (some 39) φ H (just (aFieldAddr E.T 44 (fget φ 1) 3)) := nrfl rfl
theorem s34_4_3 : stepA E C B 42 r34_4 o34_4_3 (φ, H) = stp (some 40) φ H (just (aLoad E.T 3 (fget φ 39))) := nrfl rfl
theorem s34_4_4 : stepA E C B 42 r34_4 o34_4_4 (φ, H) = stp (some 41) φ H (just (aBin E.T .gtr 3 (fget φ 38) (fget φ 40))) := nrfl rfl
theorem s34_4_5 : stepA E C B 42 r34_4 o34_4_5 (φ, H) = some (fput φ 36 (fget φ 41), H) := nrfl rfl
noncomputable def c34_31 : Code := kR c34_29
noncomputable def c34_32 : Code := kT c34_31
theorem x34_32 : execA E C (fg 34) B 42 E0 N c34_32 s = some (.exit 4, s) := x_exit (by rfl) s
noncomputable def c34_33 : Code := kE c34_31
theorem x34_33 : execA E C (fg 34) B 42 E0 N c34_33 s = some (.normal, s) := x_skip (by rfl) s
theorem x34_31 : execA E C (fg 34) B 42 E0 N c34_31 (φ, H) = condX (fget φ 36) (execA E C (fg 34) B 42 E0 N c34_32 (φ, H)) (execA E C (fg 34) B 42 E0 N c34_33 (φ, H)) := x_cond (by rfl) _
theorem x34_29 : execA E C (fg 34) B 42 E0 N c34_29 s = seqX (execA E C (fg 34) B 42 E0 N c34_30 s) (execA E C (fg 34) B 42 E0 N c34_31) := x_seq (by rfl) s
theorem x34_23 : execA E C (fg 34) B 42 E0 N c34_23 s = seqX (execA E C (fg 34) B 42 E0 N c34_24 s) (execA E C (fg 34) B 42 E0 N c34_29) := x_seq (by rfl) s
theorem x34_17 : execA E C (fg 34) B 42 E0 N c34_17 s = seqX (execA E C (fg 34) B 42 E0 N c34_18 s) (execA E C (fg 34) B 42 E0 N c34_23) := x_seq (by rfl) s
theorem x34_11 : execA E C (fg 34) B 42 E0 N c34_11 s = seqX (execA E C (fg 34) B 42 E0 N c34_12 s) (execA E C (fg 34) B 42 E0 N c34_17) := x_seq (by rfl) s
noncomputable def c34_34 : Code := kR c34_10
theorem x34_34 : execA E C (fg 34) B 42 E0 N c34_34 s = some (.exit 0, s) := x_exit (by rfl) s
theorem x34_10 : execA E C (fg 34) B 42 E0 N c34_10 s = seqX (execA E C (fg 34) B 42 E0 N c34_11 s) (execA E C (fg 34) B 42 E0 N c34_34) := x_seq (by rfl) s
theorem x34_9 : execA E C (fg 34) B 42 E0 N c34_9 s = blockX 1 (fun s => (forget s.1 [1, 3], s.2)) (execA E C (fg 34) B 42 E0 N c34_10 s) := x_block (by rfl) (by rfl) s
theorem x34_8 : execA E C (fg 34) B 42 E0 N c34_8 s = blockX 2 (fun s => (forget s.1 [1, 12], s.2)) (execA E C (fg 34) B 42 E0 N c34_9 s) := x_block (by rfl) (by rfl) s
theorem x34_7 : execA E C (fg 34) B 42 E0 N c34_7 s = blockX 3 (fun s => (forget s.1 [1, 21], s.2)) (execA E C (fg 34) B 42 E0 N c34_8 s) := x_block (by rfl) (by rfl) s
noncomputable def c34_35 : Code := kR c34_6
noncomputable def c34_36 : Code := kL c34_35
noncomputable def c34_37 : Code := kL c34_36
noncomputable def r34_5 : Array Oper := kO c34_37
noncomputable def o34_5_0 : Oper := opN r34_5 0
theorem x34_37 : execA E C (fg 34) B 42 E0 N c34_37 s = regX (runA E C B 42 r34_5 r34_5.toList s) (fun s => gcM E0 [] (forget s.1 [], s.2)) := x_reg (ops := r34_5) (by rfl) (by rfl) s
theorem r34_5_l : r34_5.toList = [o34_5_0] := nrfl rfl
theorem s34_5_0 : stepA E C B 42 r34_5 o34_5_0 (φ, H) = some (fput φ 2 (.int .i64 1), H) := nrfl rfl
noncomputable def c34_38 : Code := kR c34_36
theorem x34_38 : execA E C (fg 34) B 42 E0 N c34_38 s = some (.ret, s) := x_ret (by rfl) s
theorem x34_36 : execA E C (fg 34) B 42 E0 N c34_36 s = seqX (execA E C (fg 34) B 42 E0 N c34_37 s) (execA E C (fg 34) B 42 E0 N c34_38) := x_seq (by rfl) s
noncomputable def c34_39 : Code := kR c34_35
theorem x34_39 : execA E C (fg 34) B 42 E0 N c34_39 s = some (.exit 0, s) := x_exit (by rfl) s
theorem x34_35 : execA E C (fg 34) B 42 E0 N c34_35 s = seqX (execA E C (fg 34) B 42 E0 N c34_36 s) (execA E C (fg 34) B 42 E0 N c34_39) := x_seq (by rfl) s
theorem x34_6 : execA E C (fg 34) B 42 E0 N c34_6 s = seqX (execA E C (fg 34) B 42 E0 N c34_7 s) (execA E C (fg 34) B 42 E0 N c34_35) := x_seq (by rfl) s
theorem x34_5 : execA E C (fg 34) B 42 E0 N c34_5 s = blockX 4 (fun s => (forget s.1 [36], s.2)) (execA E C (fg 34) B 42 E0 N c34_6 s) := x_block (by rfl) (by rfl) s
noncomputable def c34_40 : Code := kR c34_4
noncomputable def c34_41 : Code := kL c34_40
noncomputable def c34_42 : Code := kL c34_41
noncomputable def r34_6 : Array Oper := kO c34_42
noncomputable def o34_6_0 : Oper := opN r34_6 0
theorem x34_42 : execA E C (fg 34) B 42 E0 N c34_42 s = regX (runA E C B 42 r34_6 r34_6.toList s) (fun s => gcM E0 [] (forget s.1 [], s.2)) := x_reg (ops := r34_6) (by rfl) (by rfl) s
theorem r34_6_l : r34_6.toList = [o34_6_0] := nrfl rfl
theorem s34_6_0 : stepA E C B 42 r34_6 o34_6_0 (φ, H) = some (fput φ 2 (.int .i64 7), H) := nrfl rfl
noncomputable def c34_43 : Code := kR c34_41
theorem x34_43 : execA E C (fg 34) B 42 E0 N c34_43 s = some (.ret, s) := x_ret (by rfl) s
theorem x34_41 : execA E C (fg 34) B 42 E0 N c34_41 s = seqX (execA E C (fg 34) B 42 E0 N c34_42 s) (execA E C (fg 34) B 42 E0 N c34_43) := x_seq (by rfl) s
noncomputable def c34_44 : Code := kR c34_40
theorem x34_44 : execA E C (fg 34) B 42 E0 N c34_44 s = some (.exit 0, s) := x_exit (by rfl) s
theorem x34_40 : execA E C (fg 34) B 42 E0 N c34_40 s = seqX (execA E C (fg 34) B 42 E0 N c34_41 s) (execA E C (fg 34) B 42 E0 N c34_44) := x_seq (by rfl) s
theorem x34_4 : execA E C (fg 34) B 42 E0 N c34_4 s = seqX (execA E C (fg 34) B 42 E0 N c34_5 s) (execA E C (fg 34) B 42 E0 N c34_40) := x_seq (by rfl) s
theorem x34_3 : execA E C (fg 34) B 42 E0 N c34_3 s = blockX 0 (fun s => (forget s.1 [36], s.2)) (execA E C (fg 34) B 42 E0 N c34_4 s) := x_block (by rfl) (by rfl) s
noncomputable def c34_45 : Code := kR c34_2
noncomputable def c34_46 : Code := kL c34_45
noncomputable def r34_7 : Array Oper := kO c34_46
noncomputable def o34_7_0 : Oper := opN r34_7 0
theorem x34_46 : execA E C (fg 34) B 42 E0 N c34_46 s = regX (runA E C B 42 r34_7 r34_7.toList s) (fun s => gcM E0 [] (forget s.1 [], s.2)) := x_reg (ops := r34_7) (by rfl) (by rfl) s
theorem r34_7_l : r34_7.toList = [o34_7_0] := nrfl rfl
theorem s34_7_0 : stepA E C B 42 r34_7 o34_7_0 (φ, H) = some (fput φ 2 (.int .i64 0), H) := nrfl rfl
noncomputable def c34_47 : Code := kR c34_45
theorem x34_47 : execA E C (fg 34) B 42 E0 N c34_47 s = some (.ret, s) := x_ret (by rfl) s
theorem x34_45 : execA E C (fg 34) B 42 E0 N c34_45 s = seqX (execA E C (fg 34) B 42 E0 N c34_46 s) (execA E C (fg 34) B 42 E0 N c34_47) := x_seq (by rfl) s
theorem x34_2 : execA E C (fg 34) B 42 E0 N c34_2 s = seqX (execA E C (fg 34) B 42 E0 N c34_3 s) (execA E C (fg 34) B 42 E0 N c34_45) := x_seq (by rfl) s
theorem x34_0 : execA E C (fg 34) B 42 E0 N c34_0 s = seqX (execA E C (fg 34) B 42 E0 N c34_1 s) (execA E C (fg 34) B 42 E0 N c34_2) := x_seq (by rfl) s
theorem fi_34 : fInfo E 34 = some ⟨42, #[.tmp 2], c34_0⟩ := nrfl rfl
theorem b_34 (args : List AV) : bodyA E C fg N 34 args H B = bodyX E [.tmp 2] (execA E C (fg 34) B 42 H N c34_0 (frame0 args 0 [], H)) := bodyA_eq fi_34 args H
/-! ### f11: novaculite/prop.Check -/
noncomputable def c11_0 : Code := kBody Proofs.Try.f11
noncomputable def c11_1 : Code := kL c11_0
noncomputable def r11_0 : Array Oper := kO c11_1
noncomputable def o11_0_0 : Oper := opN r11_0 0
theorem x11_1 : execA E C (fg 11) B 26 E0 N c11_1 s = regX (runA E C B 26 r11_0 r11_0.toList s) (fun s => gcM E0 [2] (forget s.1 [2], s.2)) := x_reg (ops := r11_0) (by rfl) (by rfl) s
theorem r11_0_l : r11_0.toList = [o11_0_0] := nrfl rfl
theorem s11_0_0 : stepA E C B 26 r11_0 o11_0_0 (φ, H) = some (fput φ 2 (.int .i64 0), H) := nrfl rfl
noncomputable def c11_2 : Code := kR c11_0
noncomputable def c11_3 : Code := kL c11_2
noncomputable def c11_4 : Code := kB c11_3
noncomputable def c11_5 : Code := kL c11_4
noncomputable def r11_1 : Array Oper := kO c11_5
noncomputable def o11_1_0 : Oper := opN r11_1 0
noncomputable def o11_1_1 : Oper := opN r11_1 1
noncomputable def o11_1_2 : Oper := opN r11_1 2
noncomputable def o11_1_3 : Oper := opN r11_1 3
theorem x11_5 : execA E C (fg 11) B 26 E0 N c11_5 s = regX (runA E C B 26 r11_1 r11_1.toList s) (fun s => gcM E0 [7, 8, 9] (forget s.1 [7, 8, 9], s.2)) := x_reg (ops := r11_1) (by rfl) (by rfl) s
theorem r11_1_l : r11_1.toList = [o11_1_0, o11_1_1, o11_1_2, o11_1_3] := nrfl rfl
theorem s11_1_0 : stepA E C B 26 r11_1 o11_1_0 (φ, H) = some (fput φ 7 (fget φ 0), H) := nrfl rfl
theorem s11_1_1 : stepA E C B 26 r11_1 o11_1_1 (φ, H) = stp (some 8) φ H (aBuiltin E.T (B + 8) .len #[27] [(fget φ 7)]) := nrfl rfl
theorem s11_1_2 : stepA E C B 26 r11_1 o11_1_2 (φ, H) = stp (some 9) φ H (just (aBin E.T .eql 3 (fget φ 8) (.int .i64 0))) := nrfl rfl
theorem s11_1_3 : stepA E C B 26 r11_1 o11_1_3 (φ, H) = some (fput φ 6 (fget φ 9), H) := nrfl rfl
noncomputable def c11_6 : Code := kR c11_4
noncomputable def c11_7 : Code := kT c11_6
noncomputable def c11_8 : Code := kL c11_7
noncomputable def r11_2 : Array Oper := kO c11_8
noncomputable def o11_2_0 : Oper := opN r11_2 0
theorem x11_8 : execA E C (fg 11) B 26 E0 N c11_8 s = regX (runA E C B 26 r11_2 r11_2.toList s) (fun s => gcM E0 [0, 6] (forget s.1 [0, 6], s.2)) := x_reg (ops := r11_2) (by rfl) (by rfl) s
theorem r11_2_l : r11_2.toList = [o11_2_0] := nrfl rfl
theorem s11_2_0 : stepA E C B 26 r11_2 o11_2_0 (φ, H) = some (fput φ 2 (.int .i64 4), H) := nrfl rfl
noncomputable def c11_9 : Code := kR c11_7
theorem x11_9 : execA E C (fg 11) B 26 E0 N c11_9 s = some (.ret, s) := x_ret (by rfl) s
theorem x11_7 : execA E C (fg 11) B 26 E0 N c11_7 s = seqX (execA E C (fg 11) B 26 E0 N c11_8 s) (execA E C (fg 11) B 26 E0 N c11_9) := x_seq (by rfl) s
noncomputable def c11_10 : Code := kE c11_6
noncomputable def c11_11 : Code := kL c11_10
noncomputable def r11_3 : Array Oper := kO c11_11
noncomputable def o11_3_0 : Oper := opN r11_3 0
noncomputable def o11_3_1 : Oper := opN r11_3 1
noncomputable def o11_3_2 : Oper := opN r11_3 2
noncomputable def o11_3_3 : Oper := opN r11_3 3
theorem x11_11 : execA E C (fg 11) B 26 E0 N c11_11 s = regX (runA E C B 26 r11_3 r11_3.toList s) (fun s => gcM E0 [6, 11, 12, 13] (forget s.1 [6, 11, 12, 13], s.2)) := x_reg (ops := r11_3) (by rfl) (by rfl) s
theorem r11_3_l : r11_3.toList = [o11_3_0, o11_3_1, o11_3_2, o11_3_3] := nrfl rfl
theorem s11_3_0 : stepA E C B 26 r11_3 o11_3_0 (φ, H) = some (fput φ 11 (fget φ 0), H) := nrfl rfl
theorem s11_3_1 : stepA E C B 26 r11_3 o11_3_1 (φ, H) = stp (some 12) φ H (aBuiltin E.T (B + 12) .len #[27] [(fget φ 11)]) := nrfl rfl
theorem s11_3_2 : stepA E C B 26 r11_3 o11_3_2 (φ, H) = stp (some 13) φ H (just (aBin E.T .gtr 3 (fget φ 12) (.int .i64 5))) := nrfl rfl
theorem s11_3_3 : stepA E C B 26 r11_3 o11_3_3 (φ, H) = some (fput φ 10 (fget φ 13), H) := nrfl rfl
noncomputable def c11_12 : Code := kR c11_10
noncomputable def c11_13 : Code := kT c11_12
noncomputable def c11_14 : Code := kL c11_13
noncomputable def r11_4 : Array Oper := kO c11_14
noncomputable def o11_4_0 : Oper := opN r11_4 0
theorem x11_14 : execA E C (fg 11) B 26 E0 N c11_14 s = regX (runA E C B 26 r11_4 r11_4.toList s) (fun s => gcM E0 [0, 10] (forget s.1 [0, 10], s.2)) := x_reg (ops := r11_4) (by rfl) (by rfl) s
theorem r11_4_l : r11_4.toList = [o11_4_0] := nrfl rfl
theorem s11_4_0 : stepA E C B 26 r11_4 o11_4_0 (φ, H) = some (fput φ 2 (.int .i64 3), H) := nrfl rfl
noncomputable def c11_15 : Code := kR c11_13
theorem x11_15 : execA E C (fg 11) B 26 E0 N c11_15 s = some (.ret, s) := x_ret (by rfl) s
theorem x11_13 : execA E C (fg 11) B 26 E0 N c11_13 s = seqX (execA E C (fg 11) B 26 E0 N c11_14 s) (execA E C (fg 11) B 26 E0 N c11_15) := x_seq (by rfl) s
noncomputable def c11_16 : Code := kE c11_12
theorem x11_16 : execA E C (fg 11) B 26 E0 N c11_16 s = some (.normal, s) := x_skip (by rfl) s
theorem x11_12 : execA E C (fg 11) B 26 E0 N c11_12 (φ, H) = condX (fget φ 10) (execA E C (fg 11) B 26 E0 N c11_13 (φ, H)) (execA E C (fg 11) B 26 E0 N c11_16 (φ, H)) := x_cond (by rfl) _
theorem x11_10 : execA E C (fg 11) B 26 E0 N c11_10 s = seqX (execA E C (fg 11) B 26 E0 N c11_11 s) (execA E C (fg 11) B 26 E0 N c11_12) := x_seq (by rfl) s
theorem x11_6 : execA E C (fg 11) B 26 E0 N c11_6 (φ, H) = condX (fget φ 6) (execA E C (fg 11) B 26 E0 N c11_7 (φ, H)) (execA E C (fg 11) B 26 E0 N c11_10 (φ, H)) := x_cond (by rfl) _
theorem x11_4 : execA E C (fg 11) B 26 E0 N c11_4 s = seqX (execA E C (fg 11) B 26 E0 N c11_5 s) (execA E C (fg 11) B 26 E0 N c11_6) := x_seq (by rfl) s
theorem x11_3 : execA E C (fg 11) B 26 E0 N c11_3 s = blockX 0 (fun s => (forget s.1 [10], s.2)) (execA E C (fg 11) B 26 E0 N c11_4 s) := x_block (by rfl) (by rfl) s
noncomputable def c11_17 : Code := kR c11_2
noncomputable def c11_18 : Code := kL c11_17
noncomputable def c11_19 : Code := kL c11_18
noncomputable def r11_5 : Array Oper := kO c11_19
noncomputable def o11_5_0 : Oper := opN r11_5 0
noncomputable def o11_5_1 : Oper := opN r11_5 1
noncomputable def o11_5_2 : Oper := opN r11_5 2
theorem x11_19 : execA E C (fg 11) B 26 E0 N c11_19 s = regX (runA E C B 26 r11_5 r11_5.toList s) (fun s => gcM E0 [0] (forget s.1 [0], s.2)) := x_reg (ops := r11_5) (by rfl) (by rfl) s
theorem r11_5_l : r11_5.toList = [o11_5_0, o11_5_1, o11_5_2] := nrfl rfl
theorem s11_5_0 : stepA E C B 26 r11_5 o11_5_0 (φ, H) = some (fput φ 14 (fget φ 0), H) := nrfl rfl
theorem s11_5_1 : stepA E C B 26 r11_5 o11_5_1 (φ, H) = stp (some 15) φ H (aBuiltin E.T (B + 15) .len #[27] [(fget φ 14)]) := nrfl rfl
theorem s11_5_2 : stepA E C B 26 r11_5 o11_5_2 (φ, H) = some (fput φ 16 (.int .i64 0), H) := nrfl rfl
noncomputable def c11_20 : Code := kR c11_18
noncomputable def c11_21 : Code := kB c11_20
noncomputable def c11_22 : Code := kB c11_21
noncomputable def c11_23 : Code := kL c11_22
noncomputable def r11_6 : Array Oper := kO c11_23
noncomputable def o11_6_0 : Oper := opN r11_6 0
theorem x11_23 : execA E C (fg 11) B 26 E0 N c11_23 s = regX (runA E C B 26 r11_6 r11_6.toList s) (fun s => gcM E0 [] (forget s.1 [], s.2)) := x_reg (ops := r11_6) (by rfl) (by rfl) s
theorem r11_6_l : r11_6.toList = [o11_6_0] := nrfl rfl
theorem s11_6_0 : stepA E C B 26 r11_6 o11_6_0 (φ, H) = stp (some 17) φ H (just (aBin E.T .lss 3 (fget φ 16) (fget φ 15))) := nrfl rfl
noncomputable def c11_24 : Code := kR c11_22
noncomputable def c11_25 : Code := kL c11_24
noncomputable def c11_26 : Code := kT c11_25
theorem x11_26 : execA E C (fg 11) B 26 E0 N c11_26 s = some (.normal, s) := x_skip (by rfl) s
noncomputable def c11_27 : Code := kE c11_25
theorem x11_27 : execA E C (fg 11) B 26 E0 N c11_27 s = some (.exit 1, s) := x_exit (by rfl) s
theorem x11_25 : execA E C (fg 11) B 26 E0 N c11_25 (φ, H) = condX (fget φ 17) (execA E C (fg 11) B 26 E0 N c11_26 (φ, H)) (execA E C (fg 11) B 26 E0 N c11_27 (φ, H)) := x_cond (by rfl) _
noncomputable def c11_28 : Code := kR c11_24
noncomputable def c11_29 : Code := kL c11_28
noncomputable def c11_30 : Code := kB c11_29
noncomputable def c11_31 : Code := kL c11_30
noncomputable def r11_7 : Array Oper := kO c11_31
noncomputable def o11_7_0 : Oper := opN r11_7 0
noncomputable def o11_7_1 : Oper := opN r11_7 1
noncomputable def o11_7_2 : Oper := opN r11_7 2
noncomputable def o11_7_3 : Oper := opN r11_7 3
theorem x11_31 : execA E C (fg 11) B 26 E0 N c11_31 s = regX (runA E C B 26 r11_7 r11_7.toList s) (fun s => gcM E0 [17, 18, 19] (forget s.1 [17, 18, 19], s.2)) := x_reg (ops := r11_7) (by rfl) (by rfl) s
theorem r11_7_l : r11_7.toList = [o11_7_0, o11_7_1, o11_7_2, o11_7_3] := nrfl rfl
theorem s11_7_0 : stepA E C B 26 r11_7 o11_7_0 (φ, H) = stp (some 18) φ H (just (aIndexAddr E.T 27 (fget φ 14) (fget φ 16))) := nrfl rfl
theorem s11_7_1 : stepA E C B 26 r11_7 o11_7_1 (φ, H) = stp (some 19) φ H (just (aLoad E.T 44 (fget φ 18))) := nrfl rfl
theorem s11_7_2 : stepA E C B 26 r11_7 o11_7_2 (φ, H) = stp (some 4) φ H (opBox (B + 4) (zeroCells E.T 44)) := nrfl rfl
theorem s11_7_3 : stepA E C B 26 r11_7 o11_7_3 (φ, H) = stp none φ H (opStore E.T 44 (fget φ 4) (fget φ 19)) := nrfl rfl
noncomputable def c11_32 : Code := kR c11_30
noncomputable def c11_33 : Code := kL c11_32
noncomputable def r11_8 : Array Oper := kO c11_33
noncomputable def o11_8_0 : Oper := opN r11_8 0
noncomputable def o11_8_1 : Oper := opN r11_8 1
noncomputable def o11_8_2 : Oper := opN r11_8 2
theorem x11_33 : execA E C (fg 11) B 26 E0 N c11_33 s = regX (runA E C B 26 r11_8 r11_8.toList s) (fun s => gcM E0 [4, 20, 21] (forget s.1 [4, 20, 21], s.2)) := x_reg (ops := r11_8) (by rfl) (by rfl) s
theorem r11_8_l : r11_8.toList = [o11_8_0, o11_8_1, o11_8_2] := nrfl rfl
theorem s11_8_0 : stepA E C B 26 r11_8 o11_8_0 (φ, H) = stp (some 20) φ H (just (aLoad E.T 44 (fget φ 4))) := nrfl rfl
theorem s11_8_1 : stepA E C B 26 r11_8 o11_8_1 (φ, H) = stp (some 21) φ H (aCall C (fun j => B + j * 26 + 21) true 34 [(fget φ 20)]) := nrfl rfl
theorem s11_8_2 : stepA E C B 26 r11_8 o11_8_2 (φ, H) = some (fput φ 5 (fget φ 21), H) := nrfl rfl
noncomputable def c11_34 : Code := kR c11_32
noncomputable def c11_35 : Code := kL c11_34
noncomputable def r11_9 : Array Oper := kO c11_35
noncomputable def o11_9_0 : Oper := opN r11_9 0
noncomputable def o11_9_1 : Oper := opN r11_9 1
theorem x11_35 : execA E C (fg 11) B 26 E0 N c11_35 s = regX (runA E C B 26 r11_9 r11_9.toList s) (fun s => gcM E0 [22] (forget s.1 [22], s.2)) := x_reg (ops := r11_9) (by rfl) (by rfl) s
theorem r11_9_l : r11_9.toList = [o11_9_0, o11_9_1] := nrfl rfl
theorem s11_9_0 : stepA E C B 26 r11_9 o11_9_0 (φ, H) = some (fput φ 22 (fget φ 5), H) := nrfl rfl
theorem s11_9_1 : stepA E C B 26 r11_9 o11_9_1 (φ, H) = stp (some 23) φ H (just (aBin E.T .neq 30 (fget φ 22) (.int .i64 0))) := nrfl rfl
noncomputable def c11_36 : Code := kR c11_34
noncomputable def c11_37 : Code := kT c11_36
noncomputable def c11_38 : Code := kL c11_37
noncomputable def r11_10 : Array Oper := kO c11_38
noncomputable def o11_10_0 : Oper := opN r11_10 0
noncomputable def o11_10_1 : Oper := opN r11_10 1
theorem x11_38 : execA E C (fg 11) B 26 E0 N c11_38 s = regX (runA E C B 26 r11_10 r11_10.toList s) (fun s => gcM E0 [5, 14, 15, 16, 23, 24] (forget s.1 [5, 14, 15, 16, 23, 24], s.2)) := x_reg (ops := r11_10) (by rfl) (by rfl) s
theorem r11_10_l : r11_10.toList = [o11_10_0, o11_10_1] := nrfl rfl
theorem s11_10_0 : stepA E C B 26 r11_10 o11_10_0 (φ, H) = some (fput φ 24 (fget φ 5), H) := nrfl rfl
theorem s11_10_1 : stepA E C B 26 r11_10 o11_10_1 (φ, H) = some (fput φ 2 (fget φ 24), H) := nrfl rfl
noncomputable def c11_39 : Code := kR c11_37
theorem x11_39 : execA E C (fg 11) B 26 E0 N c11_39 s = some (.ret, s) := x_ret (by rfl) s
theorem x11_37 : execA E C (fg 11) B 26 E0 N c11_37 s = seqX (execA E C (fg 11) B 26 E0 N c11_38 s) (execA E C (fg 11) B 26 E0 N c11_39) := x_seq (by rfl) s
noncomputable def c11_40 : Code := kE c11_36
theorem x11_40 : execA E C (fg 11) B 26 E0 N c11_40 s = some (.normal, s) := x_skip (by rfl) s
theorem x11_36 : execA E C (fg 11) B 26 E0 N c11_36 (φ, H) = condX (fget φ 23) (execA E C (fg 11) B 26 E0 N c11_37 (φ, H)) (execA E C (fg 11) B 26 E0 N c11_40 (φ, H)) := x_cond (by rfl) _
theorem x11_34 : execA E C (fg 11) B 26 E0 N c11_34 s = seqX (execA E C (fg 11) B 26 E0 N c11_35 s) (execA E C (fg 11) B 26 E0 N c11_36) := x_seq (by rfl) s
theorem x11_32 : execA E C (fg 11) B 26 E0 N c11_32 s = seqX (execA E C (fg 11) B 26 E0 N c11_33 s) (execA E C (fg 11) B 26 E0 N c11_34) := x_seq (by rfl) s
theorem x11_30 : execA E C (fg 11) B 26 E0 N c11_30 s = seqX (execA E C (fg 11) B 26 E0 N c11_31 s) (execA E C (fg 11) B 26 E0 N c11_32) := x_seq (by rfl) s
theorem x11_29 : execA E C (fg 11) B 26 E0 N c11_29 s = blockX 2 (fun s => (forget s.1 [5, 23], s.2)) (execA E C (fg 11) B 26 E0 N c11_30 s) := x_block (by rfl) (by rfl) s
noncomputable def c11_41 : Code := kR c11_28
noncomputable def r11_11 : Array Oper := kO c11_41
noncomputable def o11_11_0 : Oper := opN r11_11 0
noncomputable def o11_11_1 : Oper := opN r11_11 1
theorem x11_41 : execA E C (fg 11) B 26 E0 N c11_41 s = regX (runA E C B 26 r11_11 r11_11.toList s) (fun s => gcM E0 [25] (forget s.1 [25], s.2)) := x_reg (ops := r11_11) (by rfl) (by rfl) s
theorem r11_11_l : r11_11.toList = [o11_11_0, o11_11_1] := nrfl rfl
theorem s11_11_0 : stepA E C B 26 r11_11 o11_11_0 (φ, H) = stp (some 25) φ H (just (aBin E.T .add 3 (fget φ 16) (.int .i64 1))) := nrfl rfl
theorem s11_11_1 : stepA E C B 26 r11_11 o11_11_1 (φ, H) = some (fput φ 16 (fget φ 25), H) := nrfl rfl
theorem x11_28 : execA E C (fg 11) B 26 E0 N c11_28 s = seqX (execA E C (fg 11) B 26 E0 N c11_29 s) (execA E C (fg 11) B 26 E0 N c11_41) := x_seq (by rfl) s
theorem x11_24 : execA E C (fg 11) B 26 E0 N c11_24 s = seqX (execA E C (fg 11) B 26 E0 N c11_25 s) (execA E C (fg 11) B 26 E0 N c11_28) := x_seq (by rfl) s
theorem x11_22 : execA E C (fg 11) B 26 E0 N c11_22 s = seqX (execA E C (fg 11) B 26 E0 N c11_23 s) (execA E C (fg 11) B 26 E0 N c11_24) := x_seq (by rfl) s
-- a loop of f11: x11_21; body c11_22; slots [16, 15, 14]
theorem x11_21 : execA E C (fg 11) B 26 E0 N c11_21 s = iterA (execA E C (fg 11) B 26 E0 N c11_22) (headA E0) N s := x_loop (by rfl) s
theorem x11_20 : execA E C (fg 11) B 26 E0 N c11_20 s = blockX 1 (fun s => (forget s.1 [14, 15, 16, 17], s.2)) (execA E C (fg 11) B 26 E0 N c11_21 s) := x_block (by rfl) (by rfl) s
theorem x11_18 : execA E C (fg 11) B 26 E0 N c11_18 s = seqX (execA E C (fg 11) B 26 E0 N c11_19 s) (execA E C (fg 11) B 26 E0 N c11_20) := x_seq (by rfl) s
noncomputable def c11_42 : Code := kR c11_17
noncomputable def c11_43 : Code := kL c11_42
noncomputable def r11_12 : Array Oper := kO c11_43
noncomputable def o11_12_0 : Oper := opN r11_12 0
theorem x11_43 : execA E C (fg 11) B 26 E0 N c11_43 s = regX (runA E C B 26 r11_12 r11_12.toList s) (fun s => gcM E0 [] (forget s.1 [], s.2)) := x_reg (ops := r11_12) (by rfl) (by rfl) s
theorem r11_12_l : r11_12.toList = [o11_12_0] := nrfl rfl
theorem s11_12_0 : stepA E C B 26 r11_12 o11_12_0 (φ, H) = some (fput φ 2 (.int .i64 0), H) := nrfl rfl
noncomputable def c11_44 : Code := kR c11_42
theorem x11_44 : execA E C (fg 11) B 26 E0 N c11_44 s = some (.ret, s) := x_ret (by rfl) s
theorem x11_42 : execA E C (fg 11) B 26 E0 N c11_42 s = seqX (execA E C (fg 11) B 26 E0 N c11_43 s) (execA E C (fg 11) B 26 E0 N c11_44) := x_seq (by rfl) s
theorem x11_17 : execA E C (fg 11) B 26 E0 N c11_17 s = seqX (execA E C (fg 11) B 26 E0 N c11_18 s) (execA E C (fg 11) B 26 E0 N c11_42) := x_seq (by rfl) s
theorem x11_2 : execA E C (fg 11) B 26 E0 N c11_2 s = seqX (execA E C (fg 11) B 26 E0 N c11_3 s) (execA E C (fg 11) B 26 E0 N c11_17) := x_seq (by rfl) s
theorem x11_0 : execA E C (fg 11) B 26 E0 N c11_0 s = seqX (execA E C (fg 11) B 26 E0 N c11_1 s) (execA E C (fg 11) B 26 E0 N c11_2) := x_seq (by rfl) s
theorem fi_11 : fInfo E 11 = some ⟨26, #[.tmp 2], c11_0⟩ := nrfl rfl
theorem b_11 (args : List AV) : bodyA E C fg N 11 args H B = bodyX E [.tmp 2] (execA E C (fg 11) B 26 H N c11_0 (frame0 args 0 [], H)) := bodyA_eq fi_11 args H
/-! ### f73: (novaculite/prop.row[novaculite/prop.Stone]).sum -/
noncomputable def c73_0 : Code := kBody Proofs.Try.f73
noncomputable def c73_1 : Code := kL c73_0
noncomputable def r73_0 : Array Oper := kO c73_1
noncomputable def o73_0_0 : Oper := opN r73_0 0
theorem x73_1 : execA E C (fg 73) B 26 E0 N c73_1 s = regX (runA E C B 26 r73_0 r73_0.toList s) (fun s => gcM E0 [6] (forget s.1 [6], s.2)) := x_reg (ops := r73_0) (by rfl) (by rfl) s
theorem r73_0_l : r73_0.toList = [o73_0_0] := nrfl rfl
theorem s73_0_0 : stepA E C B 26 r73_0 o73_0_0 (φ, H) = some (fput φ 6 (.int .i64 0), H) := nrfl rfl
noncomputable def c73_2 : Code := kR c73_0
noncomputable def c73_3 : Code := kL c73_2
noncomputable def r73_1 : Array Oper := kO c73_3
noncomputable def o73_1_0 : Oper := opN r73_1 0
theorem x73_3 : execA E C (fg 73) B 26 E0 N c73_3 s = regX (runA E C B 26 r73_1 r73_1.toList s) (fun s => gcM E0 [] (forget s.1 [], s.2)) := x_reg (ops := r73_1) (by rfl) (by rfl) s
theorem r73_1_l : r73_1.toList = [o73_1_0] := nrfl rfl
theorem s73_1_0 : stepA E C B 26 r73_1 o73_1_0 (φ, H) = some (fput φ 7 (.int .i64 0), H) := nrfl rfl
noncomputable def c73_4 : Code := kR c73_2
noncomputable def c73_5 : Code := kL c73_4
noncomputable def c73_6 : Code := kL c73_5
noncomputable def r73_2 : Array Oper := kO c73_6
noncomputable def o73_2_0 : Oper := opN r73_2 0
noncomputable def o73_2_1 : Oper := opN r73_2 1
theorem x73_6 : execA E C (fg 73) B 26 E0 N c73_6 s = regX (runA E C B 26 r73_2 r73_2.toList s) (fun s => gcM E0 [1, 9] (forget s.1 [1, 9], s.2)) := x_reg (ops := r73_2) (by rfl) (by rfl) s
theorem r73_2_l : r73_2.toList = [o73_2_0, o73_2_1] := nrfl rfl
theorem s73_2_0 : stepA E C B 26 r73_2 o73_2_0 (φ, H) = some (fput φ 9 (fget φ 1), H) := nrfl rfl
theorem s73_2_1 : stepA E C B 26 r73_2 o73_2_1 (φ, H) = some (fput φ 8 (fget φ 9), H) := nrfl rfl
noncomputable def c73_7 : Code := kR c73_5
noncomputable def c73_8 : Code := kB c73_7
noncomputable def c73_9 : Code := kB c73_8
noncomputable def c73_10 : Code := kL c73_9
noncomputable def c73_11 : Code := kL c73_10
noncomputable def r73_3 : Array Oper := kO c73_11
noncomputable def o73_3_0 : Oper := opN r73_3 0
noncomputable def o73_3_1 : Oper := opN r73_3 1
noncomputable def o73_3_2 : Oper := opN r73_3 2
noncomputable def o73_3_3 : Oper := opN r73_3 3
theorem x73_11 : execA E C (fg 73) B 26 E0 N c73_11 s = regX (runA E C B 26 r73_3 r73_3.toList s) (fun s => gcM E0 [10, 11, 12] (forget s.1 [10, 11, 12], s.2)) := x_reg (ops := r73_3) (by rfl) (by rfl) s
theorem r73_3_l : r73_3.toList = [o73_3_0, o73_3_1, o73_3_2, o73_3_3] := nrfl rfl
theorem s73_3_0 : stepA E C B 26 r73_3 o73_3_0 (φ, H) = some (fput φ 10 (fget φ 8), H) := nrfl rfl
theorem s73_3_1 : stepA E C B 26 r73_3 o73_3_1 (φ, H) = some (fput φ 11 (fget φ 0), H) := nrfl rfl
theorem s73_3_2 : stepA E C B 26 r73_3 o73_3_2 (φ, H) = stp (some 12) φ H (aBuiltin E.T (B + 12) .len #[111] [(fget φ 11)]) := nrfl rfl
theorem s73_3_3 : stepA E C B 26 r73_3 o73_3_3 (φ, H) = stp (some 13) φ H (just (aBin E.T .lss 3 (fget φ 10) (fget φ 12))) := nrfl rfl
noncomputable def c73_12 : Code := kR c73_10
noncomputable def c73_13 : Code := kT c73_12
theorem x73_13 : execA E C (fg 73) B 26 E0 N c73_13 s = some (.normal, s) := x_skip (by rfl) s
noncomputable def c73_14 : Code := kE c73_12
theorem x73_14 : execA E C (fg 73) B 26 E0 N c73_14 s = some (.exit 0, s) := x_exit (by rfl) s
theorem x73_12 : execA E C (fg 73) B 26 E0 N c73_12 (φ, H) = condX (fget φ 13) (execA E C (fg 73) B 26 E0 N c73_13 (φ, H)) (execA E C (fg 73) B 26 E0 N c73_14 (φ, H)) := x_cond (by rfl) _
theorem x73_10 : execA E C (fg 73) B 26 E0 N c73_10 s = seqX (execA E C (fg 73) B 26 E0 N c73_11 s) (execA E C (fg 73) B 26 E0 N c73_12) := x_seq (by rfl) s
noncomputable def c73_15 : Code := kR c73_9
noncomputable def c73_16 : Code := kL c73_15
noncomputable def c73_17 : Code := kB c73_16
noncomputable def r73_5 : Array Oper := kO c73_17
noncomputable def o73_5_0 : Oper := opN r73_5 0
noncomputable def o73_5_1 : Oper := opN r73_5 1
noncomputable def o73_5_2 : Oper := opN r73_5 2
noncomputable def o73_5_3 : Oper := opN r73_5 3
noncomputable def o73_5_4 : Oper := opN r73_5 4
noncomputable def o73_5_5 : Oper := opN r73_5 5
noncomputable def o73_5_6 : Oper := opN r73_5 6
noncomputable def o73_5_7 : Oper := opN r73_5 7
noncomputable def o73_5_8 : Oper := opN r73_5 8
noncomputable def o73_5_9 : Oper := opN r73_5 9
theorem x73_17 : execA E C (fg 73) B 26 E0 N c73_17 s = regX (runA E C B 26 r73_5 r73_5.toList s) (fun s => gcM E0 [13, 16, 17, 18, 19, 20, 21, 22, 23, 24] (forget s.1 [13, 16, 17, 18, 19, 20, 21, 22, 23, 24], s.2)) := x_reg (ops := r73_5) (by rfl) (by rfl) s
theorem r73_5_l : r73_5.toList = [o73_5_0, o73_5_1, o73_5_2, o73_5_3, o73_5_4, o73_5_5, o73_5_6, o73_5_7, o73_5_8, o73_5_9] := nrfl rfl
theorem s73_5_0 : stepA E C B 26 r73_5 o73_5_0 (φ, H) = some (fput φ 16 (fget φ 7), H) := nrfl rfl
theorem s73_5_1 : stepA E C B 26 r73_5 o73_5_1 (φ, H) = some (fput φ 17 (fget φ 2), H) := nrfl rfl
theorem s73_5_2 : stepA E C B 26 r73_5 o73_5_2 (φ, H) = some (fput φ 18 (fget φ 8), H) := nrfl rfl
theorem s73_5_3 : stepA E C B 26 r73_5 o73_5_3 (φ, H) = some (fput φ 19 (fget φ 0), H) := nrfl rfl
theorem s73_5_4 : stepA E C B 26 r73_5 o73_5_4 (φ, H) = some (fput φ 20 (fget φ 8), H) := nrfl rfl
theorem s73_5_5 : stepA E C B 26 r73_5 o73_5_5 (φ, H) = stp (some 21) φ H (just (aIndexAddr E.T 111 (fget φ 19) (fget φ 20))) := nrfl rfl
theorem s73_5_6 : stepA E C B 26 r73_5 o73_5_6 (φ, H) = stp (some 22) φ H (just (aLoad E.T 44 (fget φ 21))) := nrfl rfl
theorem s73_5_7 : stepA E C B 26 r73_5 o73_5_7 (φ, H) = callV E C (B + 26 * 8) (some 23) (fun j => B + j * 26 + 23) φ H (fget φ 17) [(fget φ 18), (fget φ 22)] true := nrfl rfl
theorem s73_5_8 : stepA E C B 26 r73_5 o73_5_8 (φ, H) = stp (some 24) φ H (just (aBin E.T .add 3 (fget φ 16) (fget φ 23))) := nrfl rfl
theorem s73_5_9 : stepA E C B 26 r73_5 o73_5_9 (φ, H) = some (fput φ 7 (fget φ 24), H) := nrfl rfl
theorem x73_16 : execA E C (fg 73) B 26 E0 N c73_16 s = blockX 1 (fun s => (forget s.1 [], s.2)) (execA E C (fg 73) B 26 E0 N c73_17 s) := x_block (by rfl) (by rfl) s
noncomputable def c73_18 : Code := kR c73_15
noncomputable def r73_4 : Array Oper := kO c73_18
noncomputable def o73_4_0 : Oper := opN r73_4 0
noncomputable def o73_4_1 : Oper := opN r73_4 1
noncomputable def o73_4_2 : Oper := opN r73_4 2
theorem x73_18 : execA E C (fg 73) B 26 E0 N c73_18 s = regX (runA E C B 26 r73_4 r73_4.toList s) (fun s => gcM E0 [14, 15] (forget s.1 [14, 15], s.2)) := x_reg (ops := r73_4) (by rfl) (by rfl) s
theorem r73_4_l : r73_4.toList = [o73_4_0, o73_4_1, o73_4_2] := nrfl rfl
theorem s73_4_0 : stepA E C B 26 r73_4 o73_4_0 (φ, H) = some (fput φ 14 (fget φ 8), H) := nrfl rfl
theorem s73_4_1 : stepA E C B 26 r73_4 o73_4_1 (φ, H) = stp (some 15) φ H (just (aBin E.T .add 3 (fget φ 14) (.int .i64 1))) := nrfl rfl
theorem s73_4_2 : stepA E C B 26 r73_4 o73_4_2 (φ, H) = some (fput φ 8 (fget φ 15), H) := nrfl rfl
theorem x73_15 : execA E C (fg 73) B 26 E0 N c73_15 s = seqX (execA E C (fg 73) B 26 E0 N c73_16 s) (execA E C (fg 73) B 26 E0 N c73_18) := x_seq (by rfl) s
theorem x73_9 : execA E C (fg 73) B 26 E0 N c73_9 s = seqX (execA E C (fg 73) B 26 E0 N c73_10 s) (execA E C (fg 73) B 26 E0 N c73_15) := x_seq (by rfl) s
-- a loop of f73: x73_8; body c73_9; slots [8, 7, 2, 0]
theorem x73_8 : execA E C (fg 73) B 26 E0 N c73_8 s = iterA (execA E C (fg 73) B 26 E0 N c73_9) (headA E0) N s := x_loop (by rfl) s
theorem x73_7 : execA E C (fg 73) B 26 E0 N c73_7 s = blockX 0 (fun s => (forget s.1 [0, 2, 8, 13], s.2)) (execA E C (fg 73) B 26 E0 N c73_8 s) := x_block (by rfl) (by rfl) s
theorem x73_5 : execA E C (fg 73) B 26 E0 N c73_5 s = seqX (execA E C (fg 73) B 26 E0 N c73_6 s) (execA E C (fg 73) B 26 E0 N c73_7) := x_seq (by rfl) s
noncomputable def c73_19 : Code := kR c73_4
noncomputable def c73_20 : Code := kL c73_19
noncomputable def r73_6 : Array Oper := kO c73_20
noncomputable def o73_6_0 : Oper := opN r73_6 0
noncomputable def o73_6_1 : Oper := opN r73_6 1
theorem x73_20 : execA E C (fg 73) B 26 E0 N c73_20 s = regX (runA E C B 26 r73_6 r73_6.toList s) (fun s => gcM E0 [7, 25] (forget s.1 [7, 25], s.2)) := x_reg (ops := r73_6) (by rfl) (by rfl) s
theorem r73_6_l : r73_6.toList = [o73_6_0, o73_6_1] := nrfl rfl
theorem s73_6_0 : stepA E C B 26 r73_6 o73_6_0 (φ, H) = some (fput φ 25 (fget φ 7), H) := nrfl rfl
theorem s73_6_1 : stepA E C B 26 r73_6 o73_6_1 (φ, H) = some (fput φ 6 (fget φ 25), H) := nrfl rfl
noncomputable def c73_21 : Code := kR c73_19
theorem x73_21 : execA E C (fg 73) B 26 E0 N c73_21 s = some (.ret, s) := x_ret (by rfl) s
theorem x73_19 : execA E C (fg 73) B 26 E0 N c73_19 s = seqX (execA E C (fg 73) B 26 E0 N c73_20 s) (execA E C (fg 73) B 26 E0 N c73_21) := x_seq (by rfl) s
theorem x73_4 : execA E C (fg 73) B 26 E0 N c73_4 s = seqX (execA E C (fg 73) B 26 E0 N c73_5 s) (execA E C (fg 73) B 26 E0 N c73_19) := x_seq (by rfl) s
theorem x73_2 : execA E C (fg 73) B 26 E0 N c73_2 s = seqX (execA E C (fg 73) B 26 E0 N c73_3 s) (execA E C (fg 73) B 26 E0 N c73_4) := x_seq (by rfl) s
theorem x73_0 : execA E C (fg 73) B 26 E0 N c73_0 s = seqX (execA E C (fg 73) B 26 E0 N c73_1 s) (execA E C (fg 73) B 26 E0 N c73_2) := x_seq (by rfl) s
theorem fi_73 : fInfo E 73 = some ⟨26, #[.tmp 6], c73_0⟩ := nrfl rfl
theorem b_73 (args : List AV) : bodyA E C fg N 73 args H B = bodyX E [.tmp 6] (execA E C (fg 73) B 26 H N c73_0 (frame0 args 0 [], H)) := bodyA_eq fi_73 args H
/-! ### f74: novaculite/prop.may$1 -/
noncomputable def c74_0 : Code := kBody Proofs.Try.f74
noncomputable def c74_1 : Code := kL c74_0
noncomputable def r74_0 : Array Oper := kO c74_1
noncomputable def o74_0_0 : Oper := opN r74_0 0
noncomputable def o74_0_1 : Oper := opN r74_0 1
theorem x74_1 : execA E C (fg 74) B 15 E0 N c74_1 s = regX (runA E C B 15 r74_0 r74_0.toList s) (fun s => gcM E0 [0, 1, 5] (forget s.1 [0, 1, 5], s.2)) := x_reg (ops := r74_0) (by rfl) (by rfl) s
theorem r74_0_l : r74_0.toList = [o74_0_0, o74_0_1] := nrfl rfl
theorem s74_0_0 : stepA E C B 15 r74_0 o74_0_0 (φ, H) = stp (some 4) φ H (opBox (B + 4) (acells (fget φ 1))) := nrfl rfl
theorem s74_0_1 : stepA E C B 15 r74_0 o74_0_1 (φ, H) = some (fput φ 5 (.int .i64 0), H) := nrfl rfl
noncomputable def c74_2 : Code := kR c74_0
noncomputable def c74_3 : Code := kL c74_2
noncomputable def r74_1 : Array Oper := kO c74_3
noncomputable def o74_1_0 : Oper := opN r74_1 0
noncomputable def o74_1_1 : Oper := opN r74_1 1
noncomputable def o74_1_2 : Oper := opN r74_1 2
noncomputable def o74_1_3 : Oper := opN r74_1 3
noncomputable def o74_1_4 : Oper := opN r74_1 4
noncomputable def o74_1_5 : Oper := opN r74_1 5
noncomputable def o74_1_6 : Oper := opN r74_1 6
noncomputable def o74_1_7 : Oper := opN r74_1 7
noncomputable def o74_1_8 : Oper := opN r74_1 8
noncomputable def o74_1_9 : Oper := opN r74_1 9
theorem x74_3 : execA E C (fg 74) B 15 E0 N c74_3 s = regX (drawA E C B 15 r74_1 s) (fun s => gcM E0 [2, 4, 6, 7, 8, 9, 10, 11, 12, 13, 14] (forget s.1 [2, 4, 6, 7, 8, 9, 10, 11, 12, 13, 14], s.2)) := x_draw (ops := r74_1) (by rfl) (by rfl) s
theorem r74_1_l : r74_1.toList = [o74_1_0, o74_1_1, o74_1_2, o74_1_3, o74_1_4, o74_1_5, o74_1_6, o74_1_7, o74_1_8, o74_1_9] := nrfl rfl
theorem r74_1_st : statOk r74_1 = true := by kernel_rfl
theorem r74_1_dr : drawA E C B 15 r74_1 s = if neat 15 s = true then drX r74_1 (runT E C B 15 r74_1 r74_1.toList 0 s) else none := draw_eq r74_1_st s
theorem r74_1_an (l : List (Nat × Tr)) : dynOk r74_1 l = (!writing l || dynPairs [[], [], [], [1, 2], [0, 1, 2, 3], [], [], [0, 1, 2, 3, 4, 5, 6], [0, 1, 2, 3, 4, 5, 6, 7], [0, 1, 2, 3, 4, 5, 6, 7, 8]] (touching l)) := dynOk_eq (by kernel_rfl) l
theorem s74_1_0 : stepT E C B 15 r74_1 o74_1_0 (φ, H) = stpT (some 6) φ H (just (aLoad E.T 44 (fget φ 4))) := stT_go rfl (goT_R rfl rfl)
theorem s74_1_1 : stepT E C B 15 r74_1 o74_1_1 (φ, H) = stpT (some 7) φ H (just (aLoad E.T 67 (fget φ 2))) := stT_go rfl (goT_R rfl rfl)
theorem s74_1_2 : stepT E C B 15 r74_1 o74_1_2 (φ, H) = stpT (some 8) φ H (just (aLoad E.T 44 (fget φ 4))) := stT_go rfl (goT_R rfl rfl)
theorem s74_1_3 : stepT E C B 15 r74_1 o74_1_3 (φ, H) = callVT E C (B + 15 * 8) (some 9) (fun j => B + j * 15 + 9) φ H (fget φ 7) [(fget φ 8)] true := stT_go rfl (goT_V rfl rfl)
theorem s74_1_4 : stepT E C B 15 r74_1 o74_1_4 (φ, H) = stpT (some 10) φ H (aCall C (fun j => B + j * 15 + 10) true 37 [(fget φ 6), (fget φ 9)]) := stT_go rfl (goT_R rfl rfl)
theorem s74_1_5 : stepT E C B 15 r74_1 o74_1_5 (φ, H) = stpT (some 11) φ H (just (aLoad E.T 67 (fget φ 2))) := stT_go rfl (goT_R rfl rfl)
theorem s74_1_6 : stepT E C B 15 r74_1 o74_1_6 (φ, H) = stpT (some 12) φ H (just (aLoad E.T 44 (fget φ 4))) := stT_go rfl (goT_R rfl rfl)
theorem s74_1_7 : stepT E C B 15 r74_1 o74_1_7 (φ, H) = callVT E C (B + 15 * 8) (some 13) (fun j => B + j * 15 + 13) φ H (fget φ 11) [(fget φ 12)] true := stT_go rfl (goT_V rfl rfl)
theorem s74_1_8 : stepT E C B 15 r74_1 o74_1_8 (φ, H) = stpT (some 14) φ H (just (aBin E.T .mul 3 (fget φ 10) (fget φ 13))) := stT_go rfl (goT_R rfl rfl)
theorem s74_1_9 : stepT E C B 15 r74_1 o74_1_9 (φ, H) = some ((fput φ 5 (fget φ 14), H), ⟨false, [], []⟩) := stT_go rfl (goT_mv rfl rfl)
noncomputable def c74_4 : Code := kR c74_2
theorem x74_4 : execA E C (fg 74) B 15 E0 N c74_4 s = some (.ret, s) := x_ret (by rfl) s
theorem x74_2 : execA E C (fg 74) B 15 E0 N c74_2 s = seqX (execA E C (fg 74) B 15 E0 N c74_3 s) (execA E C (fg 74) B 15 E0 N c74_4) := x_seq (by rfl) s
theorem x74_0 : execA E C (fg 74) B 15 E0 N c74_0 s = seqX (execA E C (fg 74) B 15 E0 N c74_1 s) (execA E C (fg 74) B 15 E0 N c74_2) := x_seq (by rfl) s
theorem fi_74 : fInfo E 74 = some ⟨15, #[.tmp 5], c74_0⟩ := nrfl rfl
theorem b_74 (args : List AV) : bodyA E C fg N 74 args H B = bodyX E [.tmp 5] (execA E C (fg 74) B 15 H N c74_0 (frame0 args 0 [], H)) := bodyA_eq fi_74 args H
/-! ### f61: novaculite/prop.beyond$1 -/
noncomputable def c61_0 : Code := kBody Proofs.Try.f61
noncomputable def c61_1 : Code := kL c61_0
noncomputable def r61_0 : Array Oper := kO c61_1
noncomputable def o61_0_0 : Oper := opN r61_0 0
noncomputable def o61_0_1 : Oper := opN r61_0 1
theorem x61_1 : execA E C (fg 61) B 16 E0 N c61_1 s = regX (runA E C B 16 r61_0 r61_0.toList s) (fun s => gcM E0 [0, 5] (forget s.1 [0, 5], s.2)) := x_reg (ops := r61_0) (by rfl) (by rfl) s
theorem r61_0_l : r61_0.toList = [o61_0_0, o61_0_1] := nrfl rfl
theorem s61_0_0 : stepA E C B 16 r61_0 o61_0_0 (φ, H) = stp (some 4) φ H (opBox (B + 4) (acells (fget φ 0))) := nrfl rfl
theorem s61_0_1 : stepA E C B 16 r61_0 o61_0_1 (φ, H) = some (fput φ 5 (.int .i64 0), H) := nrfl rfl
noncomputable def c61_2 : Code := kR c61_0
noncomputable def c61_3 : Code := kL c61_2
noncomputable def c61_4 : Code := kL c61_3
noncomputable def r61_1 : Array Oper := kO c61_4
noncomputable def o61_1_0 : Oper := opN r61_1 0
noncomputable def o61_1_1 : Oper := opN r61_1 1
theorem x61_4 : execA E C (fg 61) B 16 E0 N c61_4 s = regX (runA E C B 16 r61_1 r61_1.toList s) (fun s => gcM E0 [1, 6] (forget s.1 [1, 6], s.2)) := x_reg (ops := r61_1) (by rfl) (by rfl) s
theorem r61_1_l : r61_1.toList = [o61_1_0, o61_1_1] := nrfl rfl
theorem s61_1_0 : stepA E C B 16 r61_1 o61_1_0 (φ, H) = stp (some 6) φ H (just (aLoad E.T 3 (fget φ 1))) := nrfl rfl
theorem s61_1_1 : stepA E C B 16 r61_1 o61_1_1 (φ, H) = stp (some 7) φ H (just (aBin E.T .gtr 3 (fget φ 6) (.int .i64 0))) := nrfl rfl
noncomputable def c61_5 : Code := kR c61_3
noncomputable def c61_6 : Code := kT c61_5
noncomputable def c61_7 : Code := kL c61_6
noncomputable def r61_2 : Array Oper := kO c61_7
noncomputable def o61_2_0 : Oper := opN r61_2 0
noncomputable def o61_2_1 : Oper := opN r61_2 1
noncomputable def o61_2_2 : Oper := opN r61_2 2
noncomputable def o61_2_3 : Oper := opN r61_2 3
noncomputable def o61_2_4 : Oper := opN r61_2 4
theorem x61_7 : execA E C (fg 61) B 16 E0 N c61_7 s = regX (runA E C B 16 r61_2 r61_2.toList s) (fun s => gcM E0 [2, 3, 4, 7, 8, 9, 10, 11] (forget s.1 [2, 3, 4, 7, 8, 9, 10, 11], s.2)) := x_reg (ops := r61_2) (by rfl) (by rfl) s
theorem r61_2_l : r61_2.toList = [o61_2_0, o61_2_1, o61_2_2, o61_2_3, o61_2_4] := nrfl rfl
theorem s61_2_0 : stepA E C B 16 r61_2 o61_2_0 (φ, H) = stp (some 8) φ H (just (aFieldAddr E.T 44 (fget φ 4) 1)) := nrfl rfl
theorem s61_2_1 : stepA E C B 16 r61_2 o61_2_1 (φ, H) = stp (some 9) φ H (just (aLoad E.T 3 (fget φ 8))) := nrfl rfl
theorem s61_2_2 : stepA E C B 16 r61_2 o61_2_2 (φ, H) = stp (some 10) φ H (just (aLoad E.T 3 (fget φ 2))) := nrfl rfl
theorem s61_2_3 : stepA E C B 16 r61_2 o61_2_3 (φ, H) = stp (some 11) φ H (just (aBin E.T .sub 3 (fget φ 9) (fget φ 10))) := nrfl rfl
theorem s61_2_4 : stepA E C B 16 r61_2 o61_2_4 (φ, H) = some (fput φ 5 (fget φ 11), H) := nrfl rfl
noncomputable def c61_8 : Code := kR c61_6
theorem x61_8 : execA E C (fg 61) B 16 E0 N c61_8 s = some (.ret, s) := x_ret (by rfl) s
theorem x61_6 : execA E C (fg 61) B 16 E0 N c61_6 s = seqX (execA E C (fg 61) B 16 E0 N c61_7 s) (execA E C (fg 61) B 16 E0 N c61_8) := x_seq (by rfl) s
noncomputable def c61_9 : Code := kE c61_5
theorem x61_9 : execA E C (fg 61) B 16 E0 N c61_9 s = some (.normal, s) := x_skip (by rfl) s
theorem x61_5 : execA E C (fg 61) B 16 E0 N c61_5 (φ, H) = condX (fget φ 7) (execA E C (fg 61) B 16 E0 N c61_6 (φ, H)) (execA E C (fg 61) B 16 E0 N c61_9 (φ, H)) := x_cond (by rfl) _
theorem x61_3 : execA E C (fg 61) B 16 E0 N c61_3 s = seqX (execA E C (fg 61) B 16 E0 N c61_4 s) (execA E C (fg 61) B 16 E0 N c61_5) := x_seq (by rfl) s
noncomputable def c61_10 : Code := kR c61_2
noncomputable def c61_11 : Code := kL c61_10
noncomputable def r61_3 : Array Oper := kO c61_11
noncomputable def o61_3_0 : Oper := opN r61_3 0
noncomputable def o61_3_1 : Oper := opN r61_3 1
noncomputable def o61_3_2 : Oper := opN r61_3 2
noncomputable def o61_3_3 : Oper := opN r61_3 3
noncomputable def o61_3_4 : Oper := opN r61_3 4
theorem x61_11 : execA E C (fg 61) B 16 E0 N c61_11 s = regX (runA E C B 16 r61_3 r61_3.toList s) (fun s => gcM E0 [2, 3, 4, 7, 12, 13, 14, 15] (forget s.1 [2, 3, 4, 7, 12, 13, 14, 15], s.2)) := x_reg (ops := r61_3) (by rfl) (by rfl) s
theorem r61_3_l : r61_3.toList = [o61_3_0, o61_3_1, o61_3_2, o61_3_3, o61_3_4] := nrfl rfl
theorem s61_3_0 : stepA E C B 16 r61_3 o61_3_0 (φ, H) = stp (some 12) φ H (just (aLoad E.T 3 (fget φ 3))) := nrfl rfl
theorem s61_3_1 : stepA E C B 16 r61_3 o61_3_1 (φ, H) = stp (some 13) φ H (just (aFieldAddr E.T 44 (fget φ 4) 1)) := nrfl rfl
theorem s61_3_2 : stepA E C B 16 r61_3 o61_3_2 (φ, H) = stp (some 14) φ H (just (aLoad E.T 3 (fget φ 13))) := nrfl rfl
theorem s61_3_3 : stepA E C B 16 r61_3 o61_3_3 (φ, H) = stp (some 15) φ H (just (aBin E.T .sub 3 (fget φ 12) (fget φ 14))) := nrfl rfl
theorem s61_3_4 : stepA E C B 16 r61_3 o61_3_4 (φ, H) = some (fput φ 5 (fget φ 15), H) := nrfl rfl
noncomputable def c61_12 : Code := kR c61_10
theorem x61_12 : execA E C (fg 61) B 16 E0 N c61_12 s = some (.ret, s) := x_ret (by rfl) s
theorem x61_10 : execA E C (fg 61) B 16 E0 N c61_10 s = seqX (execA E C (fg 61) B 16 E0 N c61_11 s) (execA E C (fg 61) B 16 E0 N c61_12) := x_seq (by rfl) s
theorem x61_2 : execA E C (fg 61) B 16 E0 N c61_2 s = seqX (execA E C (fg 61) B 16 E0 N c61_3 s) (execA E C (fg 61) B 16 E0 N c61_10) := x_seq (by rfl) s
theorem x61_0 : execA E C (fg 61) B 16 E0 N c61_0 s = seqX (execA E C (fg 61) B 16 E0 N c61_1 s) (execA E C (fg 61) B 16 E0 N c61_2) := x_seq (by rfl) s
theorem fi_61 : fInfo E 61 = some ⟨16, #[.tmp 5], c61_0⟩ := nrfl rfl
theorem b_61 (args : List AV) : bodyA E C fg N 61 args H B = bodyX E [.tmp 5] (execA E C (fg 61) B 16 H N c61_0 (frame0 args 0 [], H)) := bodyA_eq fi_61 args H
/-! ### f60: novaculite/prop.edges -/
noncomputable def c60_0 : Code := kBody Proofs.Try.f60
noncomputable def c60_1 : Code := kL c60_0
noncomputable def r60_0 : Array Oper := kO c60_1
noncomputable def o60_0_0 : Oper := opN r60_0 0
noncomputable def o60_0_1 : Oper := opN r60_0 1
theorem x60_1 : execA E C (fg 60) B 24 E0 N c60_1 s = regX (runA E C B 24 r60_0 r60_0.toList s) (fun s => gcM E0 [4, 5] (forget s.1 [4, 5], s.2)) := x_reg (ops := r60_0) (by rfl) (by rfl) s
theorem r60_0_l : r60_0.toList = [o60_0_0, o60_0_1] := nrfl rfl
theorem s60_0_0 : stepA E C B 24 r60_0 o60_0_0 (φ, H) = some (fput φ 4 (.int .i64 0), H) := nrfl rfl
theorem s60_0_1 : stepA E C B 24 r60_0 o60_0_1 (φ, H) = some (fput φ 5 (.int .i64 0), H) := nrfl rfl
noncomputable def c60_2 : Code := kR c60_0
noncomputable def c60_3 : Code := kL c60_2
noncomputable def c60_4 : Code := kL c60_3
noncomputable def r60_1 : Array Oper := kO c60_4
noncomputable def o60_1_0 : Oper := opN r60_1 0
noncomputable def o60_1_1 : Oper := opN r60_1 1
theorem x60_4 : execA E C (fg 60) B 24 E0 N c60_4 s = regX (runA E C B 24 r60_1 r60_1.toList s) (fun s => gcM E0 [7] (forget s.1 [7], s.2)) := x_reg (ops := r60_1) (by rfl) (by rfl) s
theorem r60_1_l : r60_1.toList = [o60_1_0, o60_1_1] := nrfl rfl
theorem s60_1_0 : stepA E C B 24 r60_1 o60_1_0 (φ, H) = some (fput φ 7 (fget φ 1), H) := nrfl rfl
theorem s60_1_1 : stepA E C B 24 r60_1 o60_1_1 (φ, H) = stp (some 8) φ H (just (aBin E.T .eql 3 (fget φ 7) (.int .i64 0))) := nrfl rfl
noncomputable def c60_5 : Code := kR c60_3
noncomputable def c60_6 : Code := kT c60_5
noncomputable def c60_7 : Code := kL c60_6
noncomputable def r60_2 : Array Oper := kO c60_7
noncomputable def o60_2_0 : Oper := opN r60_2 0
noncomputable def o60_2_1 : Oper := opN r60_2 1
theorem x60_7 : execA E C (fg 60) B 24 E0 N c60_7 s = regX (runA E C B 24 r60_2 r60_2.toList s) (fun s => gcM E0 [0, 1, 8] (forget s.1 [0, 1, 8], s.2)) := x_reg (ops := r60_2) (by rfl) (by rfl) s
theorem r60_2_l : r60_2.toList = [o60_2_0, o60_2_1] := nrfl rfl
theorem s60_2_0 : stepA E C B 24 r60_2 o60_2_0 (φ, H) = some (fput φ 4 (.int .i64 (-268435456)), H) := nrfl rfl
theorem s60_2_1 : stepA E C B 24 r60_2 o60_2_1 (φ, H) = some (fput φ 5 (.int .i64 0), H) := nrfl rfl
noncomputable def c60_8 : Code := kR c60_6
theorem x60_8 : execA E C (fg 60) B 24 E0 N c60_8 s = some (.ret, s) := x_ret (by rfl) s
theorem x60_6 : execA E C (fg 60) B 24 E0 N c60_6 s = seqX (execA E C (fg 60) B 24 E0 N c60_7 s) (execA E C (fg 60) B 24 E0 N c60_8) := x_seq (by rfl) s
noncomputable def c60_9 : Code := kE c60_5
theorem x60_9 : execA E C (fg 60) B 24 E0 N c60_9 s = some (.normal, s) := x_skip (by rfl) s
theorem x60_5 : execA E C (fg 60) B 24 E0 N c60_5 (φ, H) = condX (fget φ 8) (execA E C (fg 60) B 24 E0 N c60_6 (φ, H)) (execA E C (fg 60) B 24 E0 N c60_9 (φ, H)) := x_cond (by rfl) _
theorem x60_3 : execA E C (fg 60) B 24 E0 N c60_3 s = seqX (execA E C (fg 60) B 24 E0 N c60_4 s) (execA E C (fg 60) B 24 E0 N c60_5) := x_seq (by rfl) s
noncomputable def c60_10 : Code := kR c60_2
noncomputable def c60_11 : Code := kL c60_10
noncomputable def r60_3 : Array Oper := kO c60_11
noncomputable def o60_3_0 : Oper := opN r60_3 0
noncomputable def o60_3_1 : Oper := opN r60_3 1
noncomputable def o60_3_2 : Oper := opN r60_3 2
noncomputable def o60_3_3 : Oper := opN r60_3 3
noncomputable def o60_3_4 : Oper := opN r60_3 4
noncomputable def o60_3_5 : Oper := opN r60_3 5
noncomputable def o60_3_6 : Oper := opN r60_3 6
theorem x60_11 : execA E C (fg 60) B 24 E0 N c60_11 s = regX (runA E C B 24 r60_3 r60_3.toList s) (fun s => gcM E0 [0, 1, 8, 9, 10, 11, 12, 13] (forget s.1 [0, 1, 8, 9, 10, 11, 12, 13], s.2)) := x_reg (ops := r60_3) (by rfl) (by rfl) s
theorem r60_3_l : r60_3.toList = [o60_3_0, o60_3_1, o60_3_2, o60_3_3, o60_3_4, o60_3_5, o60_3_6] := nrfl rfl
theorem s60_3_0 : stepA E C B 24 r60_3 o60_3_0 (φ, H) = some (fput φ 9 (fget φ 0), H) := nrfl rfl
theorem s60_3_1 : stepA E C B 24 r60_3 o60_3_1 (φ, H) = some (fput φ 10 (fget φ 1), H) := nrfl rfl
theorem s60_3_2 : stepA E C B 24 r60_3 o60_3_2 (φ, H) = stp (some 11) φ H (just (aBin E.T .sub 3 (fget φ 10) (.int .i64 1))) := nrfl rfl
theorem s60_3_3 : stepA E C B 24 r60_3 o60_3_3 (φ, H) = stp (some 12) φ H (just (aIndexAddr E.T 27 (fget φ 9) (fget φ 11))) := nrfl rfl
theorem s60_3_4 : stepA E C B 24 r60_3 o60_3_4 (φ, H) = stp (some 13) φ H (just (aLoad E.T 44 (fget φ 12))) := nrfl rfl
theorem s60_3_5 : stepA E C B 24 r60_3 o60_3_5 (φ, H) = stp (some 6) φ H (opBox (B + 6) (zeroCells E.T 44)) := nrfl rfl
theorem s60_3_6 : stepA E C B 24 r60_3 o60_3_6 (φ, H) = stp none φ H (opStore E.T 44 (fget φ 6) (fget φ 13)) := nrfl rfl
noncomputable def c60_12 : Code := kR c60_10
noncomputable def c60_13 : Code := kL c60_12
noncomputable def r60_4 : Array Oper := kO c60_13
noncomputable def o60_4_0 : Oper := opN r60_4 0
noncomputable def o60_4_1 : Oper := opN r60_4 1
noncomputable def o60_4_2 : Oper := opN r60_4 2
noncomputable def o60_4_3 : Oper := opN r60_4 3
noncomputable def o60_4_4 : Oper := opN r60_4 4
noncomputable def o60_4_5 : Oper := opN r60_4 5
noncomputable def o60_4_6 : Oper := opN r60_4 6
noncomputable def o60_4_7 : Oper := opN r60_4 7
noncomputable def o60_4_8 : Oper := opN r60_4 8
noncomputable def o60_4_9 : Oper := opN r60_4 9
noncomputable def o60_4_10 : Oper := opN r60_4 10
noncomputable def o60_4_11 : Oper := opN r60_4 11
theorem x60_13 : execA E C (fg 60) B 24 E0 N c60_13 s = regX (drawA E C B 24 r60_4 s) (fun s => gcM E0 [6, 14, 15, 16, 17, 18, 19, 20, 21, 22, 23] (forget s.1 [6, 14, 15, 16, 17, 18, 19, 20, 21, 22, 23], s.2)) := x_draw (ops := r60_4) (by rfl) (by rfl) s
theorem r60_4_l : r60_4.toList = [o60_4_0, o60_4_1, o60_4_2, o60_4_3, o60_4_4, o60_4_5, o60_4_6, o60_4_7, o60_4_8, o60_4_9, o60_4_10, o60_4_11] := nrfl rfl
theorem r60_4_st : statOk r60_4 = true := by kernel_rfl
theorem r60_4_dr : drawA E C B 24 r60_4 s = if neat 24 s = true then drX r60_4 (runT E C B 24 r60_4 r60_4.toList 0 s) else none := draw_eq r60_4_st s
theorem r60_4_an (l : List (Nat × Tr)) : dynOk r60_4 l = (!writing l || dynPairs [[], [0], [], [2], [0, 1, 2, 3], [], [5], [], [7], [5, 6, 7, 8], [0, 1, 2, 3, 4], [0, 1, 2, 3, 4, 5, 6, 7, 8, 9, 10]] (touching l)) := dynOk_eq (by kernel_rfl) l
theorem s60_4_0 : stepT E C B 24 r60_4 o60_4_0 (φ, H) = stpT (some 14) φ H (just (aFieldAddr E.T 44 (fget φ 6) 1)) := stT_go rfl (goT_R rfl rfl)
theorem s60_4_1 : stepT E C B 24 r60_4 o60_4_1 (φ, H) = stpT (some 15) φ H (just (aLoad E.T 3 (fget φ 14))) := stT_go rfl (goT_R rfl rfl)
theorem s60_4_2 : stepT E C B 24 r60_4 o60_4_2 (φ, H) = stpT (some 16) φ H (just (aFieldAddr E.T 44 (fget φ 6) 0)) := stT_go rfl (goT_R rfl rfl)
theorem s60_4_3 : stepT E C B 24 r60_4 o60_4_3 (φ, H) = stpT (some 17) φ H (just (aLoad E.T 3 (fget φ 16))) := stT_go rfl (goT_R rfl rfl)
theorem s60_4_4 : stepT E C B 24 r60_4 o60_4_4 (φ, H) = stpT (some 18) φ H (just (aBin E.T .sub 3 (fget φ 15) (fget φ 17))) := stT_go rfl (goT_R rfl rfl)
theorem s60_4_5 : stepT E C B 24 r60_4 o60_4_5 (φ, H) = stpT (some 19) φ H (just (aFieldAddr E.T 44 (fget φ 6) 1)) := stT_go rfl (goT_R rfl rfl)
theorem s60_4_6 : stepT E C B 24 r60_4 o60_4_6 (φ, H) = stpT (some 20) φ H (just (aLoad E.T 3 (fget φ 19))) := stT_go rfl (goT_R rfl rfl)
theorem s60_4_7 : stepT E C B 24 r60_4 o60_4_7 (φ, H) = stpT (some 21) φ H (just (aFieldAddr E.T 44 (fget φ 6) 0)) := stT_go rfl (goT_R rfl rfl)
theorem s60_4_8 : stepT E C B 24 r60_4 o60_4_8 (φ, H) = stpT (some 22) φ H (just (aLoad E.T 3 (fget φ 21))) := stT_go rfl (goT_R rfl rfl)
theorem s60_4_9 : stepT E C B 24 r60_4 o60_4_9 (φ, H) = stpT (some 23) φ H (just (aBin E.T .add 3 (fget φ 20) (fget φ 22))) := stT_go rfl (goT_R rfl rfl)
theorem s60_4_10 : stepT E C B 24 r60_4 o60_4_10 (φ, H) = some ((fput φ 4 (fget φ 18), H), ⟨false, [], []⟩) := stT_go rfl (goT_mv rfl rfl)
theorem s60_4_11 : stepT E C B 24 r60_4 o60_4_11 (φ, H) = some ((fput φ 5 (fget φ 23), H), ⟨false, [], []⟩) := stT_go rfl (goT_mv rfl rfl)
noncomputable def c60_14 : Code := kR c60_12
theorem x60_14 : execA E C (fg 60) B 24 E0 N c60_14 s = some (.ret, s) := x_ret (by rfl) s
theorem x60_12 : execA E C (fg 60) B 24 E0 N c60_12 s = seqX (execA E C (fg 60) B 24 E0 N c60_13 s) (execA E C (fg 60) B 24 E0 N c60_14) := x_seq (by rfl) s
theorem x60_10 : execA E C (fg 60) B 24 E0 N c60_10 s = seqX (execA E C (fg 60) B 24 E0 N c60_11 s) (execA E C (fg 60) B 24 E0 N c60_12) := x_seq (by rfl) s
theorem x60_2 : execA E C (fg 60) B 24 E0 N c60_2 s = seqX (execA E C (fg 60) B 24 E0 N c60_3 s) (execA E C (fg 60) B 24 E0 N c60_10) := x_seq (by rfl) s
theorem x60_0 : execA E C (fg 60) B 24 E0 N c60_0 s = seqX (execA E C (fg 60) B 24 E0 N c60_1 s) (execA E C (fg 60) B 24 E0 N c60_2) := x_seq (by rfl) s
theorem fi_60 : fInfo E 60 = some ⟨24, #[.tmp 4, .tmp 5], c60_0⟩ := nrfl rfl
theorem b_60 (args : List AV) : bodyA E C fg N 60 args H B = bodyX E [.tmp 4, .tmp 5] (execA E C (fg 60) B 24 H N c60_0 (frame0 args 0 [], H)) := bodyA_eq fi_60 args H
/-! ### f36: novaculite/prop.beyond -/
noncomputable def c36_0 : Code := kBody Proofs.Try.f36
noncomputable def c36_1 : Code := kL c36_0
noncomputable def r36_0 : Array Oper := kO c36_1
noncomputable def o36_0_0 : Oper := opN r36_0 0
noncomputable def o36_0_1 : Oper := opN r36_0 1
theorem x36_1 : execA E C (fg 36) B 16 E0 N c36_1 s = regX (runA E C B 16 r36_0 r36_0.toList s) (fun s => gcM E0 [2, 6] (forget s.1 [2, 6], s.2)) := x_reg (ops := r36_0) (by rfl) (by rfl) s
theorem r36_0_l : r36_0.toList = [o36_0_0, o36_0_1] := nrfl rfl
theorem s36_0_0 : stepA E C B 16 r36_0 o36_0_0 (φ, H) = stp (some 5) φ H (opBox (B + 5) (acells (fget φ 2))) := nrfl rfl
theorem s36_0_1 : stepA E C B 16 r36_0 o36_0_1 (φ, H) = some (fput φ 6 (.nilfunc), H) := nrfl rfl
noncomputable def c36_2 : Code := kR c36_0
noncomputable def c36_3 : Code := kL c36_2
noncomputable def r36_1 : Array Oper := kO c36_3
noncomputable def o36_1_0 : Oper := opN r36_1 0
noncomputable def o36_1_1 : Oper := opN r36_1 1
noncomputable def o36_1_2 : Oper := opN r36_1 2
noncomputable def o36_1_3 : Oper := opN r36_1 3
noncomputable def o36_1_4 : Oper := opN r36_1 4
noncomputable def o36_1_5 : Oper := opN r36_1 5
noncomputable def o36_1_6 : Oper := opN r36_1 6
noncomputable def o36_1_7 : Oper := opN r36_1 7
noncomputable def o36_1_8 : Oper := opN r36_1 8
noncomputable def o36_1_9 : Oper := opN r36_1 9
theorem x36_3 : execA E C (fg 36) B 16 E0 N c36_3 s = regX (runA E C B 16 r36_1 r36_1.toList s) (fun s => gcM E0 [0, 1, 9, 10, 11, 12, 13, 14] (forget s.1 [0, 1, 9, 10, 11, 12, 13, 14], s.2)) := x_reg (ops := r36_1) (by rfl) (by rfl) s
theorem r36_1_l : r36_1.toList = [o36_1_0, o36_1_1, o36_1_2, o36_1_3, o36_1_4, o36_1_5, o36_1_6, o36_1_7, o36_1_8, o36_1_9] := nrfl rfl
theorem s36_1_0 : stepA E C B 16 r36_1 o36_1_0 (φ, H) = some (fput φ 10 (fget φ 0), H) := nrfl rfl
theorem s36_1_1 : stepA E C B 16 r36_1 o36_1_1 (φ, H) = some (fput φ 11 (fget φ 1), H) := nrfl rfl
theorem s36_1_2 : stepA E C B 16 r36_1 o36_1_2 (φ, H) = stp (some 12) φ H (aCall C (fun j => B + j * 16 + 12) true 60 [(fget φ 10), (fget φ 11)]) := nrfl rfl
theorem s36_1_3 : stepA E C B 16 r36_1 o36_1_3 (φ, H) = some (fput φ 9 (fget φ 12), H) := nrfl rfl
theorem s36_1_4 : stepA E C B 16 r36_1 o36_1_4 (φ, H) = stp (some 13) φ H (opExtract (fget φ 9) 0) := nrfl rfl
theorem s36_1_5 : stepA E C B 16 r36_1 o36_1_5 (φ, H) = stp (some 14) φ H (opExtract (fget φ 9) 1) := nrfl rfl
theorem s36_1_6 : stepA E C B 16 r36_1 o36_1_6 (φ, H) = stp (some 7) φ H (opBox (B + 7) (zeroCells E.T 3)) := nrfl rfl
theorem s36_1_7 : stepA E C B 16 r36_1 o36_1_7 (φ, H) = stp (some 8) φ H (opBox (B + 8) (zeroCells E.T 3)) := nrfl rfl
theorem s36_1_8 : stepA E C B 16 r36_1 o36_1_8 (φ, H) = stp none φ H (opStore E.T 3 (fget φ 7) (fget φ 13)) := nrfl rfl
theorem s36_1_9 : stepA E C B 16 r36_1 o36_1_9 (φ, H) = stp none φ H (opStore E.T 3 (fget φ 8) (fget φ 14)) := nrfl rfl
noncomputable def c36_4 : Code := kR c36_2
noncomputable def c36_5 : Code := kL c36_4
noncomputable def r36_2 : Array Oper := kO c36_5
noncomputable def o36_2_0 : Oper := opN r36_2 0
noncomputable def o36_2_1 : Oper := opN r36_2 1
theorem x36_5 : execA E C (fg 36) B 16 E0 N c36_5 s = regX (runA E C B 16 r36_2 r36_2.toList s) (fun s => gcM E0 [5, 7, 8, 15] (forget s.1 [5, 7, 8, 15], s.2)) := x_reg (ops := r36_2) (by rfl) (by rfl) s
theorem r36_2_l : r36_2.toList = [o36_2_0, o36_2_1] := nrfl rfl
theorem s36_2_0 : stepA E C B 16 r36_2 o36_2_0 (φ, H) = stp (some 15) φ H (.pure (.clo 61 [(fget φ 5), (fget φ 8), (fget φ 7)], [])) := nrfl rfl
theorem s36_2_1 : stepA E C B 16 r36_2 o36_2_1 (φ, H) = some (fput φ 6 (fget φ 15), H) := nrfl rfl
noncomputable def c36_6 : Code := kR c36_4
theorem x36_6 : execA E C (fg 36) B 16 E0 N c36_6 s = some (.ret, s) := x_ret (by rfl) s
theorem x36_4 : execA E C (fg 36) B 16 E0 N c36_4 s = seqX (execA E C (fg 36) B 16 E0 N c36_5 s) (execA E C (fg 36) B 16 E0 N c36_6) := x_seq (by rfl) s
theorem x36_2 : execA E C (fg 36) B 16 E0 N c36_2 s = seqX (execA E C (fg 36) B 16 E0 N c36_3 s) (execA E C (fg 36) B 16 E0 N c36_4) := x_seq (by rfl) s
theorem x36_0 : execA E C (fg 36) B 16 E0 N c36_0 s = seqX (execA E C (fg 36) B 16 E0 N c36_1 s) (execA E C (fg 36) B 16 E0 N c36_2) := x_seq (by rfl) s
theorem fi_36 : fInfo E 36 = some ⟨16, #[.tmp 6], c36_0⟩ := nrfl rfl
theorem b_36 (args : List AV) : bodyA E C fg N 36 args H B = bodyX E [.tmp 6] (execA E C (fg 36) B 16 H N c36_0 (frame0 args 0 [], H)) := bodyA_eq fi_36 args H
/-! ### f59: novaculite/prop.may -/
noncomputable def c59_0 : Code := kBody Proofs.Try.f59
noncomputable def c59_1 : Code := kL c59_0
noncomputable def r59_0 : Array Oper := kO c59_1
noncomputable def o59_0_0 : Oper := opN r59_0 0
theorem x59_1 : execA E C (fg 59) B 17 E0 N c59_1 s = regX (runA E C B 17 r59_0 r59_0.toList s) (fun s => gcM E0 [6] (forget s.1 [6], s.2)) := x_reg (ops := r59_0) (by rfl) (by rfl) s
theorem r59_0_l : r59_0.toList = [o59_0_0] := nrfl rfl
theorem s59_0_0 : stepA E C B 17 r59_0 o59_0_0 (φ, H) = some (fput φ 6 (.bool false), H) := nrfl rfl
noncomputable def c59_2 : Code := kR c59_0
noncomputable def c59_3 : Code := kL c59_2
noncomputable def r59_1 : Array Oper := kO c59_3
noncomputable def o59_1_0 : Oper := opN r59_1 0
noncomputable def o59_1_1 : Oper := opN r59_1 1
noncomputable def o59_1_2 : Oper := opN r59_1 2
noncomputable def o59_1_3 : Oper := opN r59_1 3
noncomputable def o59_1_4 : Oper := opN r59_1 4
noncomputable def o59_1_5 : Oper := opN r59_1 5
theorem x59_3 : execA E C (fg 59) B 17 E0 N c59_3 s = regX (runA E C B 17 r59_1 r59_1.toList s) (fun s => gcM E0 [2, 8, 9, 10, 11] (forget s.1 [2, 8, 9, 10, 11], s.2)) := x_reg (ops := r59_1) (by rfl) (by rfl) s
theorem r59_1_l : r59_1.toList = [o59_1_0, o59_1_1, o59_1_2, o59_1_3, o59_1_4, o59_1_5] := nrfl rfl
theorem s59_1_0 : stepA E C B 17 r59_1 o59_1_0 (φ, H) = some (fput φ 8 (fget φ 0), H) := nrfl rfl
theorem s59_1_1 : stepA E C B 17 r59_1 o59_1_1 (φ, H) = some (fput φ 9 (fget φ 1), H) := nrfl rfl
theorem s59_1_2 : stepA E C B 17 r59_1 o59_1_2 (φ, H) = some (fput φ 10 (fget φ 2), H) := nrfl rfl
theorem s59_1_3 : stepA E C B 17 r59_1 o59_1_3 (φ, H) = stp (some 11) φ H (aCall C (fun j => B + j * 17 + 11) true 36 [(fget φ 8), (fget φ 9), (fget φ 10)]) := nrfl rfl
theorem s59_1_4 : stepA E C B 17 r59_1 o59_1_4 (φ, H) = stp (some 7) φ H (opBox (B + 7) (zeroCells E.T 67)) := nrfl rfl
theorem s59_1_5 : stepA E C B 17 r59_1 o59_1_5 (φ, H) = stp none φ H (opStore E.T 67 (fget φ 7) (fget φ 11)) := nrfl rfl
noncomputable def c59_4 : Code := kR c59_2
noncomputable def c59_5 : Code := kL c59_4
noncomputable def r59_2 : Array Oper := kO c59_5
noncomputable def o59_2_0 : Oper := opN r59_2 0
noncomputable def o59_2_1 : Oper := opN r59_2 1
noncomputable def o59_2_2 : Oper := opN r59_2 2
noncomputable def o59_2_3 : Oper := opN r59_2 3
noncomputable def o59_2_4 : Oper := opN r59_2 4
noncomputable def o59_2_5 : Oper := opN r59_2 5
theorem x59_5 : execA E C (fg 59) B 17 E0 N c59_5 s = regX (runA E C B 17 r59_2 r59_2.toList s) (fun s => gcM E0 [0, 1, 7, 12, 13, 14, 15, 16] (forget s.1 [0, 1, 7, 12, 13, 14, 15, 16], s.2)) := x_reg (ops := r59_2) (by rfl) (by rfl) s
theorem r59_2_l : r59_2.toList = [o59_2_0, o59_2_1, o59_2_2, o59_2_3, o59_2_4, o59_2_5] := nrfl rfl
theorem s59_2_0 : stepA E C B 17 r59_2 o59_2_0 (φ, H) = some (fput φ 12 (fget φ 0), H) := nrfl rfl
theorem s59_2_1 : stepA E C B 17 r59_2 o59_2_1 (φ, H) = some (fput φ 13 (fget φ 1), H) := nrfl rfl
theorem s59_2_2 : stepA E C B 17 r59_2 o59_2_2 (φ, H) = stp (some 14) φ H (.pure (.clo 74 [(fget φ 7)], [])) := nrfl rfl
theorem s59_2_3 : stepA E C B 17 r59_2 o59_2_3 (φ, H) = stp (some 15) φ H (aCall C (fun j => B + j * 17 + 15) true 73 [(fget φ 12), (fget φ 13), (fget φ 14)]) := nrfl rfl
theorem s59_2_4 : stepA E C B 17 r59_2 o59_2_4 (φ, H) = stp (some 16) φ H (just (aBin E.T .gtr 3 (fget φ 15) (.int .i64 0))) := nrfl rfl
theorem s59_2_5 : stepA E C B 17 r59_2 o59_2_5 (φ, H) = some (fput φ 6 (fget φ 16), H) := nrfl rfl
noncomputable def c59_6 : Code := kR c59_4
theorem x59_6 : execA E C (fg 59) B 17 E0 N c59_6 s = some (.ret, s) := x_ret (by rfl) s
theorem x59_4 : execA E C (fg 59) B 17 E0 N c59_4 s = seqX (execA E C (fg 59) B 17 E0 N c59_5 s) (execA E C (fg 59) B 17 E0 N c59_6) := x_seq (by rfl) s
theorem x59_2 : execA E C (fg 59) B 17 E0 N c59_2 s = seqX (execA E C (fg 59) B 17 E0 N c59_3 s) (execA E C (fg 59) B 17 E0 N c59_4) := x_seq (by rfl) s
theorem x59_0 : execA E C (fg 59) B 17 E0 N c59_0 s = seqX (execA E C (fg 59) B 17 E0 N c59_1 s) (execA E C (fg 59) B 17 E0 N c59_2) := x_seq (by rfl) s
theorem fi_59 : fInfo E 59 = some ⟨17, #[.tmp 6], c59_0⟩ := nrfl rfl
theorem b_59 (args : List AV) : bodyA E C fg N 59 args H B = bodyX E [.tmp 6] (execA E C (fg 59) B 17 H N c59_0 (frame0 args 0 [], H)) := bodyA_eq fi_59 args H
/-! ### f33: novaculite/prop.weak -/
noncomputable def c33_0 : Code := kBody Proofs.Try.f33
noncomputable def c33_1 : Code := kL c33_0
noncomputable def r33_0 : Array Oper := kO c33_1
noncomputable def o33_0_0 : Oper := opN r33_0 0
theorem x33_1 : execA E C (fg 33) B 19 E0 N c33_1 s = regX (runA E C B 19 r33_0 r33_0.toList s) (fun s => gcM E0 [2] (forget s.1 [2], s.2)) := x_reg (ops := r33_0) (by rfl) (by rfl) s
theorem r33_0_l : r33_0.toList = [o33_0_0] := nrfl rfl
theorem s33_0_0 : stepA E C B 19 r33_0 o33_0_0 (φ, H) = some (fput φ 2 (.int .i64 0), H) := nrfl rfl
noncomputable def c33_2 : Code := kR c33_0
noncomputable def c33_3 : Code := kL c33_2
noncomputable def c33_4 : Code := kL c33_3
noncomputable def r33_1 : Array Oper := kO c33_4
noncomputable def o33_1_0 : Oper := opN r33_1 0
noncomputable def o33_1_1 : Oper := opN r33_1 1
noncomputable def o33_1_2 : Oper := opN r33_1 2
theorem x33_4 : execA E C (fg 33) B 19 E0 N c33_4 s = regX (runA E C B 19 r33_1 r33_1.toList s) (fun s => gcM E0 [4] (forget s.1 [4], s.2)) := x_reg (ops := r33_1) (by rfl) (by rfl) s
theorem r33_1_l : r33_1.toList = [o33_1_0, o33_1_1, o33_1_2] := nrfl rfl
theorem s33_1_0 : stepA E C B 19 r33_1 o33_1_0 (φ, H) = some (fput φ 4 (fget φ 0), H) := nrfl rfl
theorem s33_1_1 : stepA E C B 19 r33_1 o33_1_1 (φ, H) = stp (some 5) φ H (aBuiltin E.T (B + 5) .len #[27] [(fget φ 4)]) := nrfl rfl
theorem s33_1_2 : stepA E C B 19 r33_1 o33_1_2 (φ, H) = some (fput φ 6 (.int .i64 0), H) := nrfl rfl
noncomputable def c33_5 : Code := kR c33_3
noncomputable def c33_6 : Code := kB c33_5
noncomputable def c33_7 : Code := kB c33_6
noncomputable def c33_8 : Code := kL c33_7
noncomputable def r33_2 : Array Oper := kO c33_8
noncomputable def o33_2_0 : Oper := opN r33_2 0
theorem x33_8 : execA E C (fg 33) B 19 E0 N c33_8 s = regX (runA E C B 19 r33_2 r33_2.toList s) (fun s => gcM E0 [] (forget s.1 [], s.2)) := x_reg (ops := r33_2) (by rfl) (by rfl) s
theorem r33_2_l : r33_2.toList = [o33_2_0] := nrfl rfl
theorem s33_2_0 : stepA E C B 19 r33_2 o33_2_0 (φ, H) = stp (some 7) φ H (just (aBin E.T .lss 3 (fget φ 6) (fget φ 5))) := nrfl rfl
noncomputable def c33_9 : Code := kR c33_7
noncomputable def c33_10 : Code := kL c33_9
noncomputable def c33_11 : Code := kT c33_10
theorem x33_11 : execA E C (fg 33) B 19 E0 N c33_11 s = some (.normal, s) := x_skip (by rfl) s
noncomputable def c33_12 : Code := kE c33_10
theorem x33_12 : execA E C (fg 33) B 19 E0 N c33_12 s = some (.exit 0, s) := x_exit (by rfl) s
theorem x33_10 : execA E C (fg 33) B 19 E0 N c33_10 (φ, H) = condX (fget φ 7) (execA E C (fg 33) B 19 E0 N c33_11 (φ, H)) (execA E C (fg 33) B 19 E0 N c33_12 (φ, H)) := x_cond (by rfl) _
noncomputable def c33_13 : Code := kR c33_9
noncomputable def c33_14 : Code := kL c33_13
noncomputable def c33_15 : Code := kB c33_14
noncomputable def c33_16 : Code := kL c33_15
noncomputable def r33_3 : Array Oper := kO c33_16
noncomputable def o33_3_0 : Oper := opN r33_3 0
noncomputable def o33_3_1 : Oper := opN r33_3 1
theorem x33_16 : execA E C (fg 33) B 19 E0 N c33_16 s = regX (runA E C B 19 r33_3 r33_3.toList s) (fun s => gcM E0 [7, 8] (forget s.1 [7, 8], s.2)) := x_reg (ops := r33_3) (by rfl) (by rfl) s
theorem r33_3_l : r33_3.toList = [o33_3_0, o33_3_1] := nrfl rfl
theorem s33_3_0 : stepA E C B 19 r33_3 o33_3_0 (φ, H) = some (fput φ 8 (fget φ 6), H) := nrfl rfl
theorem s33_3_1 : stepA E C B 19 r33_3 o33_3_1 (φ, H) = some (fput φ 3 (fget φ 8), H) := nrfl rfl
noncomputable def c33_17 : Code := kR c33_15
noncomputable def c33_18 : Code := kL c33_17
noncomputable def r33_4 : Array Oper := kO c33_18
noncomputable def o33_4_0 : Oper := opN r33_4 0
noncomputable def o33_4_1 : Oper := opN r33_4 1
noncomputable def o33_4_2 : Oper := opN r33_4 2
noncomputable def o33_4_3 : Oper := opN r33_4 3
noncomputable def o33_4_4 : Oper := opN r33_4 4
noncomputable def o33_4_5 : Oper := opN r33_4 5
noncomputable def o33_4_6 : Oper := opN r33_4 6
noncomputable def o33_4_7 : Oper := opN r33_4 7
theorem x33_18 : execA E C (fg 33) B 19 E0 N c33_18 s = regX (runA E C B 19 r33_4 r33_4.toList s) (fun s => gcM E0 [9, 10, 11, 12, 13, 14, 15] (forget s.1 [9, 10, 11, 12, 13, 14, 15], s.2)) := x_reg (ops := r33_4) (by rfl) (by rfl) s
theorem r33_4_l : r33_4.toList = [o33_4_0, o33_4_1, o33_4_2, o33_4_3, o33_4_4, o33_4_5, o33_4_6, o33_4_7] := nrfl rfl
theorem s33_4_0 : stepA E C B 19 r33_4 o33_4_0 (φ, H) = some (fput φ 9 (fget φ 0), H) := nrfl rfl
theorem s33_4_1 : stepA E C B 19 r33_4 o33_4_1 (φ, H) = some (fput φ 10 (fget φ 3), H) := nrfl rfl
theorem s33_4_2 : stepA E C B 19 r33_4 o33_4_2 (φ, H) = stp (some 11) φ H (aCall C (fun j => B + j * 19 + 11) true 59 [(fget φ 9), (fget φ 10), (.int .i64 1)]) := nrfl rfl
theorem s33_4_3 : stepA E C B 19 r33_4 o33_4_3 (φ, H) = some (fput φ 12 (fget φ 11), H) := nrfl rfl
theorem s33_4_4 : stepA E C B 19 r33_4 o33_4_4 (φ, H) = gd φ 12 false (fun φ => some (fput φ 13 (.tup []), H)) (fun φ => some (fput φ 13 (fget φ 0), H)) := s_gd (j := 3) (oj := o33_4_3) rfl rfl rfl (fun _ => rfl) (fun _ => rfl)
theorem s33_4_5 : stepA E C B 19 r33_4 o33_4_5 (φ, H) = gd φ 12 false (fun φ => some (fput φ 14 (.tup []), H)) (fun φ => some (fput φ 14 (fget φ 3), H)) := s_gd (j := 3) (oj := o33_4_3) rfl rfl rfl (fun _ => rfl) (fun _ => rfl)
theorem s33_4_6 : stepA E C B 19 r33_4 o33_4_6 (φ, H) = gd φ 12 false (fun φ => some (fput φ 15 (.tup []), H)) (fun φ => stp (some 15) φ H (aCall C (fun j => B + j * 19 + 15) true 59 [(fget φ 13), (fget φ 14), (.int .i64 (-1))])) := s_gd (j := 3) (oj := o33_4_3) rfl rfl rfl (fun _ => rfl) (fun _ => rfl)
theorem s33_4_7 : stepA E C B 19 r33_4 o33_4_7 (φ, H) = stp (some 16) φ H (opPick (fget φ 12) (.bool true) (fget φ 15)) := nrfl rfl
noncomputable def c33_19 : Code := kR c33_17
noncomputable def c33_20 : Code := kT c33_19
noncomputable def c33_21 : Code := kL c33_20
noncomputable def r33_5 : Array Oper := kO c33_21
noncomputable def o33_5_0 : Oper := opN r33_5 0
noncomputable def o33_5_1 : Oper := opN r33_5 1
theorem x33_21 : execA E C (fg 33) B 19 E0 N c33_21 s = regX (runA E C B 19 r33_5 r33_5.toList s) (fun s => gcM E0 [0, 3, 5, 6, 16, 17] (forget s.1 [0, 3, 5, 6, 16, 17], s.2)) := x_reg (ops := r33_5) (by rfl) (by rfl) s
theorem r33_5_l : r33_5.toList = [o33_5_0, o33_5_1] := nrfl rfl
theorem s33_5_0 : stepA E C B 19 r33_5 o33_5_0 (φ, H) = some (fput φ 17 (fget φ 3), H) := nrfl rfl
theorem s33_5_1 : stepA E C B 19 r33_5 o33_5_1 (φ, H) = some (fput φ 2 (fget φ 17), H) := nrfl rfl
noncomputable def c33_22 : Code := kR c33_20
theorem x33_22 : execA E C (fg 33) B 19 E0 N c33_22 s = some (.ret, s) := x_ret (by rfl) s
theorem x33_20 : execA E C (fg 33) B 19 E0 N c33_20 s = seqX (execA E C (fg 33) B 19 E0 N c33_21 s) (execA E C (fg 33) B 19 E0 N c33_22) := x_seq (by rfl) s
noncomputable def c33_23 : Code := kE c33_19
theorem x33_23 : execA E C (fg 33) B 19 E0 N c33_23 s = some (.normal, s) := x_skip (by rfl) s
theorem x33_19 : execA E C (fg 33) B 19 E0 N c33_19 (φ, H) = condX (fget φ 16) (execA E C (fg 33) B 19 E0 N c33_20 (φ, H)) (execA E C (fg 33) B 19 E0 N c33_23 (φ, H)) := x_cond (by rfl) _
theorem x33_17 : execA E C (fg 33) B 19 E0 N c33_17 s = seqX (execA E C (fg 33) B 19 E0 N c33_18 s) (execA E C (fg 33) B 19 E0 N c33_19) := x_seq (by rfl) s
theorem x33_15 : execA E C (fg 33) B 19 E0 N c33_15 s = seqX (execA E C (fg 33) B 19 E0 N c33_16 s) (execA E C (fg 33) B 19 E0 N c33_17) := x_seq (by rfl) s
theorem x33_14 : execA E C (fg 33) B 19 E0 N c33_14 s = blockX 1 (fun s => (forget s.1 [3, 16], s.2)) (execA E C (fg 33) B 19 E0 N c33_15 s) := x_block (by rfl) (by rfl) s
noncomputable def c33_24 : Code := kR c33_13
noncomputable def r33_6 : Array Oper := kO c33_24
noncomputable def o33_6_0 : Oper := opN r33_6 0
noncomputable def o33_6_1 : Oper := opN r33_6 1
theorem x33_24 : execA E C (fg 33) B 19 E0 N c33_24 s = regX (runA E C B 19 r33_6 r33_6.toList s) (fun s => gcM E0 [18] (forget s.1 [18], s.2)) := x_reg (ops := r33_6) (by rfl) (by rfl) s
theorem r33_6_l : r33_6.toList = [o33_6_0, o33_6_1] := nrfl rfl
theorem s33_6_0 : stepA E C B 19 r33_6 o33_6_0 (φ, H) = stp (some 18) φ H (just (aBin E.T .add 3 (fget φ 6) (.int .i64 1))) := nrfl rfl
theorem s33_6_1 : stepA E C B 19 r33_6 o33_6_1 (φ, H) = some (fput φ 6 (fget φ 18), H) := nrfl rfl
theorem x33_13 : execA E C (fg 33) B 19 E0 N c33_13 s = seqX (execA E C (fg 33) B 19 E0 N c33_14 s) (execA E C (fg 33) B 19 E0 N c33_24) := x_seq (by rfl) s
theorem x33_9 : execA E C (fg 33) B 19 E0 N c33_9 s = seqX (execA E C (fg 33) B 19 E0 N c33_10 s) (execA E C (fg 33) B 19 E0 N c33_13) := x_seq (by rfl) s
theorem x33_7 : execA E C (fg 33) B 19 E0 N c33_7 s = seqX (execA E C (fg 33) B 19 E0 N c33_8 s) (execA E C (fg 33) B 19 E0 N c33_9) := x_seq (by rfl) s
-- a loop of f33: x33_6; body c33_7; slots [6, 5, 0]
theorem x33_6 : execA E C (fg 33) B 19 E0 N c33_6 s = iterA (execA E C (fg 33) B 19 E0 N c33_7) (headA E0) N s := x_loop (by rfl) s
theorem x33_5 : execA E C (fg 33) B 19 E0 N c33_5 s = blockX 0 (fun s => (forget s.1 [0, 5, 6, 7], s.2)) (execA E C (fg 33) B 19 E0 N c33_6 s) := x_block (by rfl) (by rfl) s
theorem x33_3 : execA E C (fg 33) B 19 E0 N c33_3 s = seqX (execA E C (fg 33) B 19 E0 N c33_4 s) (execA E C (fg 33) B 19 E0 N c33_5) := x_seq (by rfl) s
noncomputable def c33_25 : Code := kR c33_2
noncomputable def c33_26 : Code := kL c33_25
noncomputable def r33_7 : Array Oper := kO c33_26
noncomputable def o33_7_0 : Oper := opN r33_7 0
theorem x33_26 : execA E C (fg 33) B 19 E0 N c33_26 s = regX (runA E C B 19 r33_7 r33_7.toList s) (fun s => gcM E0 [] (forget s.1 [], s.2)) := x_reg (ops := r33_7) (by rfl) (by rfl) s
theorem r33_7_l : r33_7.toList = [o33_7_0] := nrfl rfl
theorem s33_7_0 : stepA E C B 19 r33_7 o33_7_0 (φ, H) = some (fput φ 2 (.int .i64 (-1)), H) := nrfl rfl
noncomputable def c33_27 : Code := kR c33_25
theorem x33_27 : execA E C (fg 33) B 19 E0 N c33_27 s = some (.ret, s) := x_ret (by rfl) s
theorem x33_25 : execA E C (fg 33) B 19 E0 N c33_25 s = seqX (execA E C (fg 33) B 19 E0 N c33_26 s) (execA E C (fg 33) B 19 E0 N c33_27) := x_seq (by rfl) s
theorem x33_2 : execA E C (fg 33) B 19 E0 N c33_2 s = seqX (execA E C (fg 33) B 19 E0 N c33_3 s) (execA E C (fg 33) B 19 E0 N c33_25) := x_seq (by rfl) s
theorem x33_0 : execA E C (fg 33) B 19 E0 N c33_0 s = seqX (execA E C (fg 33) B 19 E0 N c33_1 s) (execA E C (fg 33) B 19 E0 N c33_2) := x_seq (by rfl) s
theorem fi_33 : fInfo E 33 = some ⟨19, #[.tmp 2], c33_0⟩ := nrfl rfl
theorem b_33 (args : List AV) : bodyA E C fg N 33 args H B = bodyX E [.tmp 2] (execA E C (fg 33) B 19 H N c33_0 (frame0 args 0 [], H)) := bodyA_eq fi_33 args H
/-! ### f9: novaculite/prop.Stands -/
noncomputable def c9_0 : Code := kBody Proofs.Try.f9
noncomputable def c9_1 : Code := kL c9_0
noncomputable def r9_0 : Array Oper := kO c9_1
noncomputable def o9_0_0 : Oper := opN r9_0 0
noncomputable def o9_0_1 : Oper := opN r9_0 1
theorem x9_1 : execA E C (fg 9) B 13 E0 N c9_1 s = regX (runA E C B 13 r9_0 r9_0.toList s) (fun s => gcM E0 [2, 3] (forget s.1 [2, 3], s.2)) := x_reg (ops := r9_0) (by rfl) (by rfl) s
theorem r9_0_l : r9_0.toList = [o9_0_0, o9_0_1] := nrfl rfl
theorem s9_0_0 : stepA E C B 13 r9_0 o9_0_0 (φ, H) = some (fput φ 2 (.bool false), H) := nrfl rfl
theorem s9_0_1 : stepA E C B 13 r9_0 o9_0_1 (φ, H) = some (fput φ 3 (.int .i64 0), H) := nrfl rfl
noncomputable def c9_2 : Code := kR c9_0
noncomputable def c9_3 : Code := kL c9_2
noncomputable def c9_4 : Code := kL c9_3
noncomputable def r9_1 : Array Oper := kO c9_4
noncomputable def o9_1_0 : Oper := opN r9_1 0
noncomputable def o9_1_1 : Oper := opN r9_1 1
noncomputable def o9_1_2 : Oper := opN r9_1 2
theorem x9_4 : execA E C (fg 9) B 13 E0 N c9_4 s = regX (runA E C B 13 r9_1 r9_1.toList s) (fun s => gcM E0 [5, 6] (forget s.1 [5, 6], s.2)) := x_reg (ops := r9_1) (by rfl) (by rfl) s
theorem r9_1_l : r9_1.toList = [o9_1_0, o9_1_1, o9_1_2] := nrfl rfl
theorem s9_1_0 : stepA E C B 13 r9_1 o9_1_0 (φ, H) = some (fput φ 5 (fget φ 0), H) := nrfl rfl
theorem s9_1_1 : stepA E C B 13 r9_1 o9_1_1 (φ, H) = stp (some 6) φ H (aCall C (fun j => B + j * 13 + 6) true 11 [(fget φ 5)]) := nrfl rfl
theorem s9_1_2 : stepA E C B 13 r9_1 o9_1_2 (φ, H) = some (fput φ 4 (fget φ 6), H) := nrfl rfl
noncomputable def c9_5 : Code := kR c9_3
noncomputable def c9_6 : Code := kL c9_5
noncomputable def r9_2 : Array Oper := kO c9_6
noncomputable def o9_2_0 : Oper := opN r9_2 0
noncomputable def o9_2_1 : Oper := opN r9_2 1
theorem x9_6 : execA E C (fg 9) B 13 E0 N c9_6 s = regX (runA E C B 13 r9_2 r9_2.toList s) (fun s => gcM E0 [7] (forget s.1 [7], s.2)) := x_reg (ops := r9_2) (by rfl) (by rfl) s
theorem r9_2_l : r9_2.toList = [o9_2_0, o9_2_1] := nrfl rfl
theorem s9_2_0 : stepA E C B 13 r9_2 o9_2_0 (φ, H) = some (fput φ 7 (fget φ 4), H) := nrfl rfl
theorem s9_2_1 : stepA E C B 13 r9_2 o9_2_1 (φ, H) = stp (some 8) φ H (just (aBin E.T .neq 30 (fget φ 7) (.int .i64 0))) := nrfl rfl
noncomputable def c9_7 : Code := kR c9_5
noncomputable def c9_8 : Code := kT c9_7
noncomputable def c9_9 : Code := kL c9_8
noncomputable def r9_3 : Array Oper := kO c9_9
noncomputable def o9_3_0 : Oper := opN r9_3 0
noncomputable def o9_3_1 : Oper := opN r9_3 1
noncomputable def o9_3_2 : Oper := opN r9_3 2
theorem x9_9 : execA E C (fg 9) B 13 E0 N c9_9 s = regX (runA E C B 13 r9_3 r9_3.toList s) (fun s => gcM E0 [0, 4, 8, 9] (forget s.1 [0, 4, 8, 9], s.2)) := x_reg (ops := r9_3) (by rfl) (by rfl) s
theorem r9_3_l : r9_3.toList = [o9_3_0, o9_3_1, o9_3_2] := nrfl rfl
theorem s9_3_0 : stepA E C B 13 r9_3 o9_3_0 (φ, H) = some (fput φ 9 (fget φ 4), H) := nrfl rfl
theorem s9_3_1 : stepA E C B 13 r9_3 o9_3_1 (φ, H) = some (fput φ 2 (.bool false), H) := nrfl rfl
theorem s9_3_2 : stepA E C B 13 r9_3 o9_3_2 (φ, H) = some (fput φ 3 (fget φ 9), H) := nrfl rfl
noncomputable def c9_10 : Code := kR c9_8
theorem x9_10 : execA E C (fg 9) B 13 E0 N c9_10 s = some (.ret, s) := x_ret (by rfl) s
theorem x9_8 : execA E C (fg 9) B 13 E0 N c9_8 s = seqX (execA E C (fg 9) B 13 E0 N c9_9 s) (execA E C (fg 9) B 13 E0 N c9_10) := x_seq (by rfl) s
noncomputable def c9_11 : Code := kE c9_7
theorem x9_11 : execA E C (fg 9) B 13 E0 N c9_11 s = some (.normal, s) := x_skip (by rfl) s
theorem x9_7 : execA E C (fg 9) B 13 E0 N c9_7 (φ, H) = condX (fget φ 8) (execA E C (fg 9) B 13 E0 N c9_8 (φ, H)) (execA E C (fg 9) B 13 E0 N c9_11 (φ, H)) := x_cond (by rfl) _
theorem x9_5 : execA E C (fg 9) B 13 E0 N c9_5 s = seqX (execA E C (fg 9) B 13 E0 N c9_6 s) (execA E C (fg 9) B 13 E0 N c9_7) := x_seq (by rfl) s
theorem x9_3 : execA E C (fg 9) B 13 E0 N c9_3 s = seqX (execA E C (fg 9) B 13 E0 N c9_4 s) (execA E C (fg 9) B 13 E0 N c9_5) := x_seq (by rfl) s
noncomputable def c9_12 : Code := kR c9_2
noncomputable def c9_13 : Code := kL c9_12
noncomputable def r9_4 : Array Oper := kO c9_13
noncomputable def o9_4_0 : Oper := opN r9_4 0
noncomputable def o9_4_1 : Oper := opN r9_4 1
noncomputable def o9_4_2 : Oper := opN r9_4 2
noncomputable def o9_4_3 : Oper := opN r9_4 3
noncomputable def o9_4_4 : Oper := opN r9_4 4
theorem x9_13 : execA E C (fg 9) B 13 E0 N c9_13 s = regX (runA E C B 13 r9_4 r9_4.toList s) (fun s => gcM E0 [0, 4, 8, 10, 11, 12] (forget s.1 [0, 4, 8, 10, 11, 12], s.2)) := x_reg (ops := r9_4) (by rfl) (by rfl) s
theorem r9_4_l : r9_4.toList = [o9_4_0, o9_4_1, o9_4_2, o9_4_3, o9_4_4] := nrfl rfl
theorem s9_4_0 : stepA E C B 13 r9_4 o9_4_0 (φ, H) = some (fput φ 10 (fget φ 0), H) := nrfl rfl
theorem s9_4_1 : stepA E C B 13 r9_4 o9_4_1 (φ, H) = stp (some 11) φ H (aCall C (fun j => B + j * 13 + 11) true 33 [(fget φ 10)]) := nrfl rfl
theorem s9_4_2 : stepA E C B 13 r9_4 o9_4_2 (φ, H) = stp (some 12) φ H (just (aBin E.T .lss 3 (fget φ 11) (.int .i64 0))) := nrfl rfl
theorem s9_4_3 : stepA E C B 13 r9_4 o9_4_3 (φ, H) = some (fput φ 2 (fget φ 12), H) := nrfl rfl
theorem s9_4_4 : stepA E C B 13 r9_4 o9_4_4 (φ, H) = some (fput φ 3 (.int .i64 0), H) := nrfl rfl
noncomputable def c9_14 : Code := kR c9_12
theorem x9_14 : execA E C (fg 9) B 13 E0 N c9_14 s = some (.ret, s) := x_ret (by rfl) s
theorem x9_12 : execA E C (fg 9) B 13 E0 N c9_12 s = seqX (execA E C (fg 9) B 13 E0 N c9_13 s) (execA E C (fg 9) B 13 E0 N c9_14) := x_seq (by rfl) s
theorem x9_2 : execA E C (fg 9) B 13 E0 N c9_2 s = seqX (execA E C (fg 9) B 13 E0 N c9_3 s) (execA E C (fg 9) B 13 E0 N c9_12) := x_seq (by rfl) s
theorem x9_0 : execA E C (fg 9) B 13 E0 N c9_0 s = seqX (execA E C (fg 9) B 13 E0 N c9_1 s) (execA E C (fg 9) B 13 E0 N c9_2) := x_seq (by rfl) s
theorem fi_9 : fInfo E 9 = some ⟨13, #[.tmp 2, .tmp 3], c9_0⟩ := nrfl rfl
theorem b_9 (args : List AV) : bodyA E C fg N 9 args H B = bodyX E [.tmp 2, .tmp 3] (execA E C (fg 9) B 13 H N c9_0 (frame0 args 0 [], H)) := bodyA_eq fi_9 args H
/-! ### f10: novaculite/prop.Tips -/
noncomputable def c10_0 : Code := kBody Proofs.Try.f10
noncomputable def c10_1 : Code := kL c10_0
noncomputable def r10_0 : Array Oper := kO c10_1
noncomputable def o10_0_0 : Oper := opN r10_0 0
noncomputable def o10_0_1 : Oper := opN r10_0 1
theorem x10_1 : execA E C (fg 10) B 16 E0 N c10_1 s = regX (runA E C B 16 r10_0 r10_0.toList s) (fun s => gcM E0 [2, 3] (forget s.1 [2, 3], s.2)) := x_reg (ops := r10_0) (by rfl) (by rfl) s
theorem r10_0_l : r10_0.toList = [o10_0_0, o10_0_1] := nrfl rfl
theorem s10_0_0 : stepA E C B 16 r10_0 o10_0_0 (φ, H) = some (fput φ 2 (.int .i64 0), H) := nrfl rfl
theorem s10_0_1 : stepA E C B 16 r10_0 o10_0_1 (φ, H) = some (fput φ 3 (.int .i64 0), H) := nrfl rfl
noncomputable def c10_2 : Code := kR c10_0
noncomputable def c10_3 : Code := kL c10_2
noncomputable def c10_4 : Code := kL c10_3
noncomputable def r10_1 : Array Oper := kO c10_4
noncomputable def o10_1_0 : Oper := opN r10_1 0
noncomputable def o10_1_1 : Oper := opN r10_1 1
noncomputable def o10_1_2 : Oper := opN r10_1 2
theorem x10_4 : execA E C (fg 10) B 16 E0 N c10_4 s = regX (runA E C B 16 r10_1 r10_1.toList s) (fun s => gcM E0 [6, 7] (forget s.1 [6, 7], s.2)) := x_reg (ops := r10_1) (by rfl) (by rfl) s
theorem r10_1_l : r10_1.toList = [o10_1_0, o10_1_1, o10_1_2] := nrfl rfl
theorem s10_1_0 : stepA E C B 16 r10_1 o10_1_0 (φ, H) = some (fput φ 6 (fget φ 0), H) := nrfl rfl
theorem s10_1_1 : stepA E C B 16 r10_1 o10_1_1 (φ, H) = stp (some 7) φ H (aCall C (fun j => B + j * 16 + 7) true 11 [(fget φ 6)]) := nrfl rfl
theorem s10_1_2 : stepA E C B 16 r10_1 o10_1_2 (φ, H) = some (fput φ 4 (fget φ 7), H) := nrfl rfl
noncomputable def c10_5 : Code := kR c10_3
noncomputable def c10_6 : Code := kL c10_5
noncomputable def r10_2 : Array Oper := kO c10_6
noncomputable def o10_2_0 : Oper := opN r10_2 0
noncomputable def o10_2_1 : Oper := opN r10_2 1
theorem x10_6 : execA E C (fg 10) B 16 E0 N c10_6 s = regX (runA E C B 16 r10_2 r10_2.toList s) (fun s => gcM E0 [8] (forget s.1 [8], s.2)) := x_reg (ops := r10_2) (by rfl) (by rfl) s
theorem r10_2_l : r10_2.toList = [o10_2_0, o10_2_1] := nrfl rfl
theorem s10_2_0 : stepA E C B 16 r10_2 o10_2_0 (φ, H) = some (fput φ 8 (fget φ 4), H) := nrfl rfl
theorem s10_2_1 : stepA E C B 16 r10_2 o10_2_1 (φ, H) = stp (some 9) φ H (just (aBin E.T .neq 30 (fget φ 8) (.int .i64 0))) := nrfl rfl
noncomputable def c10_7 : Code := kR c10_5
noncomputable def c10_8 : Code := kT c10_7
noncomputable def c10_9 : Code := kL c10_8
noncomputable def r10_3 : Array Oper := kO c10_9
noncomputable def o10_3_0 : Oper := opN r10_3 0
noncomputable def o10_3_1 : Oper := opN r10_3 1
noncomputable def o10_3_2 : Oper := opN r10_3 2
theorem x10_9 : execA E C (fg 10) B 16 E0 N c10_9 s = regX (runA E C B 16 r10_3 r10_3.toList s) (fun s => gcM E0 [0, 4, 9, 10] (forget s.1 [0, 4, 9, 10], s.2)) := x_reg (ops := r10_3) (by rfl) (by rfl) s
theorem r10_3_l : r10_3.toList = [o10_3_0, o10_3_1, o10_3_2] := nrfl rfl
theorem s10_3_0 : stepA E C B 16 r10_3 o10_3_0 (φ, H) = some (fput φ 10 (fget φ 4), H) := nrfl rfl
theorem s10_3_1 : stepA E C B 16 r10_3 o10_3_1 (φ, H) = some (fput φ 2 (.int .i64 0), H) := nrfl rfl
theorem s10_3_2 : stepA E C B 16 r10_3 o10_3_2 (φ, H) = some (fput φ 3 (fget φ 10), H) := nrfl rfl
noncomputable def c10_10 : Code := kR c10_8
theorem x10_10 : execA E C (fg 10) B 16 E0 N c10_10 s = some (.ret, s) := x_ret (by rfl) s
theorem x10_8 : execA E C (fg 10) B 16 E0 N c10_8 s = seqX (execA E C (fg 10) B 16 E0 N c10_9 s) (execA E C (fg 10) B 16 E0 N c10_10) := x_seq (by rfl) s
noncomputable def c10_11 : Code := kE c10_7
theorem x10_11 : execA E C (fg 10) B 16 E0 N c10_11 s = some (.normal, s) := x_skip (by rfl) s
theorem x10_7 : execA E C (fg 10) B 16 E0 N c10_7 (φ, H) = condX (fget φ 9) (execA E C (fg 10) B 16 E0 N c10_8 (φ, H)) (execA E C (fg 10) B 16 E0 N c10_11 (φ, H)) := x_cond (by rfl) _
theorem x10_5 : execA E C (fg 10) B 16 E0 N c10_5 s = seqX (execA E C (fg 10) B 16 E0 N c10_6 s) (execA E C (fg 10) B 16 E0 N c10_7) := x_seq (by rfl) s
theorem x10_3 : execA E C (fg 10) B 16 E0 N c10_3 s = seqX (execA E C (fg 10) B 16 E0 N c10_4 s) (execA E C (fg 10) B 16 E0 N c10_5) := x_seq (by rfl) s
noncomputable def c10_12 : Code := kR c10_2
noncomputable def c10_13 : Code := kL c10_12
noncomputable def r10_4 : Array Oper := kO c10_13
noncomputable def o10_4_0 : Oper := opN r10_4 0
noncomputable def o10_4_1 : Oper := opN r10_4 1
noncomputable def o10_4_2 : Oper := opN r10_4 2
theorem x10_13 : execA E C (fg 10) B 16 E0 N c10_13 s = regX (runA E C B 16 r10_4 r10_4.toList s) (fun s => gcM E0 [0, 4, 9, 11, 12] (forget s.1 [0, 4, 9, 11, 12], s.2)) := x_reg (ops := r10_4) (by rfl) (by rfl) s
theorem r10_4_l : r10_4.toList = [o10_4_0, o10_4_1, o10_4_2] := nrfl rfl
theorem s10_4_0 : stepA E C B 16 r10_4 o10_4_0 (φ, H) = some (fput φ 11 (fget φ 0), H) := nrfl rfl
theorem s10_4_1 : stepA E C B 16 r10_4 o10_4_1 (φ, H) = stp (some 12) φ H (aCall C (fun j => B + j * 16 + 12) true 33 [(fget φ 11)]) := nrfl rfl
theorem s10_4_2 : stepA E C B 16 r10_4 o10_4_2 (φ, H) = some (fput φ 5 (fget φ 12), H) := nrfl rfl
noncomputable def c10_14 : Code := kR c10_12
noncomputable def c10_15 : Code := kL c10_14
noncomputable def c10_16 : Code := kL c10_15
noncomputable def r10_5 : Array Oper := kO c10_16
noncomputable def o10_5_0 : Oper := opN r10_5 0
noncomputable def o10_5_1 : Oper := opN r10_5 1
theorem x10_16 : execA E C (fg 10) B 16 E0 N c10_16 s = regX (runA E C B 16 r10_5 r10_5.toList s) (fun s => gcM E0 [13] (forget s.1 [13], s.2)) := x_reg (ops := r10_5) (by rfl) (by rfl) s
theorem r10_5_l : r10_5.toList = [o10_5_0, o10_5_1] := nrfl rfl
theorem s10_5_0 : stepA E C B 16 r10_5 o10_5_0 (φ, H) = some (fput φ 13 (fget φ 5), H) := nrfl rfl
theorem s10_5_1 : stepA E C B 16 r10_5 o10_5_1 (φ, H) = stp (some 14) φ H (just (aBin E.T .lss 3 (fget φ 13) (.int .i64 0))) := nrfl rfl
noncomputable def c10_17 : Code := kR c10_15
noncomputable def c10_18 : Code := kT c10_17
noncomputable def c10_19 : Code := kL c10_18
noncomputable def r10_6 : Array Oper := kO c10_19
noncomputable def o10_6_0 : Oper := opN r10_6 0
noncomputable def o10_6_1 : Oper := opN r10_6 1
theorem x10_19 : execA E C (fg 10) B 16 E0 N c10_19 s = regX (runA E C B 16 r10_6 r10_6.toList s) (fun s => gcM E0 [5, 14] (forget s.1 [5, 14], s.2)) := x_reg (ops := r10_6) (by rfl) (by rfl) s
theorem r10_6_l : r10_6.toList = [o10_6_0, o10_6_1] := nrfl rfl
theorem s10_6_0 : stepA E C B 16 r10_6 o10_6_0 (φ, H) = some (fput φ 2 (.int .i64 0), H) := nrfl rfl
theorem s10_6_1 : stepA E C B 16 r10_6 o10_6_1 (φ, H) = some (fput φ 3 (.int .i64 13), H) := nrfl rfl
noncomputable def c10_20 : Code := kR c10_18
theorem x10_20 : execA E C (fg 10) B 16 E0 N c10_20 s = some (.ret, s) := x_ret (by rfl) s
theorem x10_18 : execA E C (fg 10) B 16 E0 N c10_18 s = seqX (execA E C (fg 10) B 16 E0 N c10_19 s) (execA E C (fg 10) B 16 E0 N c10_20) := x_seq (by rfl) s
noncomputable def c10_21 : Code := kE c10_17
theorem x10_21 : execA E C (fg 10) B 16 E0 N c10_21 s = some (.normal, s) := x_skip (by rfl) s
theorem x10_17 : execA E C (fg 10) B 16 E0 N c10_17 (φ, H) = condX (fget φ 14) (execA E C (fg 10) B 16 E0 N c10_18 (φ, H)) (execA E C (fg 10) B 16 E0 N c10_21 (φ, H)) := x_cond (by rfl) _
theorem x10_15 : execA E C (fg 10) B 16 E0 N c10_15 s = seqX (execA E C (fg 10) B 16 E0 N c10_16 s) (execA E C (fg 10) B 16 E0 N c10_17) := x_seq (by rfl) s
noncomputable def c10_22 : Code := kR c10_14
noncomputable def c10_23 : Code := kL c10_22
noncomputable def r10_7 : Array Oper := kO c10_23
noncomputable def o10_7_0 : Oper := opN r10_7 0
noncomputable def o10_7_1 : Oper := opN r10_7 1
noncomputable def o10_7_2 : Oper := opN r10_7 2
theorem x10_23 : execA E C (fg 10) B 16 E0 N c10_23 s = regX (runA E C B 16 r10_7 r10_7.toList s) (fun s => gcM E0 [5, 14, 15] (forget s.1 [5, 14, 15], s.2)) := x_reg (ops := r10_7) (by rfl) (by rfl) s
theorem r10_7_l : r10_7.toList = [o10_7_0, o10_7_1, o10_7_2] := nrfl rfl
theorem s10_7_0 : stepA E C B 16 r10_7 o10_7_0 (φ, H) = some (fput φ 15 (fget φ 5), H) := nrfl rfl
theorem s10_7_1 : stepA E C B 16 r10_7 o10_7_1 (φ, H) = some (fput φ 2 (fget φ 15), H) := nrfl rfl
theorem s10_7_2 : stepA E C B 16 r10_7 o10_7_2 (φ, H) = some (fput φ 3 (.int .i64 0), H) := nrfl rfl
noncomputable def c10_24 : Code := kR c10_22
theorem x10_24 : execA E C (fg 10) B 16 E0 N c10_24 s = some (.ret, s) := x_ret (by rfl) s
theorem x10_22 : execA E C (fg 10) B 16 E0 N c10_22 s = seqX (execA E C (fg 10) B 16 E0 N c10_23 s) (execA E C (fg 10) B 16 E0 N c10_24) := x_seq (by rfl) s
theorem x10_14 : execA E C (fg 10) B 16 E0 N c10_14 s = seqX (execA E C (fg 10) B 16 E0 N c10_15 s) (execA E C (fg 10) B 16 E0 N c10_22) := x_seq (by rfl) s
theorem x10_12 : execA E C (fg 10) B 16 E0 N c10_12 s = seqX (execA E C (fg 10) B 16 E0 N c10_13 s) (execA E C (fg 10) B 16 E0 N c10_14) := x_seq (by rfl) s
theorem x10_2 : execA E C (fg 10) B 16 E0 N c10_2 s = seqX (execA E C (fg 10) B 16 E0 N c10_3 s) (execA E C (fg 10) B 16 E0 N c10_12) := x_seq (by rfl) s
theorem x10_0 : execA E C (fg 10) B 16 E0 N c10_0 s = seqX (execA E C (fg 10) B 16 E0 N c10_1 s) (execA E C (fg 10) B 16 E0 N c10_2) := x_seq (by rfl) s
theorem fi_10 : fInfo E 10 = some ⟨16, #[.tmp 2, .tmp 3], c10_0⟩ := nrfl rfl
theorem b_10 (args : List AV) : bodyA E C fg N 10 args H B = bodyX E [.tmp 2, .tmp 3] (execA E C (fg 10) B 16 H N c10_0 (frame0 args 0 [], H)) := bodyA_eq fi_10 args H
/-! ### f40: novaculite/prop.found -/
noncomputable def c40_0 : Code := kBody Proofs.Try.f40
noncomputable def c40_1 : Code := kL c40_0
noncomputable def r40_0 : Array Oper := kO c40_1
noncomputable def o40_0_0 : Oper := opN r40_0 0
theorem x40_1 : execA E C (fg 40) B 21 E0 N c40_1 s = regX (runA E C B 21 r40_0 r40_0.toList s) (fun s => gcM E0 [4] (forget s.1 [4], s.2)) := x_reg (ops := r40_0) (by rfl) (by rfl) s
theorem r40_0_l : r40_0.toList = [o40_0_0] := nrfl rfl
theorem s40_0_0 : stepA E C B 21 r40_0 o40_0_0 (φ, H) = some (fput φ 4 (.int .i64 0), H) := nrfl rfl
noncomputable def c40_2 : Code := kR c40_0
noncomputable def c40_3 : Code := kL c40_2
noncomputable def r40_1 : Array Oper := kO c40_3
noncomputable def o40_1_0 : Oper := opN r40_1 0
noncomputable def o40_1_1 : Oper := opN r40_1 1
noncomputable def o40_1_2 : Oper := opN r40_1 2
theorem x40_3 : execA E C (fg 40) B 21 E0 N c40_3 s = regX (runA E C B 21 r40_1 r40_1.toList s) (fun s => gcM E0 [6, 7] (forget s.1 [6, 7], s.2)) := x_reg (ops := r40_1) (by rfl) (by rfl) s
theorem r40_1_l : r40_1.toList = [o40_1_0, o40_1_1, o40_1_2] := nrfl rfl
theorem s40_1_0 : stepA E C B 21 r40_1 o40_1_0 (φ, H) = some (fput φ 6 (fget φ 0), H) := nrfl rfl
theorem s40_1_1 : stepA E C B 21 r40_1 o40_1_1 (φ, H) = stp (some 7) φ H (aCall C (fun j => B + j * 21 + 7) true 11 [(fget φ 6)]) := nrfl rfl
theorem s40_1_2 : stepA E C B 21 r40_1 o40_1_2 (φ, H) = some (fput φ 5 (fget φ 7), H) := nrfl rfl
noncomputable def c40_4 : Code := kR c40_2
noncomputable def c40_5 : Code := kL c40_4
noncomputable def c40_6 : Code := kL c40_5
noncomputable def r40_2 : Array Oper := kO c40_6
noncomputable def o40_2_0 : Oper := opN r40_2 0
noncomputable def o40_2_1 : Oper := opN r40_2 1
noncomputable def o40_2_2 : Oper := opN r40_2 2
noncomputable def o40_2_3 : Oper := opN r40_2 3
noncomputable def o40_2_4 : Oper := opN r40_2 4
noncomputable def o40_2_5 : Oper := opN r40_2 5
noncomputable def o40_2_6 : Oper := opN r40_2 6
noncomputable def o40_2_7 : Oper := opN r40_2 7
noncomputable def o40_2_8 : Oper := opN r40_2 8
noncomputable def o40_2_9 : Oper := opN r40_2 9
noncomputable def o40_2_10 : Oper := opN r40_2 10
noncomputable def o40_2_11 : Oper := opN r40_2 11
theorem x40_6 : execA E C (fg 40) B 21 E0 N c40_6 s = regX (runA E C B 21 r40_2 r40_2.toList s) (fun s => gcM E0 [0, 1, 8, 9, 10, 11, 12, 13, 14, 15, 16, 17, 18] (forget s.1 [0, 1, 8, 9, 10, 11, 12, 13, 14, 15, 16, 17, 18], s.2)) := x_reg (ops := r40_2) (by rfl) (by rfl) s
theorem r40_2_l : r40_2.toList = [o40_2_0, o40_2_1, o40_2_2, o40_2_3, o40_2_4, o40_2_5, o40_2_6, o40_2_7, o40_2_8, o40_2_9, o40_2_10, o40_2_11] := nrfl rfl
theorem s40_2_0 : stepA E C B 21 r40_2 o40_2_0 (φ, H) = some (fput φ 8 (fget φ 5), H) := nrfl rfl
theorem s40_2_1 : stepA E C B 21 r40_2 o40_2_1 (φ, H) = stp (some 9) φ H (just (aBin E.T .eql 30 (fget φ 8) (.int .i64 0))) := nrfl rfl
theorem s40_2_2 : stepA E C B 21 r40_2 o40_2_2 (φ, H) = some (fput φ 10 (fget φ 9), H) := nrfl rfl
theorem s40_2_3 : stepA E C B 21 r40_2 o40_2_3 (φ, H) = gd φ 10 true (fun φ => some (fput φ 11 (.tup []), H)) (fun φ => some (fput φ 11 (fget φ 1), H)) := s_gd (j := 2) (oj := o40_2_2) rfl rfl rfl (fun _ => rfl) (fun _ => rfl)
theorem s40_2_4 : stepA E C B 21 r40_2 o40_2_4 (φ, H) = gd φ 10 true (fun φ => some (fput φ 12 (.tup []), H)) (fun φ => stp (some 12) φ H (just (aBin E.T .lss 3 (fget φ 11) (.int .i64 0)))) := s_gd (j := 2) (oj := o40_2_2) rfl rfl rfl (fun _ => rfl) (fun _ => rfl)
theorem s40_2_5 : stepA E C B 21 r40_2 o40_2_5 (φ, H) = gd φ 10 true (fun φ => some (fput φ 13 (.tup []), H)) (fun φ => some (fput φ 13 (fget φ 12), H)) := s_gd (j := 2) (oj := o40_2_2) rfl rfl rfl (fun _ => rfl) (fun _ => rfl)
theorem s40_2_6 : stepA E C B 21 r40_2 o40_2_6 (φ, H) = gd φ 13 false (fun φ => some (fput φ 14 (.tup []), H)) (fun φ => some (fput φ 14 (fget φ 1), H)) := s_gd (j := 5) (oj := o40_2_5) rfl rfl rfl (fun _ => rfl) (fun _ => rfl)
theorem s40_2_7 : stepA E C B 21 r40_2 o40_2_7 (φ, H) = gd φ 13 false (fun φ => some (fput φ 15 (.tup []), H)) (fun φ => some (fput φ 15 (fget φ 0), H)) := s_gd (j := 5) (oj := o40_2_5) rfl rfl rfl (fun _ => rfl) (fun _ => rfl)
theorem s40_2_8 : stepA E C B 21 r40_2 o40_2_8 (φ, H) = gd φ 13 false (fun φ => some (fput φ 16 (.tup []), H)) (fun φ => stp (some 16) φ H (aBuiltin E.T (B + 16) .len #[27] [(fget φ 15)])) := s_gd (j := 5) (oj := o40_2_5) rfl rfl rfl (fun _ => rfl) (fun _ => rfl)
theorem s40_2_9 : stepA E C B 21 r40_2 o40_2_9 (φ, H) = gd φ 13 false (fun φ => some (fput φ 17 (.tup []), H)) (fun φ => stp (some 17) φ H (just (aBin E.T .geq 3 (fget φ 14) (fget φ 16)))) := s_gd (j := 5) (oj := o40_2_5) rfl rfl rfl (fun _ => rfl) (fun _ => rfl)
theorem s40_2_10 : stepA E C B 21 r40_2 o40_2_10 (φ, H) = gd φ 10 true (fun φ => some (fput φ 18 (.tup []), H)) (fun φ => stp (some 18) φ H (opPick (fget φ 13) (.bool true) (fget φ 17))) := s_gd (j := 2) (oj := o40_2_2) rfl rfl rfl (fun _ => rfl) (fun _ => rfl)
theorem s40_2_11 : stepA E C B 21 r40_2 o40_2_11 (φ, H) = stp (some 19) φ H (opPick (fget φ 10) (fget φ 18) (.bool false)) := nrfl rfl
noncomputable def c40_7 : Code := kR c40_5
noncomputable def c40_8 : Code := kT c40_7
noncomputable def r40_3 : Array Oper := kO c40_8
noncomputable def o40_3_0 : Oper := opN r40_3 0
theorem x40_8 : execA E C (fg 40) B 21 E0 N c40_8 s = regX (runA E C B 21 r40_3 r40_3.toList s) (fun s => gcM E0 [19] (forget s.1 [19], s.2)) := x_reg (ops := r40_3) (by rfl) (by rfl) s
theorem r40_3_l : r40_3.toList = [o40_3_0] := nrfl rfl
theorem s40_3_0 : stepA E C B 21 r40_3 o40_3_0 (φ, H) = some (fput φ 5 (.int .i64 2), H) := nrfl rfl
noncomputable def c40_9 : Code := kE c40_7
theorem x40_9 : execA E C (fg 40) B 21 E0 N c40_9 s = some (.normal, s) := x_skip (by rfl) s
theorem x40_7 : execA E C (fg 40) B 21 E0 N c40_7 (φ, H) = condX (fget φ 19) (execA E C (fg 40) B 21 E0 N c40_8 (φ, H)) (execA E C (fg 40) B 21 E0 N c40_9 (φ, H)) := x_cond (by rfl) _
theorem x40_5 : execA E C (fg 40) B 21 E0 N c40_5 s = seqX (execA E C (fg 40) B 21 E0 N c40_6 s) (execA E C (fg 40) B 21 E0 N c40_7) := x_seq (by rfl) s
noncomputable def c40_10 : Code := kR c40_4
noncomputable def c40_11 : Code := kL c40_10
noncomputable def r40_4 : Array Oper := kO c40_11
noncomputable def o40_4_0 : Oper := opN r40_4 0
noncomputable def o40_4_1 : Oper := opN r40_4 1
theorem x40_11 : execA E C (fg 40) B 21 E0 N c40_11 s = regX (runA E C B 21 r40_4 r40_4.toList s) (fun s => gcM E0 [5, 19, 20] (forget s.1 [5, 19, 20], s.2)) := x_reg (ops := r40_4) (by rfl) (by rfl) s
theorem r40_4_l : r40_4.toList = [o40_4_0, o40_4_1] := nrfl rfl
theorem s40_4_0 : stepA E C B 21 r40_4 o40_4_0 (φ, H) = some (fput φ 20 (fget φ 5), H) := nrfl rfl
theorem s40_4_1 : stepA E C B 21 r40_4 o40_4_1 (φ, H) = some (fput φ 4 (fget φ 20), H) := nrfl rfl
noncomputable def c40_12 : Code := kR c40_10
theorem x40_12 : execA E C (fg 40) B 21 E0 N c40_12 s = some (.ret, s) := x_ret (by rfl) s
theorem x40_10 : execA E C (fg 40) B 21 E0 N c40_10 s = seqX (execA E C (fg 40) B 21 E0 N c40_11 s) (execA E C (fg 40) B 21 E0 N c40_12) := x_seq (by rfl) s
theorem x40_4 : execA E C (fg 40) B 21 E0 N c40_4 s = seqX (execA E C (fg 40) B 21 E0 N c40_5 s) (execA E C (fg 40) B 21 E0 N c40_10) := x_seq (by rfl) s
theorem x40_2 : execA E C (fg 40) B 21 E0 N c40_2 s = seqX (execA E C (fg 40) B 21 E0 N c40_3 s) (execA E C (fg 40) B 21 E0 N c40_4) := x_seq (by rfl) s
theorem x40_0 : execA E C (fg 40) B 21 E0 N c40_0 s = seqX (execA E C (fg 40) B 21 E0 N c40_1 s) (execA E C (fg 40) B 21 E0 N c40_2) := x_seq (by rfl) s
theorem fi_40 : fInfo E 40 = some ⟨21, #[.tmp 4], c40_0⟩ := nrfl rfl
theorem b_40 (args : List AV) : bodyA E C fg N 40 args H B = bodyX E [.tmp 4] (execA E C (fg 40) B 21 H N c40_0 (frame0 args 0 [], H)) := bodyA_eq fi_40 args H
/-! ### f35: novaculite/prop.sided -/
noncomputable def c35_0 : Code := kBody Proofs.Try.f35
noncomputable def c35_1 : Code := kL c35_0
noncomputable def r35_0 : Array Oper := kO c35_1
noncomputable def o35_0_0 : Oper := opN r35_0 0
theorem x35_1 : execA E C (fg 35) B 29 E0 N c35_1 s = regX (runA E C B 29 r35_0 r35_0.toList s) (fun s => gcM E0 [6] (forget s.1 [6], s.2)) := x_reg (ops := r35_0) (by rfl) (by rfl) s
theorem r35_0_l : r35_0.toList = [o35_0_0] := nrfl rfl
theorem s35_0_0 : stepA E C B 29 r35_0 o35_0_0 (φ, H) = some (fput φ 6 (.int .i64 0), H) := nrfl rfl
noncomputable def c35_2 : Code := kR c35_0
noncomputable def c35_3 : Code := kL c35_2
noncomputable def r35_1 : Array Oper := kO c35_3
noncomputable def o35_1_0 : Oper := opN r35_1 0
noncomputable def o35_1_1 : Oper := opN r35_1 1
noncomputable def o35_1_2 : Oper := opN r35_1 2
noncomputable def o35_1_3 : Oper := opN r35_1 3
theorem x35_3 : execA E C (fg 35) B 29 E0 N c35_3 s = regX (runA E C B 29 r35_1 r35_1.toList s) (fun s => gcM E0 [0, 8, 9, 10] (forget s.1 [0, 8, 9, 10], s.2)) := x_reg (ops := r35_1) (by rfl) (by rfl) s
theorem r35_1_l : r35_1.toList = [o35_1_0, o35_1_1, o35_1_2, o35_1_3] := nrfl rfl
theorem s35_1_0 : stepA E C B 29 r35_1 o35_1_0 (φ, H) = some (fput φ 8 (fget φ 0), H) := nrfl rfl
theorem s35_1_1 : stepA E C B 29 r35_1 o35_1_1 (φ, H) = some (fput φ 9 (fget φ 1), H) := nrfl rfl
theorem s35_1_2 : stepA E C B 29 r35_1 o35_1_2 (φ, H) = stp (some 10) φ H (aCall C (fun j => B + j * 29 + 10) true 40 [(fget φ 8), (fget φ 9)]) := nrfl rfl
theorem s35_1_3 : stepA E C B 29 r35_1 o35_1_3 (φ, H) = some (fput φ 7 (fget φ 10), H) := nrfl rfl
noncomputable def c35_4 : Code := kR c35_2
noncomputable def c35_5 : Code := kL c35_4
noncomputable def c35_6 : Code := kB c35_5
noncomputable def c35_7 : Code := kL c35_6
noncomputable def r35_2 : Array Oper := kO c35_7
noncomputable def o35_2_0 : Oper := opN r35_2 0
noncomputable def o35_2_1 : Oper := opN r35_2 1
noncomputable def o35_2_2 : Oper := opN r35_2 2
theorem x35_7 : execA E C (fg 35) B 29 E0 N c35_7 s = regX (runA E C B 29 r35_2 r35_2.toList s) (fun s => gcM E0 [12, 13] (forget s.1 [12, 13], s.2)) := x_reg (ops := r35_2) (by rfl) (by rfl) s
theorem r35_2_l : r35_2.toList = [o35_2_0, o35_2_1, o35_2_2] := nrfl rfl
theorem s35_2_0 : stepA E C B 29 r35_2 o35_2_0 (φ, H) = some (fput φ 12 (fget φ 7), H) := nrfl rfl
theorem s35_2_1 : stepA E C B 29 r35_2 o35_2_1 (φ, H) = stp (some 13) φ H (just (aBin E.T .neq 30 (fget φ 12) (.int .i64 0))) := nrfl rfl
theorem s35_2_2 : stepA E C B 29 r35_2 o35_2_2 (φ, H) = some (fput φ 11 (fget φ 13), H) := nrfl rfl
noncomputable def c35_8 : Code := kR c35_6
noncomputable def c35_9 : Code := kT c35_8
noncomputable def c35_10 : Code := kL c35_9
noncomputable def r35_3 : Array Oper := kO c35_10
noncomputable def o35_3_0 : Oper := opN r35_3 0
noncomputable def o35_3_1 : Oper := opN r35_3 1
theorem x35_10 : execA E C (fg 35) B 29 E0 N c35_10 s = regX (runA E C B 29 r35_3 r35_3.toList s) (fun s => gcM E0 [1, 2, 7, 11, 14] (forget s.1 [1, 2, 7, 11, 14], s.2)) := x_reg (ops := r35_3) (by rfl) (by rfl) s
theorem r35_3_l : r35_3.toList = [o35_3_0, o35_3_1] := nrfl rfl
theorem s35_3_0 : stepA E C B 29 r35_3 o35_3_0 (φ, H) = some (fput φ 14 (fget φ 7), H) := nrfl rfl
theorem s35_3_1 : stepA E C B 29 r35_3 o35_3_1 (φ, H) = some (fput φ 6 (fget φ 14), H) := nrfl rfl
noncomputable def c35_11 : Code := kR c35_9
theorem x35_11 : execA E C (fg 35) B 29 E0 N c35_11 s = some (.ret, s) := x_ret (by rfl) s
theorem x35_9 : execA E C (fg 35) B 29 E0 N c35_9 s = seqX (execA E C (fg 35) B 29 E0 N c35_10 s) (execA E C (fg 35) B 29 E0 N c35_11) := x_seq (by rfl) s
noncomputable def c35_12 : Code := kE c35_8
noncomputable def c35_13 : Code := kL c35_12
noncomputable def r35_4 : Array Oper := kO c35_13
noncomputable def o35_4_0 : Oper := opN r35_4 0
noncomputable def o35_4_1 : Oper := opN r35_4 1
noncomputable def o35_4_2 : Oper := opN r35_4 2
noncomputable def o35_4_3 : Oper := opN r35_4 3
noncomputable def o35_4_4 : Oper := opN r35_4 4
noncomputable def o35_4_5 : Oper := opN r35_4 5
noncomputable def o35_4_6 : Oper := opN r35_4 6
theorem x35_13 : execA E C (fg 35) B 29 E0 N c35_13 s = regX (runA E C B 29 r35_4 r35_4.toList s) (fun s => gcM E0 [7, 11, 16, 17, 18, 19, 20, 21] (forget s.1 [7, 11, 16, 17, 18, 19, 20, 21], s.2)) := x_reg (ops := r35_4) (by rfl) (by rfl) s
theorem r35_4_l : r35_4.toList = [o35_4_0, o35_4_1, o35_4_2, o35_4_3, o35_4_4, o35_4_5, o35_4_6] := nrfl rfl
theorem s35_4_0 : stepA E C B 29 r35_4 o35_4_0 (φ, H) = some (fput φ 16 (fget φ 2), H) := nrfl rfl
theorem s35_4_1 : stepA E C B 29 r35_4 o35_4_1 (φ, H) = stp (some 17) φ H (just (aBin E.T .neq 3 (fget φ 16) (.int .i64 1))) := nrfl rfl
theorem s35_4_2 : stepA E C B 29 r35_4 o35_4_2 (φ, H) = some (fput φ 18 (fget φ 17), H) := nrfl rfl
theorem s35_4_3 : stepA E C B 29 r35_4 o35_4_3 (φ, H) = gd φ 18 true (fun φ => some (fput φ 19 (.tup []), H)) (fun φ => some (fput φ 19 (fget φ 2), H)) := s_gd (j := 2) (oj := o35_4_2) rfl rfl rfl (fun _ => rfl) (fun _ => rfl)
theorem s35_4_4 : stepA E C B 29 r35_4 o35_4_4 (φ, H) = gd φ 18 true (fun φ => some (fput φ 20 (.tup []), H)) (fun φ => stp (some 20) φ H (just (aBin E.T .neq 3 (fget φ 19) (.int .i64 (-1))))) := s_gd (j := 2) (oj := o35_4_2) rfl rfl rfl (fun _ => rfl) (fun _ => rfl)
theorem s35_4_5 : stepA E C B 29 r35_4 o35_4_5 (φ, H) = stp (some 21) φ H (opPick (fget φ 18) (fget φ 20) (.bool false)) := nrfl rfl
theorem s35_4_6 : stepA E C B 29 r35_4 o35_4_6 (φ, H) = some (fput φ 15 (fget φ 21), H) := nrfl rfl
noncomputable def c35_14 : Code := kR c35_12
noncomputable def c35_15 : Code := kT c35_14
noncomputable def c35_16 : Code := kL c35_15
noncomputable def r35_5 : Array Oper := kO c35_16
noncomputable def o35_5_0 : Oper := opN r35_5 0
theorem x35_16 : execA E C (fg 35) B 29 E0 N c35_16 s = regX (runA E C B 29 r35_5 r35_5.toList s) (fun s => gcM E0 [1, 2, 15] (forget s.1 [1, 2, 15], s.2)) := x_reg (ops := r35_5) (by rfl) (by rfl) s
theorem r35_5_l : r35_5.toList = [o35_5_0] := nrfl rfl
theorem s35_5_0 : stepA E C B 29 r35_5 o35_5_0 (φ, H) = some (fput φ 6 (.int .i64 1), H) := nrfl rfl
noncomputable def c35_17 : Code := kR c35_15
theorem x35_17 : execA E C (fg 35) B 29 E0 N c35_17 s = some (.ret, s) := x_ret (by rfl) s
theorem x35_15 : execA E C (fg 35) B 29 E0 N c35_15 s = seqX (execA E C (fg 35) B 29 E0 N c35_16 s) (execA E C (fg 35) B 29 E0 N c35_17) := x_seq (by rfl) s
noncomputable def c35_18 : Code := kE c35_14
noncomputable def c35_19 : Code := kL c35_18
noncomputable def r35_6 : Array Oper := kO c35_19
noncomputable def o35_6_0 : Oper := opN r35_6 0
noncomputable def o35_6_1 : Oper := opN r35_6 1
noncomputable def o35_6_2 : Oper := opN r35_6 2
noncomputable def o35_6_3 : Oper := opN r35_6 3
noncomputable def o35_6_4 : Oper := opN r35_6 4
noncomputable def o35_6_5 : Oper := opN r35_6 5
noncomputable def o35_6_6 : Oper := opN r35_6 6
theorem x35_19 : execA E C (fg 35) B 29 E0 N c35_19 s = regX (runA E C B 29 r35_6 r35_6.toList s) (fun s => gcM E0 [1, 2, 15, 23, 24, 25, 26, 27, 28] (forget s.1 [1, 2, 15, 23, 24, 25, 26, 27, 28], s.2)) := x_reg (ops := r35_6) (by rfl) (by rfl) s
theorem r35_6_l : r35_6.toList = [o35_6_0, o35_6_1, o35_6_2, o35_6_3, o35_6_4, o35_6_5, o35_6_6] := nrfl rfl
theorem s35_6_0 : stepA E C B 29 r35_6 o35_6_0 (φ, H) = some (fput φ 23 (fget φ 2), H) := nrfl rfl
theorem s35_6_1 : stepA E C B 29 r35_6 o35_6_1 (φ, H) = stp (some 24) φ H (just (aBin E.T .lss 3 (fget φ 23) (.int .i64 0))) := nrfl rfl
theorem s35_6_2 : stepA E C B 29 r35_6 o35_6_2 (φ, H) = some (fput φ 25 (fget φ 24), H) := nrfl rfl
theorem s35_6_3 : stepA E C B 29 r35_6 o35_6_3 (φ, H) = gd φ 25 true (fun φ => some (fput φ 26 (.tup []), H)) (fun φ => some (fput φ 26 (fget φ 1), H)) := s_gd (j := 2) (oj := o35_6_2) rfl rfl rfl (fun _ => rfl) (fun _ => rfl)
theorem s35_6_4 : stepA E C B 29 r35_6 o35_6_4 (φ, H) = gd φ 25 true (fun φ => some (fput φ 27 (.tup []), H)) (fun φ => stp (some 27) φ H (just (aBin E.T .eql 3 (fget φ 26) (.int .i64 0)))) := s_gd (j := 2) (oj := o35_6_2) rfl rfl rfl (fun _ => rfl) (fun _ => rfl)
theorem s35_6_5 : stepA E C B 29 r35_6 o35_6_5 (φ, H) = stp (some 28) φ H (opPick (fget φ 25) (fget φ 27) (.bool false)) := nrfl rfl
theorem s35_6_6 : stepA E C B 29 r35_6 o35_6_6 (φ, H) = some (fput φ 22 (fget φ 28), H) := nrfl rfl
noncomputable def c35_20 : Code := kR c35_18
noncomputable def c35_21 : Code := kT c35_20
noncomputable def c35_22 : Code := kL c35_21
noncomputable def r35_7 : Array Oper := kO c35_22
noncomputable def o35_7_0 : Oper := opN r35_7 0
theorem x35_22 : execA E C (fg 35) B 29 E0 N c35_22 s = regX (runA E C B 29 r35_7 r35_7.toList s) (fun s => gcM E0 [22] (forget s.1 [22], s.2)) := x_reg (ops := r35_7) (by rfl) (by rfl) s
theorem r35_7_l : r35_7.toList = [o35_7_0] := nrfl rfl
theorem s35_7_0 : stepA E C B 29 r35_7 o35_7_0 (φ, H) = some (fput φ 6 (.int .i64 21), H) := nrfl rfl
noncomputable def c35_23 : Code := kR c35_21
theorem x35_23 : execA E C (fg 35) B 29 E0 N c35_23 s = some (.ret, s) := x_ret (by rfl) s
theorem x35_21 : execA E C (fg 35) B 29 E0 N c35_21 s = seqX (execA E C (fg 35) B 29 E0 N c35_22 s) (execA E C (fg 35) B 29 E0 N c35_23) := x_seq (by rfl) s
noncomputable def c35_24 : Code := kE c35_20
theorem x35_24 : execA E C (fg 35) B 29 E0 N c35_24 s = some (.normal, s) := x_skip (by rfl) s
theorem x35_20 : execA E C (fg 35) B 29 E0 N c35_20 (φ, H) = condX (fget φ 22) (execA E C (fg 35) B 29 E0 N c35_21 (φ, H)) (execA E C (fg 35) B 29 E0 N c35_24 (φ, H)) := x_cond (by rfl) _
theorem x35_18 : execA E C (fg 35) B 29 E0 N c35_18 s = seqX (execA E C (fg 35) B 29 E0 N c35_19 s) (execA E C (fg 35) B 29 E0 N c35_20) := x_seq (by rfl) s
theorem x35_14 : execA E C (fg 35) B 29 E0 N c35_14 (φ, H) = condX (fget φ 15) (execA E C (fg 35) B 29 E0 N c35_15 (φ, H)) (execA E C (fg 35) B 29 E0 N c35_18 (φ, H)) := x_cond (by rfl) _
theorem x35_12 : execA E C (fg 35) B 29 E0 N c35_12 s = seqX (execA E C (fg 35) B 29 E0 N c35_13 s) (execA E C (fg 35) B 29 E0 N c35_14) := x_seq (by rfl) s
theorem x35_8 : execA E C (fg 35) B 29 E0 N c35_8 (φ, H) = condX (fget φ 11) (execA E C (fg 35) B 29 E0 N c35_9 (φ, H)) (execA E C (fg 35) B 29 E0 N c35_12 (φ, H)) := x_cond (by rfl) _
theorem x35_6 : execA E C (fg 35) B 29 E0 N c35_6 s = seqX (execA E C (fg 35) B 29 E0 N c35_7 s) (execA E C (fg 35) B 29 E0 N c35_8) := x_seq (by rfl) s
theorem x35_5 : execA E C (fg 35) B 29 E0 N c35_5 s = blockX 0 (fun s => (forget s.1 [22], s.2)) (execA E C (fg 35) B 29 E0 N c35_6 s) := x_block (by rfl) (by rfl) s
noncomputable def c35_25 : Code := kR c35_4
noncomputable def c35_26 : Code := kL c35_25
noncomputable def r35_8 : Array Oper := kO c35_26
noncomputable def o35_8_0 : Oper := opN r35_8 0
theorem x35_26 : execA E C (fg 35) B 29 E0 N c35_26 s = regX (runA E C B 29 r35_8 r35_8.toList s) (fun s => gcM E0 [] (forget s.1 [], s.2)) := x_reg (ops := r35_8) (by rfl) (by rfl) s
theorem r35_8_l : r35_8.toList = [o35_8_0] := nrfl rfl
theorem s35_8_0 : stepA E C B 29 r35_8 o35_8_0 (φ, H) = some (fput φ 6 (.int .i64 0), H) := nrfl rfl
noncomputable def c35_27 : Code := kR c35_25
theorem x35_27 : execA E C (fg 35) B 29 E0 N c35_27 s = some (.ret, s) := x_ret (by rfl) s
theorem x35_25 : execA E C (fg 35) B 29 E0 N c35_25 s = seqX (execA E C (fg 35) B 29 E0 N c35_26 s) (execA E C (fg 35) B 29 E0 N c35_27) := x_seq (by rfl) s
theorem x35_4 : execA E C (fg 35) B 29 E0 N c35_4 s = seqX (execA E C (fg 35) B 29 E0 N c35_5 s) (execA E C (fg 35) B 29 E0 N c35_25) := x_seq (by rfl) s
theorem x35_2 : execA E C (fg 35) B 29 E0 N c35_2 s = seqX (execA E C (fg 35) B 29 E0 N c35_3 s) (execA E C (fg 35) B 29 E0 N c35_4) := x_seq (by rfl) s
theorem x35_0 : execA E C (fg 35) B 29 E0 N c35_0 s = seqX (execA E C (fg 35) B 29 E0 N c35_1 s) (execA E C (fg 35) B 29 E0 N c35_2) := x_seq (by rfl) s
theorem fi_35 : fInfo E 35 = some ⟨29, #[.tmp 6], c35_0⟩ := nrfl rfl
theorem b_35 (args : List AV) : bodyA E C fg N 35 args H B = bodyX E [.tmp 6] (execA E C (fg 35) B 29 H N c35_0 (frame0 args 0 [], H)) := bodyA_eq fi_35 args H
/-! ### f14: novaculite/prop.Worst -/
noncomputable def c14_0 : Code := kBody Proofs.Try.f14
noncomputable def c14_1 : Code := kL c14_0
noncomputable def r14_0 : Array Oper := kO c14_1
noncomputable def o14_0_0 : Oper := opN r14_0 0
noncomputable def o14_0_1 : Oper := opN r14_0 1
theorem x14_1 : execA E C (fg 14) B 48 E0 N c14_1 s = regX (runA E C B 48 r14_0 r14_0.toList s) (fun s => gcM E0 [6, 7] (forget s.1 [6, 7], s.2)) := x_reg (ops := r14_0) (by rfl) (by rfl) s
theorem r14_0_l : r14_0.toList = [o14_0_0, o14_0_1] := nrfl rfl
theorem s14_0_0 : stepA E C B 48 r14_0 o14_0_0 (φ, H) = some (fput φ 6 (.nilsl), H) := nrfl rfl
theorem s14_0_1 : stepA E C B 48 r14_0 o14_0_1 (φ, H) = some (fput φ 7 (.int .i64 0), H) := nrfl rfl
noncomputable def c14_2 : Code := kR c14_0
noncomputable def c14_3 : Code := kL c14_2
noncomputable def c14_4 : Code := kL c14_3
noncomputable def r14_1 : Array Oper := kO c14_4
noncomputable def o14_1_0 : Oper := opN r14_1 0
noncomputable def o14_1_1 : Oper := opN r14_1 1
noncomputable def o14_1_2 : Oper := opN r14_1 2
noncomputable def o14_1_3 : Oper := opN r14_1 3
noncomputable def o14_1_4 : Oper := opN r14_1 4
theorem x14_4 : execA E C (fg 14) B 48 E0 N c14_4 s = regX (runA E C B 48 r14_1 r14_1.toList s) (fun s => gcM E0 [14, 15, 16, 17] (forget s.1 [14, 15, 16, 17], s.2)) := x_reg (ops := r14_1) (by rfl) (by rfl) s
theorem r14_1_l : r14_1.toList = [o14_1_0, o14_1_1, o14_1_2, o14_1_3, o14_1_4] := nrfl rfl
theorem s14_1_0 : stepA E C B 48 r14_1 o14_1_0 (φ, H) = some (fput φ 14 (fget φ 0), H) := nrfl rfl
theorem s14_1_1 : stepA E C B 48 r14_1 o14_1_1 (φ, H) = some (fput φ 15 (fget φ 1), H) := nrfl rfl
theorem s14_1_2 : stepA E C B 48 r14_1 o14_1_2 (φ, H) = some (fput φ 16 (fget φ 2), H) := nrfl rfl
theorem s14_1_3 : stepA E C B 48 r14_1 o14_1_3 (φ, H) = stp (some 17) φ H (aCall C (fun j => B + j * 48 + 17) true 35 [(fget φ 14), (fget φ 15), (fget φ 16)]) := nrfl rfl
theorem s14_1_4 : stepA E C B 48 r14_1 o14_1_4 (φ, H) = some (fput φ 8 (fget φ 17), H) := nrfl rfl
noncomputable def c14_5 : Code := kR c14_3
noncomputable def c14_6 : Code := kL c14_5
noncomputable def r14_2 : Array Oper := kO c14_6
noncomputable def o14_2_0 : Oper := opN r14_2 0
noncomputable def o14_2_1 : Oper := opN r14_2 1
theorem x14_6 : execA E C (fg 14) B 48 E0 N c14_6 s = regX (runA E C B 48 r14_2 r14_2.toList s) (fun s => gcM E0 [18] (forget s.1 [18], s.2)) := x_reg (ops := r14_2) (by rfl) (by rfl) s
theorem r14_2_l : r14_2.toList = [o14_2_0, o14_2_1] := nrfl rfl
theorem s14_2_0 : stepA E C B 48 r14_2 o14_2_0 (φ, H) = some (fput φ 18 (fget φ 8), H) := nrfl rfl
theorem s14_2_1 : stepA E C B 48 r14_2 o14_2_1 (φ, H) = stp (some 19) φ H (just (aBin E.T .neq 30 (fget φ 18) (.int .i64 0))) := nrfl rfl
noncomputable def c14_7 : Code := kR c14_5
noncomputable def c14_8 : Code := kT c14_7
noncomputable def c14_9 : Code := kL c14_8
noncomputable def r14_3 : Array Oper := kO c14_9
noncomputable def o14_3_0 : Oper := opN r14_3 0
noncomputable def o14_3_1 : Oper := opN r14_3 1
noncomputable def o14_3_2 : Oper := opN r14_3 2
theorem x14_9 : execA E C (fg 14) B 48 E0 N c14_9 s = regX (runA E C B 48 r14_3 r14_3.toList s) (fun s => gcM E0 [0, 1, 2, 8, 19, 20] (forget s.1 [0, 1, 2, 8, 19, 20], s.2)) := x_reg (ops := r14_3) (by rfl) (by rfl) s
theorem r14_3_l : r14_3.toList = [o14_3_0, o14_3_1, o14_3_2] := nrfl rfl
theorem s14_3_0 : stepA E C B 48 r14_3 o14_3_0 (φ, H) = some (fput φ 20 (fget φ 8), H) := nrfl rfl
theorem s14_3_1 : stepA E C B 48 r14_3 o14_3_1 (φ, H) = some (fput φ 6 (.nilsl), H) := nrfl rfl
theorem s14_3_2 : stepA E C B 48 r14_3 o14_3_2 (φ, H) = some (fput φ 7 (fget φ 20), H) := nrfl rfl
noncomputable def c14_10 : Code := kR c14_8
theorem x14_10 : execA E C (fg 14) B 48 E0 N c14_10 s = some (.ret, s) := x_ret (by rfl) s
theorem x14_8 : execA E C (fg 14) B 48 E0 N c14_8 s = seqX (execA E C (fg 14) B 48 E0 N c14_9 s) (execA E C (fg 14) B 48 E0 N c14_10) := x_seq (by rfl) s
noncomputable def c14_11 : Code := kE c14_7
theorem x14_11 : execA E C (fg 14) B 48 E0 N c14_11 s = some (.normal, s) := x_skip (by rfl) s
theorem x14_7 : execA E C (fg 14) B 48 E0 N c14_7 (φ, H) = condX (fget φ 19) (execA E C (fg 14) B 48 E0 N c14_8 (φ, H)) (execA E C (fg 14) B 48 E0 N c14_11 (φ, H)) := x_cond (by rfl) _
theorem x14_5 : execA E C (fg 14) B 48 E0 N c14_5 s = seqX (execA E C (fg 14) B 48 E0 N c14_6 s) (execA E C (fg 14) B 48 E0 N c14_7) := x_seq (by rfl) s
theorem x14_3 : execA E C (fg 14) B 48 E0 N c14_3 s = seqX (execA E C (fg 14) B 48 E0 N c14_4 s) (execA E C (fg 14) B 48 E0 N c14_5) := x_seq (by rfl) s
noncomputable def c14_12 : Code := kR c14_2
noncomputable def c14_13 : Code := kL c14_12
noncomputable def r14_4 : Array Oper := kO c14_13
noncomputable def o14_4_0 : Oper := opN r14_4 0
noncomputable def o14_4_1 : Oper := opN r14_4 1
noncomputable def o14_4_2 : Oper := opN r14_4 2
noncomputable def o14_4_3 : Oper := opN r14_4 3
noncomputable def o14_4_4 : Oper := opN r14_4 4
theorem x14_13 : execA E C (fg 14) B 48 E0 N c14_13 s = regX (runA E C B 48 r14_4 r14_4.toList s) (fun s => gcM E0 [2, 8, 19, 21, 22, 23, 24] (forget s.1 [2, 8, 19, 21, 22, 23, 24], s.2)) := x_reg (ops := r14_4) (by rfl) (by rfl) s
theorem r14_4_l : r14_4.toList = [o14_4_0, o14_4_1, o14_4_2, o14_4_3, o14_4_4] := nrfl rfl
theorem s14_4_0 : stepA E C B 48 r14_4 o14_4_0 (φ, H) = some (fput φ 21 (fget φ 0), H) := nrfl rfl
theorem s14_4_1 : stepA E C B 48 r14_4 o14_4_1 (φ, H) = some (fput φ 22 (fget φ 1), H) := nrfl rfl
theorem s14_4_2 : stepA E C B 48 r14_4 o14_4_2 (φ, H) = some (fput φ 23 (fget φ 2), H) := nrfl rfl
theorem s14_4_3 : stepA E C B 48 r14_4 o14_4_3 (φ, H) = stp (some 24) φ H (aCall C (fun j => B + j * 48 + 24) true 36 [(fget φ 21), (fget φ 22), (fget φ 23)]) := nrfl rfl
theorem s14_4_4 : stepA E C B 48 r14_4 o14_4_4 (φ, H) = some (fput φ 9 (fget φ 24), H) := nrfl rfl
noncomputable def c14_14 : Code := kR c14_12
noncomputable def c14_15 : Code := kL c14_14
noncomputable def r14_5 : Array Oper := kO c14_15
noncomputable def o14_5_0 : Oper := opN r14_5 0
theorem x14_15 : execA E C (fg 14) B 48 E0 N c14_15 s = regX (runA E C B 48 r14_5 r14_5.toList s) (fun s => gcM E0 [] (forget s.1 [], s.2)) := x_reg (ops := r14_5) (by rfl) (by rfl) s
theorem r14_5_l : r14_5.toList = [o14_5_0] := nrfl rfl
theorem s14_5_0 : stepA E C B 48 r14_5 o14_5_0 (φ, H) = some (fput φ 10 (.nilsl), H) := nrfl rfl
noncomputable def c14_16 : Code := kR c14_14
noncomputable def c14_17 : Code := kL c14_16
noncomputable def c14_18 : Code := kL c14_17
noncomputable def r14_6 : Array Oper := kO c14_18
noncomputable def o14_6_0 : Oper := opN r14_6 0
noncomputable def o14_6_1 : Oper := opN r14_6 1
noncomputable def o14_6_2 : Oper := opN r14_6 2
theorem x14_18 : execA E C (fg 14) B 48 E0 N c14_18 s = regX (runA E C B 48 r14_6 r14_6.toList s) (fun s => gcM E0 [0] (forget s.1 [0], s.2)) := x_reg (ops := r14_6) (by rfl) (by rfl) s
theorem r14_6_l : r14_6.toList = [o14_6_0, o14_6_1, o14_6_2] := nrfl rfl
theorem s14_6_0 : stepA E C B 48 r14_6 o14_6_0 (φ, H) = some (fput φ 25 (fget φ 0), H) := nrfl rfl
theorem s14_6_1 : stepA E C B 48 r14_6 o14_6_1 (φ, H) = stp (some 26) φ H (aBuiltin E.T (B + 26) .len #[27] [(fget φ 25)]) := nrfl rfl
theorem s14_6_2 : stepA E C B 48 r14_6 o14_6_2 (φ, H) = some (fput φ 27 (.int .i64 0), H) := nrfl rfl
noncomputable def c14_19 : Code := kR c14_17
noncomputable def c14_20 : Code := kB c14_19
noncomputable def c14_21 : Code := kB c14_20
noncomputable def c14_22 : Code := kL c14_21
noncomputable def r14_7 : Array Oper := kO c14_22
noncomputable def o14_7_0 : Oper := opN r14_7 0
theorem x14_22 : execA E C (fg 14) B 48 E0 N c14_22 s = regX (runA E C B 48 r14_7 r14_7.toList s) (fun s => gcM E0 [] (forget s.1 [], s.2)) := x_reg (ops := r14_7) (by rfl) (by rfl) s
theorem r14_7_l : r14_7.toList = [o14_7_0] := nrfl rfl
theorem s14_7_0 : stepA E C B 48 r14_7 o14_7_0 (φ, H) = stp (some 28) φ H (just (aBin E.T .lss 3 (fget φ 27) (fget φ 26))) := nrfl rfl
noncomputable def c14_23 : Code := kR c14_21
noncomputable def c14_24 : Code := kL c14_23
noncomputable def c14_25 : Code := kT c14_24
theorem x14_25 : execA E C (fg 14) B 48 E0 N c14_25 s = some (.normal, s) := x_skip (by rfl) s
noncomputable def c14_26 : Code := kE c14_24
theorem x14_26 : execA E C (fg 14) B 48 E0 N c14_26 s = some (.exit 0, s) := x_exit (by rfl) s
theorem x14_24 : execA E C (fg 14) B 48 E0 N c14_24 (φ, H) = condX (fget φ 28) (execA E C (fg 14) B 48 E0 N c14_25 (φ, H)) (execA E C (fg 14) B 48 E0 N c14_26 (φ, H)) := x_cond (by rfl) _
noncomputable def c14_27 : Code := kR c14_23
noncomputable def c14_28 : Code := kL c14_27
noncomputable def c14_29 : Code := kB c14_28
noncomputable def c14_30 : Code := kL c14_29
noncomputable def r14_8 : Array Oper := kO c14_30
noncomputable def o14_8_0 : Oper := opN r14_8 0
noncomputable def o14_8_1 : Oper := opN r14_8 1
noncomputable def o14_8_2 : Oper := opN r14_8 2
noncomputable def o14_8_3 : Oper := opN r14_8 3
noncomputable def o14_8_4 : Oper := opN r14_8 4
noncomputable def o14_8_5 : Oper := opN r14_8 5
theorem x14_30 : execA E C (fg 14) B 48 E0 N c14_30 s = regX (runA E C B 48 r14_8 r14_8.toList s) (fun s => gcM E0 [28, 29, 30, 31] (forget s.1 [28, 29, 30, 31], s.2)) := x_reg (ops := r14_8) (by rfl) (by rfl) s
theorem r14_8_l : r14_8.toList = [o14_8_0, o14_8_1, o14_8_2, o14_8_3, o14_8_4, o14_8_5] := nrfl rfl
theorem s14_8_0 : stepA E C B 48 r14_8 o14_8_0 (φ, H) = some (fput φ 29 (fget φ 27), H) := nrfl rfl
theorem s14_8_1 : stepA E C B 48 r14_8 o14_8_1 (φ, H) = stp (some 30) φ H (just (aIndexAddr E.T 27 (fget φ 25) (fget φ 27))) := nrfl rfl
theorem s14_8_2 : stepA E C B 48 r14_8 o14_8_2 (φ, H) = stp (some 31) φ H (just (aLoad E.T 44 (fget φ 30))) := nrfl rfl
theorem s14_8_3 : stepA E C B 48 r14_8 o14_8_3 (φ, H) = stp (some 12) φ H (opBox (B + 12) (zeroCells E.T 44)) := nrfl rfl
theorem s14_8_4 : stepA E C B 48 r14_8 o14_8_4 (φ, H) = some (fput φ 11 (fget φ 29), H) := nrfl rfl
theorem s14_8_5 : stepA E C B 48 r14_8 o14_8_5 (φ, H) = stp none φ H (opStore E.T 44 (fget φ 12) (fget φ 31)) := nrfl rfl
noncomputable def c14_31 : Code := kR c14_29
noncomputable def c14_32 : Code := kL c14_31
noncomputable def r14_9 : Array Oper := kO c14_32
noncomputable def o14_9_0 : Oper := opN r14_9 0
noncomputable def o14_9_1 : Oper := opN r14_9 1
noncomputable def o14_9_2 : Oper := opN r14_9 2
theorem x14_32 : execA E C (fg 14) B 48 E0 N c14_32 s = regX (runA E C B 48 r14_9 r14_9.toList s) (fun s => gcM E0 [32, 33] (forget s.1 [32, 33], s.2)) := x_reg (ops := r14_9) (by rfl) (by rfl) s
theorem r14_9_l : r14_9.toList = [o14_9_0, o14_9_1, o14_9_2] := nrfl rfl
theorem s14_9_0 : stepA E C B 48 r14_9 o14_9_0 (φ, H) = stp (some 32) φ H (just (aFieldAddr E.T 44 (fget φ 12) 2)) := nrfl rfl
theorem s14_9_1 : stepA E C B 48 r14_9 o14_9_1 (φ, H) = stp (some 33) φ H (just (aLoad E.T 3 (fget φ 32))) := nrfl rfl
theorem s14_9_2 : stepA E C B 48 r14_9 o14_9_2 (φ, H) = some (fput φ 13 (fget φ 33), H) := nrfl rfl
noncomputable def c14_33 : Code := kR c14_31
noncomputable def c14_34 : Code := kL c14_33
noncomputable def c14_35 : Code := kL c14_34
noncomputable def r14_10 : Array Oper := kO c14_35
noncomputable def o14_10_0 : Oper := opN r14_10 0
noncomputable def o14_10_1 : Oper := opN r14_10 1
noncomputable def o14_10_2 : Oper := opN r14_10 2
theorem x14_35 : execA E C (fg 14) B 48 E0 N c14_35 s = regX (runA E C B 48 r14_10 r14_10.toList s) (fun s => gcM E0 [11, 34, 35] (forget s.1 [11, 34, 35], s.2)) := x_reg (ops := r14_10) (by rfl) (by rfl) s
theorem r14_10_l : r14_10.toList = [o14_10_0, o14_10_1, o14_10_2] := nrfl rfl
theorem s14_10_0 : stepA E C B 48 r14_10 o14_10_0 (φ, H) = some (fput φ 34 (fget φ 11), H) := nrfl rfl
theorem s14_10_1 : stepA E C B 48 r14_10 o14_10_1 (φ, H) = some (fput φ 35 (fget φ 1), H) := nrfl rfl
theorem s14_10_2 : stepA E C B 48 r14_10 o14_10_2 (φ, H) = stp (some 36) φ H (just (aBin E.T .geq 3 (fget φ 34) (fget φ 35))) := nrfl rfl
noncomputable def c14_36 : Code := kR c14_34
noncomputable def c14_37 : Code := kT c14_36
noncomputable def r14_11 : Array Oper := kO c14_37
noncomputable def o14_11_0 : Oper := opN r14_11 0
noncomputable def o14_11_1 : Oper := opN r14_11 1
noncomputable def o14_11_2 : Oper := opN r14_11 2
noncomputable def o14_11_3 : Oper := opN r14_11 3
noncomputable def o14_11_4 : Oper := opN r14_11 4
noncomputable def o14_11_5 : Oper := opN r14_11 5
theorem x14_37 : execA E C (fg 14) B 48 E0 N c14_37 s = regX (drawA E C B 48 r14_11 s) (fun s => gcM E0 [12, 36, 37, 38, 39, 40, 41] (forget s.1 [12, 36, 37, 38, 39, 40, 41], s.2)) := x_draw (ops := r14_11) (by rfl) (by rfl) s
theorem r14_11_l : r14_11.toList = [o14_11_0, o14_11_1, o14_11_2, o14_11_3, o14_11_4, o14_11_5] := nrfl rfl
theorem r14_11_st : statOk r14_11 = true := by kernel_rfl
theorem r14_11_dr : drawA E C B 48 r14_11 s = if neat 48 s = true then drX r14_11 (runT E C B 48 r14_11 r14_11.toList 0 s) else none := draw_eq r14_11_st s
theorem r14_11_an (l : List (Nat × Tr)) : dynOk r14_11 l = (!writing l || dynPairs [[], [], [], [1, 2], [0, 1, 2, 3], [0, 1, 2, 3, 4]] (touching l)) := dynOk_eq (by kernel_rfl) l
theorem s14_11_0 : stepT E C B 48 r14_11 o14_11_0 (φ, H) = stpT (some 37) φ H (just (aLoad E.T 44 (fget φ 12))) := stT_go rfl (goT_R rfl rfl)
theorem s14_11_1 : stepT E C B 48 r14_11 o14_11_1 (φ, H) = some ((fput φ 38 (fget φ 9), H), ⟨false, [], []⟩) := stT_go rfl (goT_mv rfl rfl)
theorem s14_11_2 : stepT E C B 48 r14_11 o14_11_2 (φ, H) = stpT (some 39) φ H (just (aLoad E.T 44 (fget φ 12))) := stT_go rfl (goT_R rfl rfl)
theorem s14_11_3 : stepT E C B 48 r14_11 o14_11_3 (φ, H) = callVT E C (B + 48 * 8) (some 40) (fun j => B + j * 48 + 40) φ H (fget φ 38) [(fget φ 39)] true := stT_go rfl (goT_V rfl rfl)
theorem s14_11_4 : stepT E C B 48 r14_11 o14_11_4 (φ, H) = stpT (some 41) φ H (aCall C (fun j => B + j * 48 + 41) true 37 [(fget φ 37), (fget φ 40)]) := stT_go rfl (goT_R rfl rfl)
theorem s14_11_5 : stepT E C B 48 r14_11 o14_11_5 (φ, H) = some ((fput φ 13 (fget φ 41), H), ⟨false, [], []⟩) := stT_go rfl (goT_mv rfl rfl)
noncomputable def c14_38 : Code := kE c14_36
theorem x14_38 : execA E C (fg 14) B 48 E0 N c14_38 s = some (.normal, s) := x_skip (by rfl) s
theorem x14_36 : execA E C (fg 14) B 48 E0 N c14_36 (φ, H) = condX (fget φ 36) (execA E C (fg 14) B 48 E0 N c14_37 (φ, H)) (execA E C (fg 14) B 48 E0 N c14_38 (φ, H)) := x_cond (by rfl) _
theorem x14_34 : execA E C (fg 14) B 48 E0 N c14_34 s = seqX (execA E C (fg 14) B 48 E0 N c14_35 s) (execA E C (fg 14) B 48 E0 N c14_36) := x_seq (by rfl) s
noncomputable def c14_39 : Code := kR c14_33
noncomputable def r14_12 : Array Oper := kO c14_39
noncomputable def o14_12_0 : Oper := opN r14_12 0
noncomputable def o14_12_1 : Oper := opN r14_12 1
noncomputable def o14_12_2 : Oper := opN r14_12 2
noncomputable def o14_12_3 : Oper := opN r14_12 3
noncomputable def o14_12_4 : Oper := opN r14_12 4
theorem x14_39 : execA E C (fg 14) B 48 E0 N c14_39 s = regX (runA E C B 48 r14_12 r14_12.toList s) (fun s => gcM E0 [12, 13, 36, 42, 43, 44, 45] (forget s.1 [12, 13, 36, 42, 43, 44, 45], s.2)) := x_reg (ops := r14_12) (by rfl) (by rfl) s
theorem r14_12_l : r14_12.toList = [o14_12_0, o14_12_1, o14_12_2, o14_12_3, o14_12_4] := nrfl rfl
theorem s14_12_0 : stepA E C B 48 r14_12 o14_12_0 (φ, H) = some (fput φ 42 (fget φ 10), H) := nrfl rfl
theorem s14_12_1 : stepA E C B 48 r14_12 o14_12_1 (φ, H) = some (fput φ 43 (fget φ 13), H) := nrfl rfl
theorem s14_12_2 : stepA E C B 48 r14_12 o14_12_2 (φ, H) = stp (some 44) φ H (aBuildSlice E.T (B + 44) 36 1 (evO E φ) [(0, Operand.tmp 43)]) := nrfl rfl
theorem s14_12_3 : stepA E C B 48 r14_12 o14_12_3 (φ, H) = stp (some 45) φ H (aBuiltin E.T (B + 45) .append #[36, 36] [(fget φ 42), (fget φ 44)]) := nrfl rfl
theorem s14_12_4 : stepA E C B 48 r14_12 o14_12_4 (φ, H) = some (fput φ 10 (fget φ 45), H) := nrfl rfl
theorem x14_33 : execA E C (fg 14) B 48 E0 N c14_33 s = seqX (execA E C (fg 14) B 48 E0 N c14_34 s) (execA E C (fg 14) B 48 E0 N c14_39) := x_seq (by rfl) s
theorem x14_31 : execA E C (fg 14) B 48 E0 N c14_31 s = seqX (execA E C (fg 14) B 48 E0 N c14_32 s) (execA E C (fg 14) B 48 E0 N c14_33) := x_seq (by rfl) s
theorem x14_29 : execA E C (fg 14) B 48 E0 N c14_29 s = seqX (execA E C (fg 14) B 48 E0 N c14_30 s) (execA E C (fg 14) B 48 E0 N c14_31) := x_seq (by rfl) s
theorem x14_28 : execA E C (fg 14) B 48 E0 N c14_28 s = blockX 1 (fun s => (forget s.1 [], s.2)) (execA E C (fg 14) B 48 E0 N c14_29 s) := x_block (by rfl) (by rfl) s
noncomputable def c14_40 : Code := kR c14_27
noncomputable def r14_13 : Array Oper := kO c14_40
noncomputable def o14_13_0 : Oper := opN r14_13 0
noncomputable def o14_13_1 : Oper := opN r14_13 1
theorem x14_40 : execA E C (fg 14) B 48 E0 N c14_40 s = regX (runA E C B 48 r14_13 r14_13.toList s) (fun s => gcM E0 [46] (forget s.1 [46], s.2)) := x_reg (ops := r14_13) (by rfl) (by rfl) s
theorem r14_13_l : r14_13.toList = [o14_13_0, o14_13_1] := nrfl rfl
theorem s14_13_0 : stepA E C B 48 r14_13 o14_13_0 (φ, H) = stp (some 46) φ H (just (aBin E.T .add 3 (fget φ 27) (.int .i64 1))) := nrfl rfl
theorem s14_13_1 : stepA E C B 48 r14_13 o14_13_1 (φ, H) = some (fput φ 27 (fget φ 46), H) := nrfl rfl
theorem x14_27 : execA E C (fg 14) B 48 E0 N c14_27 s = seqX (execA E C (fg 14) B 48 E0 N c14_28 s) (execA E C (fg 14) B 48 E0 N c14_40) := x_seq (by rfl) s
theorem x14_23 : execA E C (fg 14) B 48 E0 N c14_23 s = seqX (execA E C (fg 14) B 48 E0 N c14_24 s) (execA E C (fg 14) B 48 E0 N c14_27) := x_seq (by rfl) s
theorem x14_21 : execA E C (fg 14) B 48 E0 N c14_21 s = seqX (execA E C (fg 14) B 48 E0 N c14_22 s) (execA E C (fg 14) B 48 E0 N c14_23) := x_seq (by rfl) s
-- a loop of f14: x14_20; body c14_21; slots [27, 26, 25, 10, 9, 1]
theorem x14_20 : execA E C (fg 14) B 48 E0 N c14_20 s = iterA (execA E C (fg 14) B 48 E0 N c14_21) (headA E0) N s := x_loop (by rfl) s
theorem x14_19 : execA E C (fg 14) B 48 E0 N c14_19 s = blockX 0 (fun s => (forget s.1 [1, 9, 25, 26, 27, 28], s.2)) (execA E C (fg 14) B 48 E0 N c14_20 s) := x_block (by rfl) (by rfl) s
theorem x14_17 : execA E C (fg 14) B 48 E0 N c14_17 s = seqX (execA E C (fg 14) B 48 E0 N c14_18 s) (execA E C (fg 14) B 48 E0 N c14_19) := x_seq (by rfl) s
noncomputable def c14_41 : Code := kR c14_16
noncomputable def c14_42 : Code := kL c14_41
noncomputable def r14_14 : Array Oper := kO c14_42
noncomputable def o14_14_0 : Oper := opN r14_14 0
noncomputable def o14_14_1 : Oper := opN r14_14 1
noncomputable def o14_14_2 : Oper := opN r14_14 2
theorem x14_42 : execA E C (fg 14) B 48 E0 N c14_42 s = regX (runA E C B 48 r14_14 r14_14.toList s) (fun s => gcM E0 [10, 47] (forget s.1 [10, 47], s.2)) := x_reg (ops := r14_14) (by rfl) (by rfl) s
theorem r14_14_l : r14_14.toList = [o14_14_0, o14_14_1, o14_14_2] := nrfl rfl
theorem s14_14_0 : stepA E C B 48 r14_14 o14_14_0 (φ, H) = some (fput φ 47 (fget φ 10), H) := nrfl rfl
theorem s14_14_1 : stepA E C B 48 r14_14 o14_14_1 (φ, H) = some (fput φ 6 (fget φ 47), H) := nrfl rfl
theorem s14_14_2 : stepA E C B 48 r14_14 o14_14_2 (φ, H) = some (fput φ 7 (.int .i64 0), H) := nrfl rfl
noncomputable def c14_43 : Code := kR c14_41
theorem x14_43 : execA E C (fg 14) B 48 E0 N c14_43 s = some (.ret, s) := x_ret (by rfl) s
theorem x14_41 : execA E C (fg 14) B 48 E0 N c14_41 s = seqX (execA E C (fg 14) B 48 E0 N c14_42 s) (execA E C (fg 14) B 48 E0 N c14_43) := x_seq (by rfl) s
theorem x14_16 : execA E C (fg 14) B 48 E0 N c14_16 s = seqX (execA E C (fg 14) B 48 E0 N c14_17 s) (execA E C (fg 14) B 48 E0 N c14_41) := x_seq (by rfl) s
theorem x14_14 : execA E C (fg 14) B 48 E0 N c14_14 s = seqX (execA E C (fg 14) B 48 E0 N c14_15 s) (execA E C (fg 14) B 48 E0 N c14_16) := x_seq (by rfl) s
theorem x14_12 : execA E C (fg 14) B 48 E0 N c14_12 s = seqX (execA E C (fg 14) B 48 E0 N c14_13 s) (execA E C (fg 14) B 48 E0 N c14_14) := x_seq (by rfl) s
theorem x14_2 : execA E C (fg 14) B 48 E0 N c14_2 s = seqX (execA E C (fg 14) B 48 E0 N c14_3 s) (execA E C (fg 14) B 48 E0 N c14_12) := x_seq (by rfl) s
theorem x14_0 : execA E C (fg 14) B 48 E0 N c14_0 s = seqX (execA E C (fg 14) B 48 E0 N c14_1 s) (execA E C (fg 14) B 48 E0 N c14_2) := x_seq (by rfl) s
theorem fi_14 : fInfo E 14 = some ⟨48, #[.tmp 6, .tmp 7], c14_0⟩ := nrfl rfl
theorem b_14 (args : List AV) : bodyA E C fg N 14 args H B = bodyX E [.tmp 6, .tmp 7] (execA E C (fg 14) B 48 H N c14_0 (frame0 args 0 [], H)) := bodyA_eq fi_14 args H
/-! ### f37: (novaculite/prop.Stone).worst -/
noncomputable def c37_0 : Code := kBody Proofs.Try.f37
noncomputable def c37_1 : Code := kL c37_0
noncomputable def r37_0 : Array Oper := kO c37_1
noncomputable def o37_0_0 : Oper := opN r37_0 0
noncomputable def o37_0_1 : Oper := opN r37_0 1
theorem x37_1 : execA E C (fg 37) B 11 E0 N c37_1 s = regX (runA E C B 11 r37_0 r37_0.toList s) (fun s => gcM E0 [0, 4] (forget s.1 [0, 4], s.2)) := x_reg (ops := r37_0) (by rfl) (by rfl) s
theorem r37_0_l : r37_0.toList = [o37_0_0, o37_0_1] := nrfl rfl
theorem s37_0_0 : stepA E C B 11 r37_0 o37_0_0 (φ, H) = stp (some 2) φ H (opBox (B + 2) (acells (fget φ 0))) := nrfl rfl
theorem s37_0_1 : stepA E C B 11 r37_0 o37_0_1 (φ, H) = some (fput φ 4 (.int .i64 0), H) := nrfl rfl
noncomputable def c37_2 : Code := kR c37_0
noncomputable def c37_3 : Code := kL c37_2
noncomputable def c37_4 : Code := kL c37_3
noncomputable def r37_1 : Array Oper := kO c37_4
noncomputable def o37_1_0 : Oper := opN r37_1 0
noncomputable def o37_1_1 : Oper := opN r37_1 1
theorem x37_4 : execA E C (fg 37) B 11 E0 N c37_4 s = regX (runA E C B 11 r37_1 r37_1.toList s) (fun s => gcM E0 [1, 5] (forget s.1 [1, 5], s.2)) := x_reg (ops := r37_1) (by rfl) (by rfl) s
theorem r37_1_l : r37_1.toList = [o37_1_0, o37_1_1] := nrfl rfl
theorem s37_1_0 : stepA E C B 11 r37_1 o37_1_0 (φ, H) = some (fput φ 5 (fget φ 1), H) := nrfl rfl
theorem s37_1_1 : stepA E C B 11 r37_1 o37_1_1 (φ, H) = stp (some 6) φ H (just (aBin E.T .gtr 3 (fget φ 5) (.int .i64 0))) := nrfl rfl
noncomputable def c37_5 : Code := kR c37_3
noncomputable def c37_6 : Code := kT c37_5
noncomputable def c37_7 : Code := kL c37_6
noncomputable def r37_2 : Array Oper := kO c37_7
noncomputable def o37_2_0 : Oper := opN r37_2 0
noncomputable def o37_2_1 : Oper := opN r37_2 1
noncomputable def o37_2_2 : Oper := opN r37_2 2
theorem x37_7 : execA E C (fg 37) B 11 E0 N c37_7 s = regX (runA E C B 11 r37_2 r37_2.toList s) (fun s => gcM E0 [2, 6, 7, 8] (forget s.1 [2, 6, 7, 8], s.2)) := x_reg (ops := r37_2) (by rfl) (by rfl) s
theorem r37_2_l : r37_2.toList = [o37_2_0, o37_2_1, o37_2_2] := nrfl rfl
theorem s37_2_0 : stepA E C B 11 r37_2 o37_2_0 (φ, H) = stp (some 7) φ H (just (aFieldAddr E.T 44 (fget φ 2) 3)) := nrfl rfl
theorem s37_2_1 : stepA E C B 11 r37_2 o37_2_1 (φ, H) = stp (some 8) φ H (just (aLoad E.T 3 (fget φ 7))) := nrfl rfl
theorem s37_2_2 : stepA E C B 11 r37_2 o37_2_2 (φ, H) = some (fput φ 4 (fget φ 8), H) := nrfl rfl
noncomputable def c37_8 : Code := kR c37_6
theorem x37_8 : execA E C (fg 37) B 11 E0 N c37_8 s = some (.ret, s) := x_ret (by rfl) s
theorem x37_6 : execA E C (fg 37) B 11 E0 N c37_6 s = seqX (execA E C (fg 37) B 11 E0 N c37_7 s) (execA E C (fg 37) B 11 E0 N c37_8) := x_seq (by rfl) s
noncomputable def c37_9 : Code := kE c37_5
theorem x37_9 : execA E C (fg 37) B 11 E0 N c37_9 s = some (.normal, s) := x_skip (by rfl) s
theorem x37_5 : execA E C (fg 37) B 11 E0 N c37_5 (φ, H) = condX (fget φ 6) (execA E C (fg 37) B 11 E0 N c37_6 (φ, H)) (execA E C (fg 37) B 11 E0 N c37_9 (φ, H)) := x_cond (by rfl) _
theorem x37_3 : execA E C (fg 37) B 11 E0 N c37_3 s = seqX (execA E C (fg 37) B 11 E0 N c37_4 s) (execA E C (fg 37) B 11 E0 N c37_5) := x_seq (by rfl) s
noncomputable def c37_10 : Code := kR c37_2
noncomputable def c37_11 : Code := kL c37_10
noncomputable def r37_3 : Array Oper := kO c37_11
noncomputable def o37_3_0 : Oper := opN r37_3 0
noncomputable def o37_3_1 : Oper := opN r37_3 1
noncomputable def o37_3_2 : Oper := opN r37_3 2
theorem x37_11 : execA E C (fg 37) B 11 E0 N c37_11 s = regX (runA E C B 11 r37_3 r37_3.toList s) (fun s => gcM E0 [2, 6, 9, 10] (forget s.1 [2, 6, 9, 10], s.2)) := x_reg (ops := r37_3) (by rfl) (by rfl) s
theorem r37_3_l : r37_3.toList = [o37_3_0, o37_3_1, o37_3_2] := nrfl rfl
theorem s37_3_0 : stepA E C B 11 r37_3 o37_3_0 (φ, H) = stp (some 9) φ H (just (aFieldAddr E.T 44 (fget φ 2) 2)) := nrfl rfl
theorem s37_3_1 : stepA E C B 11 r37_3 o37_3_1 (φ, H) = stp (some 10) φ H (just (aLoad E.T 3 (fget φ 9))) := nrfl rfl
theorem s37_3_2 : stepA E C B 11 r37_3 o37_3_2 (φ, H) = some (fput φ 4 (fget φ 10), H) := nrfl rfl
noncomputable def c37_12 : Code := kR c37_10
theorem x37_12 : execA E C (fg 37) B 11 E0 N c37_12 s = some (.ret, s) := x_ret (by rfl) s
theorem x37_10 : execA E C (fg 37) B 11 E0 N c37_10 s = seqX (execA E C (fg 37) B 11 E0 N c37_11 s) (execA E C (fg 37) B 11 E0 N c37_12) := x_seq (by rfl) s
theorem x37_2 : execA E C (fg 37) B 11 E0 N c37_2 s = seqX (execA E C (fg 37) B 11 E0 N c37_3 s) (execA E C (fg 37) B 11 E0 N c37_10) := x_seq (by rfl) s
theorem x37_0 : execA E C (fg 37) B 11 E0 N c37_0 s = seqX (execA E C (fg 37) B 11 E0 N c37_1 s) (execA E C (fg 37) B 11 E0 N c37_2) := x_seq (by rfl) s
theorem fi_37 : fInfo E 37 = some ⟨11, #[.tmp 4], c37_0⟩ := nrfl rfl
theorem b_37 (args : List AV) : bodyA E C fg N 37 args H B = bodyX E [.tmp 4] (execA E C (fg 37) B 11 H N c37_0 (frame0 args 0 [], H)) := bodyA_eq fi_37 args H
/-! ### f38: novaculite/prop.weighed -/
noncomputable def c38_0 : Code := kBody Proofs.Try.f38
noncomputable def c38_1 : Code := kL c38_0
noncomputable def r38_0 : Array Oper := kO c38_1
noncomputable def o38_0_0 : Oper := opN r38_0 0
theorem x38_1 : execA E C (fg 38) B 36 E0 N c38_1 s = regX (runA E C B 36 r38_0 r38_0.toList s) (fun s => gcM E0 [4] (forget s.1 [4], s.2)) := x_reg (ops := r38_0) (by rfl) (by rfl) s
theorem r38_0_l : r38_0.toList = [o38_0_0] := nrfl rfl
theorem s38_0_0 : stepA E C B 36 r38_0 o38_0_0 (φ, H) = some (fput φ 4 (.int .i64 0), H) := nrfl rfl
noncomputable def c38_2 : Code := kR c38_0
noncomputable def c38_3 : Code := kL c38_2
noncomputable def c38_4 : Code := kL c38_3
noncomputable def r38_1 : Array Oper := kO c38_4
noncomputable def o38_1_0 : Oper := opN r38_1 0
noncomputable def o38_1_1 : Oper := opN r38_1 1
noncomputable def o38_1_2 : Oper := opN r38_1 2
noncomputable def o38_1_3 : Oper := opN r38_1 3
noncomputable def o38_1_4 : Oper := opN r38_1 4
theorem x38_4 : execA E C (fg 38) B 36 E0 N c38_4 s = regX (runA E C B 36 r38_1 r38_1.toList s) (fun s => gcM E0 [7, 8, 9, 10] (forget s.1 [7, 8, 9, 10], s.2)) := x_reg (ops := r38_1) (by rfl) (by rfl) s
theorem r38_1_l : r38_1.toList = [o38_1_0, o38_1_1, o38_1_2, o38_1_3, o38_1_4] := nrfl rfl
theorem s38_1_0 : stepA E C B 36 r38_1 o38_1_0 (φ, H) = some (fput φ 7 (fget φ 1), H) := nrfl rfl
theorem s38_1_1 : stepA E C B 36 r38_1 o38_1_1 (φ, H) = stp (some 8) φ H (aBuiltin E.T (B + 8) .len #[36] [(fget φ 7)]) := nrfl rfl
theorem s38_1_2 : stepA E C B 36 r38_1 o38_1_2 (φ, H) = some (fput φ 9 (fget φ 0), H) := nrfl rfl
theorem s38_1_3 : stepA E C B 36 r38_1 o38_1_3 (φ, H) = stp (some 10) φ H (aBuiltin E.T (B + 10) .len #[27] [(fget φ 9)]) := nrfl rfl
theorem s38_1_4 : stepA E C B 36 r38_1 o38_1_4 (φ, H) = stp (some 11) φ H (just (aBin E.T .neq 3 (fget φ 8) (fget φ 10))) := nrfl rfl
noncomputable def c38_5 : Code := kR c38_3
noncomputable def c38_6 : Code := kT c38_5
noncomputable def c38_7 : Code := kL c38_6
noncomputable def r38_2 : Array Oper := kO c38_7
noncomputable def o38_2_0 : Oper := opN r38_2 0
theorem x38_7 : execA E C (fg 38) B 36 E0 N c38_7 s = regX (runA E C B 36 r38_2 r38_2.toList s) (fun s => gcM E0 [0, 1, 11] (forget s.1 [0, 1, 11], s.2)) := x_reg (ops := r38_2) (by rfl) (by rfl) s
theorem r38_2_l : r38_2.toList = [o38_2_0] := nrfl rfl
theorem s38_2_0 : stepA E C B 36 r38_2 o38_2_0 (φ, H) = some (fput φ 4 (.int .i64 5), H) := nrfl rfl
noncomputable def c38_8 : Code := kR c38_6
theorem x38_8 : execA E C (fg 38) B 36 E0 N c38_8 s = some (.ret, s) := x_ret (by rfl) s
theorem x38_6 : execA E C (fg 38) B 36 E0 N c38_6 s = seqX (execA E C (fg 38) B 36 E0 N c38_7 s) (execA E C (fg 38) B 36 E0 N c38_8) := x_seq (by rfl) s
noncomputable def c38_9 : Code := kE c38_5
theorem x38_9 : execA E C (fg 38) B 36 E0 N c38_9 s = some (.normal, s) := x_skip (by rfl) s
theorem x38_5 : execA E C (fg 38) B 36 E0 N c38_5 (φ, H) = condX (fget φ 11) (execA E C (fg 38) B 36 E0 N c38_6 (φ, H)) (execA E C (fg 38) B 36 E0 N c38_9 (φ, H)) := x_cond (by rfl) _
theorem x38_3 : execA E C (fg 38) B 36 E0 N c38_3 s = seqX (execA E C (fg 38) B 36 E0 N c38_4 s) (execA E C (fg 38) B 36 E0 N c38_5) := x_seq (by rfl) s
noncomputable def c38_10 : Code := kR c38_2
noncomputable def c38_11 : Code := kL c38_10
noncomputable def c38_12 : Code := kL c38_11
noncomputable def r38_3 : Array Oper := kO c38_12
noncomputable def o38_3_0 : Oper := opN r38_3 0
noncomputable def o38_3_1 : Oper := opN r38_3 1
noncomputable def o38_3_2 : Oper := opN r38_3 2
theorem x38_12 : execA E C (fg 38) B 36 E0 N c38_12 s = regX (runA E C B 36 r38_3 r38_3.toList s) (fun s => gcM E0 [1, 11] (forget s.1 [1, 11], s.2)) := x_reg (ops := r38_3) (by rfl) (by rfl) s
theorem r38_3_l : r38_3.toList = [o38_3_0, o38_3_1, o38_3_2] := nrfl rfl
theorem s38_3_0 : stepA E C B 36 r38_3 o38_3_0 (φ, H) = some (fput φ 12 (fget φ 1), H) := nrfl rfl
theorem s38_3_1 : stepA E C B 36 r38_3 o38_3_1 (φ, H) = stp (some 13) φ H (aBuiltin E.T (B + 13) .len #[36] [(fget φ 12)]) := nrfl rfl
theorem s38_3_2 : stepA E C B 36 r38_3 o38_3_2 (φ, H) = some (fput φ 14 (.int .i64 0), H) := nrfl rfl
noncomputable def c38_13 : Code := kR c38_11
noncomputable def c38_14 : Code := kB c38_13
noncomputable def c38_15 : Code := kB c38_14
noncomputable def c38_16 : Code := kL c38_15
noncomputable def r38_4 : Array Oper := kO c38_16
noncomputable def o38_4_0 : Oper := opN r38_4 0
theorem x38_16 : execA E C (fg 38) B 36 E0 N c38_16 s = regX (runA E C B 36 r38_4 r38_4.toList s) (fun s => gcM E0 [] (forget s.1 [], s.2)) := x_reg (ops := r38_4) (by rfl) (by rfl) s
theorem r38_4_l : r38_4.toList = [o38_4_0] := nrfl rfl
theorem s38_4_0 : stepA E C B 36 r38_4 o38_4_0 (φ, H) = stp (some 15) φ H (just (aBin E.T .lss 3 (fget φ 14) (fget φ 13))) := nrfl rfl
noncomputable def c38_17 : Code := kR c38_15
noncomputable def c38_18 : Code := kL c38_17
noncomputable def c38_19 : Code := kT c38_18
theorem x38_19 : execA E C (fg 38) B 36 E0 N c38_19 s = some (.normal, s) := x_skip (by rfl) s
noncomputable def c38_20 : Code := kE c38_18
theorem x38_20 : execA E C (fg 38) B 36 E0 N c38_20 s = some (.exit 0, s) := x_exit (by rfl) s
theorem x38_18 : execA E C (fg 38) B 36 E0 N c38_18 (φ, H) = condX (fget φ 15) (execA E C (fg 38) B 36 E0 N c38_19 (φ, H)) (execA E C (fg 38) B 36 E0 N c38_20 (φ, H)) := x_cond (by rfl) _
noncomputable def c38_21 : Code := kR c38_17
noncomputable def c38_22 : Code := kL c38_21
noncomputable def c38_23 : Code := kB c38_22
noncomputable def c38_24 : Code := kL c38_23
noncomputable def r38_5 : Array Oper := kO c38_24
noncomputable def o38_5_0 : Oper := opN r38_5 0
noncomputable def o38_5_1 : Oper := opN r38_5 1
noncomputable def o38_5_2 : Oper := opN r38_5 2
noncomputable def o38_5_3 : Oper := opN r38_5 3
noncomputable def o38_5_4 : Oper := opN r38_5 4
theorem x38_24 : execA E C (fg 38) B 36 E0 N c38_24 s = regX (runA E C B 36 r38_5 r38_5.toList s) (fun s => gcM E0 [15, 16, 17, 18] (forget s.1 [15, 16, 17, 18], s.2)) := x_reg (ops := r38_5) (by rfl) (by rfl) s
theorem r38_5_l : r38_5.toList = [o38_5_0, o38_5_1, o38_5_2, o38_5_3, o38_5_4] := nrfl rfl
theorem s38_5_0 : stepA E C B 36 r38_5 o38_5_0 (φ, H) = some (fput φ 16 (fget φ 14), H) := nrfl rfl
theorem s38_5_1 : stepA E C B 36 r38_5 o38_5_1 (φ, H) = stp (some 17) φ H (just (aIndexAddr E.T 36 (fget φ 12) (fget φ 14))) := nrfl rfl
theorem s38_5_2 : stepA E C B 36 r38_5 o38_5_2 (φ, H) = stp (some 18) φ H (just (aLoad E.T 3 (fget φ 17))) := nrfl rfl
theorem s38_5_3 : stepA E C B 36 r38_5 o38_5_3 (φ, H) = some (fput φ 5 (fget φ 16), H) := nrfl rfl
theorem s38_5_4 : stepA E C B 36 r38_5 o38_5_4 (φ, H) = some (fput φ 6 (fget φ 18), H) := nrfl rfl
noncomputable def c38_25 : Code := kR c38_23
noncomputable def c38_26 : Code := kL c38_25
noncomputable def r38_6 : Array Oper := kO c38_26
noncomputable def o38_6_0 : Oper := opN r38_6 0
noncomputable def o38_6_1 : Oper := opN r38_6 1
noncomputable def o38_6_2 : Oper := opN r38_6 2
noncomputable def o38_6_3 : Oper := opN r38_6 3
noncomputable def o38_6_4 : Oper := opN r38_6 4
noncomputable def o38_6_5 : Oper := opN r38_6 5
noncomputable def o38_6_6 : Oper := opN r38_6 6
noncomputable def o38_6_7 : Oper := opN r38_6 7
noncomputable def o38_6_8 : Oper := opN r38_6 8
noncomputable def o38_6_9 : Oper := opN r38_6 9
noncomputable def o38_6_10 : Oper := opN r38_6 10
noncomputable def o38_6_11 : Oper := opN r38_6 11
noncomputable def o38_6_12 : Oper := opN r38_6 12
noncomputable def o38_6_13 : Oper := opN r38_6 13
noncomputable def o38_6_14 : Oper := opN r38_6 14
noncomputable def o38_6_15 : Oper := opN r38_6 15
theorem x38_26 : execA E C (fg 38) B 36 E0 N c38_26 s = regX (runA E C B 36 r38_6 r38_6.toList s) (fun s => gcM E0 [5, 6, 19, 20, 21, 22, 23, 24, 25, 26, 27, 28, 29, 30, 31, 32, 33] (forget s.1 [5, 6, 19, 20, 21, 22, 23, 24, 25, 26, 27, 28, 29, 30, 31, 32, 33], s.2)) := x_reg (ops := r38_6) (by rfl) (by rfl) s
theorem r38_6_l : r38_6.toList = [o38_6_0, o38_6_1, o38_6_2, o38_6_3, o38_6_4, o38_6_5, o38_6_6, o38_6_7, o38_6_8, o38_6_9, o38_6_10, o38_6_11, o38_6_12, o38_6_13, o38_6_14, o38_6_15] := nrfl rfl
theorem s38_6_0 : stepA E C B 36 r38_6 o38_6_0 (φ, H) = some (fput φ 19 (fget φ 6), H) := nrfl rfl
theorem s38_6_1 : stepA E C B 36 r38_6 o38_6_1 (φ, H) = some (fput φ 20 (fget φ 0), H) := nrfl rfl
theorem s38_6_2 : stepA E C B 36 r38_6 o38_6_2 (φ, H) = some (fput φ 21 (fget φ 5), H) := nrfl rfl
theorem s38_6_3 : stepA E C B 36 r38_6 o38_6_3 (φ, H) = stp (some 22) φ H (just (aIndexAddr E.T 27 (fget φ 20) (fget φ 21))) := nrfl rfl
theorem s38_6_4 : stepA E C B 36 r38_6 o38_6_4 (φ, H) = stp (some 23) φ H (just (aFieldAddr E.T 44 (fget φ 22) 2)) := nrfl rfl
theorem s38_6_5 : stepA E C B 36 r38_6 o38_6_5 (φ, H) = stp (some 24) φ H (just (aLoad E.T 3 (fget φ 23))) := nrfl rfl
theorem s38_6_6 : stepA E C B 36 r38_6 o38_6_6 (φ, H) = stp (some 25) φ H (just (aBin E.T .lss 3 (fget φ 19) (fget φ 24))) := nrfl rfl
theorem s38_6_7 : stepA E C B 36 r38_6 o38_6_7 (φ, H) = some (fput φ 26 (fget φ 25), H) := nrfl rfl
theorem s38_6_8 : stepA E C B 36 r38_6 o38_6_8 (φ, H) = gd φ 26 false (fun φ => some (fput φ 27 (.tup []), H)) (fun φ => some (fput φ 27 (fget φ 6), H)) := s_gd (j := 7) (oj := o38_6_7) rfl rfl rfl (fun _ => rfl) (fun _ => rfl)
theorem s38_6_9 : stepA E C B 36 r38_6 o38_6_9 (φ, H) = gd φ 26 false (fun φ => some (fput φ 28 (.tup []), H)) (fun φ => some (fput φ 28 (fget φ 0), H)) := s_gd (j := 7) (oj := o38_6_7) rfl rfl rfl (fun _ => rfl) (fun _ => rfl)
theorem s38_6_10 : stepA E C B 36 r38_6 o38_6_10 (φ, H) = gd φ 26 false (fun φ => some (fput φ 29 (.tup []), H)) (fun φ => some (fput φ 29 (fget φ 5), H)) := s_gd (j := 7) (oj := o38_6_7) rfl rfl rfl (fun _ => rfl) (fun _ => rfl)
theorem s38_6_11 : stepA E C B 36 r38_6 o38_6_11 (φ, H) = gd φ 26 false (fun φ => some (fput φ 30 (.tup []), H)) (fun φ => stp (some 30) φ H (just (aIndexAddr E.T 27 (fget φ 28) (fget φ 29)))) := s_gd (j := 7) (oj := o38_6_7) rfl rfl rfl (fun _ => rfl) (fun _ => rfl)
theorem s38_6_12 : stepA E C B 36 r38_6 o38_6_12 (φ, H) = gd φ 26 false (fun φ => some (fput φ 31 (.tup []), H)) (fun φ => stp (some 31) φ H (just (aFieldAddr E.T 44 (fget φ 30) 3))) := s_gd (j := 7) (oj := o38_6_7) rfl rfl rfl (fun _ => rfl) (fun _ => rfl)
theorem s38_6_13 : stepA E C B 36 r38_6 o38_6_13 (φ, H) = gd φ 26 false (fun φ => some (fput φ 32 (.tup []), H)) (fun φ => stp (some 32) φ H (just (aLoad E.T 3 (fget φ 31)))) := s_gd (j := 7) (oj := o38_6_7) rfl rfl rfl (fun _ => rfl) (fun _ => rfl)
theorem s38_6_14 : stepA E C B 36 r38_6 o38_6_14 (φ, H) = gd φ 26 false (fun φ => some (fput φ 33 (.tup []), H)) (fun φ => stp (some 33) φ H (just (aBin E.T .gtr 3 (fget φ 27) (fget φ 32)))) := s_gd (j := 7) (oj := o38_6_7) rfl rfl rfl (fun _ => rfl) (fun _ => rfl)
theorem s38_6_15 : stepA E C B 36 r38_6 o38_6_15 (φ, H) = stp (some 34) φ H (opPick (fget φ 26) (.bool true) (fget φ 33)) := nrfl rfl
noncomputable def c38_27 : Code := kR c38_25
noncomputable def c38_28 : Code := kT c38_27
noncomputable def c38_29 : Code := kL c38_28
noncomputable def r38_7 : Array Oper := kO c38_29
noncomputable def o38_7_0 : Oper := opN r38_7 0
theorem x38_29 : execA E C (fg 38) B 36 E0 N c38_29 s = regX (runA E C B 36 r38_7 r38_7.toList s) (fun s => gcM E0 [0, 12, 13, 14, 34] (forget s.1 [0, 12, 13, 14, 34], s.2)) := x_reg (ops := r38_7) (by rfl) (by rfl) s
theorem r38_7_l : r38_7.toList = [o38_7_0] := nrfl rfl
theorem s38_7_0 : stepA E C B 36 r38_7 o38_7_0 (φ, H) = some (fput φ 4 (.int .i64 1), H) := nrfl rfl
noncomputable def c38_30 : Code := kR c38_28
theorem x38_30 : execA E C (fg 38) B 36 E0 N c38_30 s = some (.ret, s) := x_ret (by rfl) s
theorem x38_28 : execA E C (fg 38) B 36 E0 N c38_28 s = seqX (execA E C (fg 38) B 36 E0 N c38_29 s) (execA E C (fg 38) B 36 E0 N c38_30) := x_seq (by rfl) s
noncomputable def c38_31 : Code := kE c38_27
theorem x38_31 : execA E C (fg 38) B 36 E0 N c38_31 s = some (.normal, s) := x_skip (by rfl) s
theorem x38_27 : execA E C (fg 38) B 36 E0 N c38_27 (φ, H) = condX (fget φ 34) (execA E C (fg 38) B 36 E0 N c38_28 (φ, H)) (execA E C (fg 38) B 36 E0 N c38_31 (φ, H)) := x_cond (by rfl) _
theorem x38_25 : execA E C (fg 38) B 36 E0 N c38_25 s = seqX (execA E C (fg 38) B 36 E0 N c38_26 s) (execA E C (fg 38) B 36 E0 N c38_27) := x_seq (by rfl) s
theorem x38_23 : execA E C (fg 38) B 36 E0 N c38_23 s = seqX (execA E C (fg 38) B 36 E0 N c38_24 s) (execA E C (fg 38) B 36 E0 N c38_25) := x_seq (by rfl) s
theorem x38_22 : execA E C (fg 38) B 36 E0 N c38_22 s = blockX 1 (fun s => (forget s.1 [34], s.2)) (execA E C (fg 38) B 36 E0 N c38_23 s) := x_block (by rfl) (by rfl) s
noncomputable def c38_32 : Code := kR c38_21
noncomputable def r38_8 : Array Oper := kO c38_32
noncomputable def o38_8_0 : Oper := opN r38_8 0
noncomputable def o38_8_1 : Oper := opN r38_8 1
theorem x38_32 : execA E C (fg 38) B 36 E0 N c38_32 s = regX (runA E C B 36 r38_8 r38_8.toList s) (fun s => gcM E0 [35] (forget s.1 [35], s.2)) := x_reg (ops := r38_8) (by rfl) (by rfl) s
theorem r38_8_l : r38_8.toList = [o38_8_0, o38_8_1] := nrfl rfl
theorem s38_8_0 : stepA E C B 36 r38_8 o38_8_0 (φ, H) = stp (some 35) φ H (just (aBin E.T .add 3 (fget φ 14) (.int .i64 1))) := nrfl rfl
theorem s38_8_1 : stepA E C B 36 r38_8 o38_8_1 (φ, H) = some (fput φ 14 (fget φ 35), H) := nrfl rfl
theorem x38_21 : execA E C (fg 38) B 36 E0 N c38_21 s = seqX (execA E C (fg 38) B 36 E0 N c38_22 s) (execA E C (fg 38) B 36 E0 N c38_32) := x_seq (by rfl) s
theorem x38_17 : execA E C (fg 38) B 36 E0 N c38_17 s = seqX (execA E C (fg 38) B 36 E0 N c38_18 s) (execA E C (fg 38) B 36 E0 N c38_21) := x_seq (by rfl) s
theorem x38_15 : execA E C (fg 38) B 36 E0 N c38_15 s = seqX (execA E C (fg 38) B 36 E0 N c38_16 s) (execA E C (fg 38) B 36 E0 N c38_17) := x_seq (by rfl) s
-- a loop of f38: x38_14; body c38_15; slots [14, 13, 12, 0]
theorem x38_14 : execA E C (fg 38) B 36 E0 N c38_14 s = iterA (execA E C (fg 38) B 36 E0 N c38_15) (headA E0) N s := x_loop (by rfl) s
theorem x38_13 : execA E C (fg 38) B 36 E0 N c38_13 s = blockX 0 (fun s => (forget s.1 [0, 12, 13, 14, 15], s.2)) (execA E C (fg 38) B 36 E0 N c38_14 s) := x_block (by rfl) (by rfl) s
theorem x38_11 : execA E C (fg 38) B 36 E0 N c38_11 s = seqX (execA E C (fg 38) B 36 E0 N c38_12 s) (execA E C (fg 38) B 36 E0 N c38_13) := x_seq (by rfl) s
noncomputable def c38_33 : Code := kR c38_10
noncomputable def c38_34 : Code := kL c38_33
noncomputable def r38_9 : Array Oper := kO c38_34
noncomputable def o38_9_0 : Oper := opN r38_9 0
theorem x38_34 : execA E C (fg 38) B 36 E0 N c38_34 s = regX (runA E C B 36 r38_9 r38_9.toList s) (fun s => gcM E0 [] (forget s.1 [], s.2)) := x_reg (ops := r38_9) (by rfl) (by rfl) s
theorem r38_9_l : r38_9.toList = [o38_9_0] := nrfl rfl
theorem s38_9_0 : stepA E C B 36 r38_9 o38_9_0 (φ, H) = some (fput φ 4 (.int .i64 0), H) := nrfl rfl
noncomputable def c38_35 : Code := kR c38_33
theorem x38_35 : execA E C (fg 38) B 36 E0 N c38_35 s = some (.ret, s) := x_ret (by rfl) s
theorem x38_33 : execA E C (fg 38) B 36 E0 N c38_33 s = seqX (execA E C (fg 38) B 36 E0 N c38_34 s) (execA E C (fg 38) B 36 E0 N c38_35) := x_seq (by rfl) s
theorem x38_10 : execA E C (fg 38) B 36 E0 N c38_10 s = seqX (execA E C (fg 38) B 36 E0 N c38_11 s) (execA E C (fg 38) B 36 E0 N c38_33) := x_seq (by rfl) s
theorem x38_2 : execA E C (fg 38) B 36 E0 N c38_2 s = seqX (execA E C (fg 38) B 36 E0 N c38_3 s) (execA E C (fg 38) B 36 E0 N c38_10) := x_seq (by rfl) s
theorem x38_0 : execA E C (fg 38) B 36 E0 N c38_0 s = seqX (execA E C (fg 38) B 36 E0 N c38_1 s) (execA E C (fg 38) B 36 E0 N c38_2) := x_seq (by rfl) s
theorem fi_38 : fInfo E 38 = some ⟨36, #[.tmp 4], c38_0⟩ := nrfl rfl
theorem b_38 (args : List AV) : bodyA E C fg N 38 args H B = bodyX E [.tmp 4] (execA E C (fg 38) B 36 H N c38_0 (frame0 args 0 [], H)) := bodyA_eq fi_38 args H
/-! ### f62: novaculite/prop.moment$1 -/
noncomputable def c62_0 : Code := kBody Proofs.Try.f62
noncomputable def c62_1 : Code := kL c62_0
noncomputable def r62_0 : Array Oper := kO c62_1
noncomputable def o62_0_0 : Oper := opN r62_0 0
theorem x62_1 : execA E C (fg 62) B 15 E0 N c62_1 s = regX (runA E C B 15 r62_0 r62_0.toList s) (fun s => gcM E0 [6] (forget s.1 [6], s.2)) := x_reg (ops := r62_0) (by rfl) (by rfl) s
theorem r62_0_l : r62_0.toList = [o62_0_0] := nrfl rfl
theorem s62_0_0 : stepA E C B 15 r62_0 o62_0_0 (φ, H) = some (fput φ 6 (.int .i64 0), H) := nrfl rfl
noncomputable def c62_2 : Code := kR c62_0
noncomputable def c62_3 : Code := kL c62_2
noncomputable def r62_1 : Array Oper := kO c62_3
noncomputable def o62_1_0 : Oper := opN r62_1 0
noncomputable def o62_1_1 : Oper := opN r62_1 1
noncomputable def o62_1_2 : Oper := opN r62_1 2
noncomputable def o62_1_3 : Oper := opN r62_1 3
noncomputable def o62_1_4 : Oper := opN r62_1 4
noncomputable def o62_1_5 : Oper := opN r62_1 5
noncomputable def o62_1_6 : Oper := opN r62_1 6
noncomputable def o62_1_7 : Oper := opN r62_1 7
noncomputable def o62_1_8 : Oper := opN r62_1 8
theorem x62_3 : execA E C (fg 62) B 15 E0 N c62_3 s = regX (drawA E C B 15 r62_1 s) (fun s => gcM E0 [0, 1, 2, 3, 7, 8, 9, 10, 11, 12, 13, 14] (forget s.1 [0, 1, 2, 3, 7, 8, 9, 10, 11, 12, 13, 14], s.2)) := x_draw (ops := r62_1) (by rfl) (by rfl) s
theorem r62_1_l : r62_1.toList = [o62_1_0, o62_1_1, o62_1_2, o62_1_3, o62_1_4, o62_1_5, o62_1_6, o62_1_7, o62_1_8] := nrfl rfl
theorem r62_1_st : statOk r62_1 = true := by kernel_rfl
theorem r62_1_dr : drawA E C B 15 r62_1 s = if neat 15 s = true then drX r62_1 (runT E C B 15 r62_1 r62_1.toList 0 s) else none := draw_eq r62_1_st s
theorem r62_1_an (l : List (Nat × Tr)) : dynOk r62_1 l = (!writing l || dynPairs [[], [], [], [], [2, 3], [2, 3, 4], [1, 2, 3, 4, 5], [0, 1, 2, 3, 4, 5, 6], [0, 1, 2, 3, 4, 5, 6, 7]] (touching l)) := dynOk_eq (by kernel_rfl) l
theorem s62_1_0 : stepT E C B 15 r62_1 o62_1_0 (φ, H) = some ((fput φ 7 (fget φ 1), H), ⟨false, [], []⟩) := stT_go rfl (goT_mv rfl rfl)
theorem s62_1_1 : stepT E C B 15 r62_1 o62_1_1 (φ, H) = stpT (some 8) φ H (just (aLoad E.T 67 (fget φ 2))) := stT_go rfl (goT_R rfl rfl)
theorem s62_1_2 : stepT E C B 15 r62_1 o62_1_2 (φ, H) = stpT (some 9) φ H (just (aLoad E.T 27 (fget φ 3))) := stT_go rfl (goT_R rfl rfl)
theorem s62_1_3 : stepT E C B 15 r62_1 o62_1_3 (φ, H) = some ((fput φ 10 (fget φ 0), H), ⟨false, [], []⟩) := stT_go rfl (goT_mv rfl rfl)
theorem s62_1_4 : stepT E C B 15 r62_1 o62_1_4 (φ, H) = stpT (some 11) φ H (just (aIndexAddr E.T 27 (fget φ 9) (fget φ 10))) := stT_go rfl (goT_R rfl rfl)
theorem s62_1_5 : stepT E C B 15 r62_1 o62_1_5 (φ, H) = stpT (some 12) φ H (just (aLoad E.T 44 (fget φ 11))) := stT_go rfl (goT_R rfl rfl)
theorem s62_1_6 : stepT E C B 15 r62_1 o62_1_6 (φ, H) = callVT E C (B + 15 * 8) (some 13) (fun j => B + j * 15 + 13) φ H (fget φ 8) [(fget φ 12)] true := stT_go rfl (goT_V rfl rfl)
theorem s62_1_7 : stepT E C B 15 r62_1 o62_1_7 (φ, H) = stpT (some 14) φ H (just (aBin E.T .mul 3 (fget φ 7) (fget φ 13))) := stT_go rfl (goT_R rfl rfl)
theorem s62_1_8 : stepT E C B 15 r62_1 o62_1_8 (φ, H) = some ((fput φ 6 (fget φ 14), H), ⟨false, [], []⟩) := stT_go rfl (goT_mv rfl rfl)
noncomputable def c62_4 : Code := kR c62_2
theorem x62_4 : execA E C (fg 62) B 15 E0 N c62_4 s = some (.ret, s) := x_ret (by rfl) s
theorem x62_2 : execA E C (fg 62) B 15 E0 N c62_2 s = seqX (execA E C (fg 62) B 15 E0 N c62_3 s) (execA E C (fg 62) B 15 E0 N c62_4) := x_seq (by rfl) s
theorem x62_0 : execA E C (fg 62) B 15 E0 N c62_0 s = seqX (execA E C (fg 62) B 15 E0 N c62_1 s) (execA E C (fg 62) B 15 E0 N c62_2) := x_seq (by rfl) s
theorem fi_62 : fInfo E 62 = some ⟨15, #[.tmp 6], c62_0⟩ := nrfl rfl
theorem b_62 (args : List AV) : bodyA E C fg N 62 args H B = bodyX E [.tmp 6] (execA E C (fg 62) B 15 H N c62_0 (frame0 args 0 [], H)) := bodyA_eq fi_62 args H
/-! ### f56: (novaculite/prop.row[int]).sum -/
noncomputable def c56_0 : Code := kBody Proofs.Try.f56
noncomputable def c56_1 : Code := kL c56_0
noncomputable def r56_0 : Array Oper := kO c56_1
noncomputable def o56_0_0 : Oper := opN r56_0 0
theorem x56_1 : execA E C (fg 56) B 26 E0 N c56_1 s = regX (runA E C B 26 r56_0 r56_0.toList s) (fun s => gcM E0 [6] (forget s.1 [6], s.2)) := x_reg (ops := r56_0) (by rfl) (by rfl) s
theorem r56_0_l : r56_0.toList = [o56_0_0] := nrfl rfl
theorem s56_0_0 : stepA E C B 26 r56_0 o56_0_0 (φ, H) = some (fput φ 6 (.int .i64 0), H) := nrfl rfl
noncomputable def c56_2 : Code := kR c56_0
noncomputable def c56_3 : Code := kL c56_2
noncomputable def r56_1 : Array Oper := kO c56_3
noncomputable def o56_1_0 : Oper := opN r56_1 0
theorem x56_3 : execA E C (fg 56) B 26 E0 N c56_3 s = regX (runA E C B 26 r56_1 r56_1.toList s) (fun s => gcM E0 [] (forget s.1 [], s.2)) := x_reg (ops := r56_1) (by rfl) (by rfl) s
theorem r56_1_l : r56_1.toList = [o56_1_0] := nrfl rfl
theorem s56_1_0 : stepA E C B 26 r56_1 o56_1_0 (φ, H) = some (fput φ 7 (.int .i64 0), H) := nrfl rfl
noncomputable def c56_4 : Code := kR c56_2
noncomputable def c56_5 : Code := kL c56_4
noncomputable def c56_6 : Code := kL c56_5
noncomputable def r56_2 : Array Oper := kO c56_6
noncomputable def o56_2_0 : Oper := opN r56_2 0
noncomputable def o56_2_1 : Oper := opN r56_2 1
theorem x56_6 : execA E C (fg 56) B 26 E0 N c56_6 s = regX (runA E C B 26 r56_2 r56_2.toList s) (fun s => gcM E0 [1, 9] (forget s.1 [1, 9], s.2)) := x_reg (ops := r56_2) (by rfl) (by rfl) s
theorem r56_2_l : r56_2.toList = [o56_2_0, o56_2_1] := nrfl rfl
theorem s56_2_0 : stepA E C B 26 r56_2 o56_2_0 (φ, H) = some (fput φ 9 (fget φ 1), H) := nrfl rfl
theorem s56_2_1 : stepA E C B 26 r56_2 o56_2_1 (φ, H) = some (fput φ 8 (fget φ 9), H) := nrfl rfl
noncomputable def c56_7 : Code := kR c56_5
noncomputable def c56_8 : Code := kB c56_7
noncomputable def c56_9 : Code := kB c56_8
noncomputable def c56_10 : Code := kL c56_9
noncomputable def c56_11 : Code := kL c56_10
noncomputable def r56_3 : Array Oper := kO c56_11
noncomputable def o56_3_0 : Oper := opN r56_3 0
noncomputable def o56_3_1 : Oper := opN r56_3 1
noncomputable def o56_3_2 : Oper := opN r56_3 2
noncomputable def o56_3_3 : Oper := opN r56_3 3
theorem x56_11 : execA E C (fg 56) B 26 E0 N c56_11 s = regX (runA E C B 26 r56_3 r56_3.toList s) (fun s => gcM E0 [10, 11, 12] (forget s.1 [10, 11, 12], s.2)) := x_reg (ops := r56_3) (by rfl) (by rfl) s
theorem r56_3_l : r56_3.toList = [o56_3_0, o56_3_1, o56_3_2, o56_3_3] := nrfl rfl
theorem s56_3_0 : stepA E C B 26 r56_3 o56_3_0 (φ, H) = some (fput φ 10 (fget φ 8), H) := nrfl rfl
theorem s56_3_1 : stepA E C B 26 r56_3 o56_3_1 (φ, H) = some (fput φ 11 (fget φ 0), H) := nrfl rfl
theorem s56_3_2 : stepA E C B 26 r56_3 o56_3_2 (φ, H) = stp (some 12) φ H (aBuiltin E.T (B + 12) .len #[90] [(fget φ 11)]) := nrfl rfl
theorem s56_3_3 : stepA E C B 26 r56_3 o56_3_3 (φ, H) = stp (some 13) φ H (just (aBin E.T .lss 3 (fget φ 10) (fget φ 12))) := nrfl rfl
noncomputable def c56_12 : Code := kR c56_10
noncomputable def c56_13 : Code := kT c56_12
theorem x56_13 : execA E C (fg 56) B 26 E0 N c56_13 s = some (.normal, s) := x_skip (by rfl) s
noncomputable def c56_14 : Code := kE c56_12
theorem x56_14 : execA E C (fg 56) B 26 E0 N c56_14 s = some (.exit 0, s) := x_exit (by rfl) s
theorem x56_12 : execA E C (fg 56) B 26 E0 N c56_12 (φ, H) = condX (fget φ 13) (execA E C (fg 56) B 26 E0 N c56_13 (φ, H)) (execA E C (fg 56) B 26 E0 N c56_14 (φ, H)) := x_cond (by rfl) _
theorem x56_10 : execA E C (fg 56) B 26 E0 N c56_10 s = seqX (execA E C (fg 56) B 26 E0 N c56_11 s) (execA E C (fg 56) B 26 E0 N c56_12) := x_seq (by rfl) s
noncomputable def c56_15 : Code := kR c56_9
noncomputable def c56_16 : Code := kL c56_15
noncomputable def c56_17 : Code := kB c56_16
noncomputable def r56_5 : Array Oper := kO c56_17
noncomputable def o56_5_0 : Oper := opN r56_5 0
noncomputable def o56_5_1 : Oper := opN r56_5 1
noncomputable def o56_5_2 : Oper := opN r56_5 2
noncomputable def o56_5_3 : Oper := opN r56_5 3
noncomputable def o56_5_4 : Oper := opN r56_5 4
noncomputable def o56_5_5 : Oper := opN r56_5 5
noncomputable def o56_5_6 : Oper := opN r56_5 6
noncomputable def o56_5_7 : Oper := opN r56_5 7
noncomputable def o56_5_8 : Oper := opN r56_5 8
noncomputable def o56_5_9 : Oper := opN r56_5 9
theorem x56_17 : execA E C (fg 56) B 26 E0 N c56_17 s = regX (runA E C B 26 r56_5 r56_5.toList s) (fun s => gcM E0 [13, 16, 17, 18, 19, 20, 21, 22, 23, 24] (forget s.1 [13, 16, 17, 18, 19, 20, 21, 22, 23, 24], s.2)) := x_reg (ops := r56_5) (by rfl) (by rfl) s
theorem r56_5_l : r56_5.toList = [o56_5_0, o56_5_1, o56_5_2, o56_5_3, o56_5_4, o56_5_5, o56_5_6, o56_5_7, o56_5_8, o56_5_9] := nrfl rfl
theorem s56_5_0 : stepA E C B 26 r56_5 o56_5_0 (φ, H) = some (fput φ 16 (fget φ 7), H) := nrfl rfl
theorem s56_5_1 : stepA E C B 26 r56_5 o56_5_1 (φ, H) = some (fput φ 17 (fget φ 2), H) := nrfl rfl
theorem s56_5_2 : stepA E C B 26 r56_5 o56_5_2 (φ, H) = some (fput φ 18 (fget φ 8), H) := nrfl rfl
theorem s56_5_3 : stepA E C B 26 r56_5 o56_5_3 (φ, H) = some (fput φ 19 (fget φ 0), H) := nrfl rfl
theorem s56_5_4 : stepA E C B 26 r56_5 o56_5_4 (φ, H) = some (fput φ 20 (fget φ 8), H) := nrfl rfl
theorem s56_5_5 : stepA E C B 26 r56_5 o56_5_5 (φ, H) = stp (some 21) φ H (just (aIndexAddr E.T 90 (fget φ 19) (fget φ 20))) := nrfl rfl
theorem s56_5_6 : stepA E C B 26 r56_5 o56_5_6 (φ, H) = stp (some 22) φ H (just (aLoad E.T 3 (fget φ 21))) := nrfl rfl
theorem s56_5_7 : stepA E C B 26 r56_5 o56_5_7 (φ, H) = callV E C (B + 26 * 8) (some 23) (fun j => B + j * 26 + 23) φ H (fget φ 17) [(fget φ 18), (fget φ 22)] true := nrfl rfl
theorem s56_5_8 : stepA E C B 26 r56_5 o56_5_8 (φ, H) = stp (some 24) φ H (just (aBin E.T .add 3 (fget φ 16) (fget φ 23))) := nrfl rfl
theorem s56_5_9 : stepA E C B 26 r56_5 o56_5_9 (φ, H) = some (fput φ 7 (fget φ 24), H) := nrfl rfl
theorem x56_16 : execA E C (fg 56) B 26 E0 N c56_16 s = blockX 1 (fun s => (forget s.1 [], s.2)) (execA E C (fg 56) B 26 E0 N c56_17 s) := x_block (by rfl) (by rfl) s
noncomputable def c56_18 : Code := kR c56_15
noncomputable def r56_4 : Array Oper := kO c56_18
noncomputable def o56_4_0 : Oper := opN r56_4 0
noncomputable def o56_4_1 : Oper := opN r56_4 1
noncomputable def o56_4_2 : Oper := opN r56_4 2
theorem x56_18 : execA E C (fg 56) B 26 E0 N c56_18 s = regX (runA E C B 26 r56_4 r56_4.toList s) (fun s => gcM E0 [14, 15] (forget s.1 [14, 15], s.2)) := x_reg (ops := r56_4) (by rfl) (by rfl) s
theorem r56_4_l : r56_4.toList = [o56_4_0, o56_4_1, o56_4_2] := nrfl rfl
theorem s56_4_0 : stepA E C B 26 r56_4 o56_4_0 (φ, H) = some (fput φ 14 (fget φ 8), H) := nrfl rfl
theorem s56_4_1 : stepA E C B 26 r56_4 o56_4_1 (φ, H) = stp (some 15) φ H (just (aBin E.T .add 3 (fget φ 14) (.int .i64 1))) := nrfl rfl
theorem s56_4_2 : stepA E C B 26 r56_4 o56_4_2 (φ, H) = some (fput φ 8 (fget φ 15), H) := nrfl rfl
theorem x56_15 : execA E C (fg 56) B 26 E0 N c56_15 s = seqX (execA E C (fg 56) B 26 E0 N c56_16 s) (execA E C (fg 56) B 26 E0 N c56_18) := x_seq (by rfl) s
theorem x56_9 : execA E C (fg 56) B 26 E0 N c56_9 s = seqX (execA E C (fg 56) B 26 E0 N c56_10 s) (execA E C (fg 56) B 26 E0 N c56_15) := x_seq (by rfl) s
-- a loop of f56: x56_8; body c56_9; slots [8, 7, 2, 0]
theorem x56_8 : execA E C (fg 56) B 26 E0 N c56_8 s = iterA (execA E C (fg 56) B 26 E0 N c56_9) (headA E0) N s := x_loop (by rfl) s
theorem x56_7 : execA E C (fg 56) B 26 E0 N c56_7 s = blockX 0 (fun s => (forget s.1 [0, 2, 8, 13], s.2)) (execA E C (fg 56) B 26 E0 N c56_8 s) := x_block (by rfl) (by rfl) s
theorem x56_5 : execA E C (fg 56) B 26 E0 N c56_5 s = seqX (execA E C (fg 56) B 26 E0 N c56_6 s) (execA E C (fg 56) B 26 E0 N c56_7) := x_seq (by rfl) s
noncomputable def c56_19 : Code := kR c56_4
noncomputable def c56_20 : Code := kL c56_19
noncomputable def r56_6 : Array Oper := kO c56_20
noncomputable def o56_6_0 : Oper := opN r56_6 0
noncomputable def o56_6_1 : Oper := opN r56_6 1
theorem x56_20 : execA E C (fg 56) B 26 E0 N c56_20 s = regX (runA E C B 26 r56_6 r56_6.toList s) (fun s => gcM E0 [7, 25] (forget s.1 [7, 25], s.2)) := x_reg (ops := r56_6) (by rfl) (by rfl) s
theorem r56_6_l : r56_6.toList = [o56_6_0, o56_6_1] := nrfl rfl
theorem s56_6_0 : stepA E C B 26 r56_6 o56_6_0 (φ, H) = some (fput φ 25 (fget φ 7), H) := nrfl rfl
theorem s56_6_1 : stepA E C B 26 r56_6 o56_6_1 (φ, H) = some (fput φ 6 (fget φ 25), H) := nrfl rfl
noncomputable def c56_21 : Code := kR c56_19
theorem x56_21 : execA E C (fg 56) B 26 E0 N c56_21 s = some (.ret, s) := x_ret (by rfl) s
theorem x56_19 : execA E C (fg 56) B 26 E0 N c56_19 s = seqX (execA E C (fg 56) B 26 E0 N c56_20 s) (execA E C (fg 56) B 26 E0 N c56_21) := x_seq (by rfl) s
theorem x56_4 : execA E C (fg 56) B 26 E0 N c56_4 s = seqX (execA E C (fg 56) B 26 E0 N c56_5 s) (execA E C (fg 56) B 26 E0 N c56_19) := x_seq (by rfl) s
theorem x56_2 : execA E C (fg 56) B 26 E0 N c56_2 s = seqX (execA E C (fg 56) B 26 E0 N c56_3 s) (execA E C (fg 56) B 26 E0 N c56_4) := x_seq (by rfl) s
theorem x56_0 : execA E C (fg 56) B 26 E0 N c56_0 s = seqX (execA E C (fg 56) B 26 E0 N c56_1 s) (execA E C (fg 56) B 26 E0 N c56_2) := x_seq (by rfl) s
theorem fi_56 : fInfo E 56 = some ⟨26, #[.tmp 6], c56_0⟩ := nrfl rfl
theorem b_56 (args : List AV) : bodyA E C fg N 56 args H B = bodyX E [.tmp 6] (execA E C (fg 56) B 26 H N c56_0 (frame0 args 0 [], H)) := bodyA_eq fi_56 args H
/-! ### f39: novaculite/prop.moment -/
noncomputable def c39_0 : Code := kBody Proofs.Try.f39
noncomputable def c39_1 : Code := kL c39_0
noncomputable def r39_0 : Array Oper := kO c39_1
noncomputable def o39_0_0 : Oper := opN r39_0 0
noncomputable def o39_0_1 : Oper := opN r39_0 1
theorem x39_1 : execA E C (fg 39) B 18 E0 N c39_1 s = regX (runA E C B 18 r39_0 r39_0.toList s) (fun s => gcM E0 [0, 8] (forget s.1 [0, 8], s.2)) := x_reg (ops := r39_0) (by rfl) (by rfl) s
theorem r39_0_l : r39_0.toList = [o39_0_0, o39_0_1] := nrfl rfl
theorem s39_0_0 : stepA E C B 18 r39_0 o39_0_0 (φ, H) = stp (some 4) φ H (opBox (B + 4) (acells (fget φ 0))) := nrfl rfl
theorem s39_0_1 : stepA E C B 18 r39_0 o39_0_1 (φ, H) = some (fput φ 8 (.int .i64 0), H) := nrfl rfl
noncomputable def c39_2 : Code := kR c39_0
noncomputable def c39_3 : Code := kL c39_2
noncomputable def r39_1 : Array Oper := kO c39_3
noncomputable def o39_1_0 : Oper := opN r39_1 0
noncomputable def o39_1_1 : Oper := opN r39_1 1
noncomputable def o39_1_2 : Oper := opN r39_1 2
noncomputable def o39_1_3 : Oper := opN r39_1 3
noncomputable def o39_1_4 : Oper := opN r39_1 4
noncomputable def o39_1_5 : Oper := opN r39_1 5
theorem x39_3 : execA E C (fg 39) B 18 E0 N c39_3 s = regX (runA E C B 18 r39_1 r39_1.toList s) (fun s => gcM E0 [3, 10, 11, 12, 13] (forget s.1 [3, 10, 11, 12, 13], s.2)) := x_reg (ops := r39_1) (by rfl) (by rfl) s
theorem r39_1_l : r39_1.toList = [o39_1_0, o39_1_1, o39_1_2, o39_1_3, o39_1_4, o39_1_5] := nrfl rfl
theorem s39_1_0 : stepA E C B 18 r39_1 o39_1_0 (φ, H) = stp (some 10) φ H (just (aLoad E.T 27 (fget φ 4))) := nrfl rfl
theorem s39_1_1 : stepA E C B 18 r39_1 o39_1_1 (φ, H) = some (fput φ 11 (fget φ 2), H) := nrfl rfl
theorem s39_1_2 : stepA E C B 18 r39_1 o39_1_2 (φ, H) = some (fput φ 12 (fget φ 3), H) := nrfl rfl
theorem s39_1_3 : stepA E C B 18 r39_1 o39_1_3 (φ, H) = stp (some 13) φ H (aCall C (fun j => B + j * 18 + 13) true 36 [(fget φ 10), (fget φ 11), (fget φ 12)]) := nrfl rfl
theorem s39_1_4 : stepA E C B 18 r39_1 o39_1_4 (φ, H) = stp (some 9) φ H (opBox (B + 9) (zeroCells E.T 67)) := nrfl rfl
theorem s39_1_5 : stepA E C B 18 r39_1 o39_1_5 (φ, H) = stp none φ H (opStore E.T 67 (fget φ 9) (fget φ 13)) := nrfl rfl
noncomputable def c39_4 : Code := kR c39_2
noncomputable def c39_5 : Code := kL c39_4
noncomputable def r39_2 : Array Oper := kO c39_5
noncomputable def o39_2_0 : Oper := opN r39_2 0
noncomputable def o39_2_1 : Oper := opN r39_2 1
noncomputable def o39_2_2 : Oper := opN r39_2 2
noncomputable def o39_2_3 : Oper := opN r39_2 3
noncomputable def o39_2_4 : Oper := opN r39_2 4
theorem x39_5 : execA E C (fg 39) B 18 E0 N c39_5 s = regX (runA E C B 18 r39_2 r39_2.toList s) (fun s => gcM E0 [1, 2, 4, 9, 14, 15, 16, 17] (forget s.1 [1, 2, 4, 9, 14, 15, 16, 17], s.2)) := x_reg (ops := r39_2) (by rfl) (by rfl) s
theorem r39_2_l : r39_2.toList = [o39_2_0, o39_2_1, o39_2_2, o39_2_3, o39_2_4] := nrfl rfl
theorem s39_2_0 : stepA E C B 18 r39_2 o39_2_0 (φ, H) = some (fput φ 14 (fget φ 1), H) := nrfl rfl
theorem s39_2_1 : stepA E C B 18 r39_2 o39_2_1 (φ, H) = some (fput φ 15 (fget φ 2), H) := nrfl rfl
theorem s39_2_2 : stepA E C B 18 r39_2 o39_2_2 (φ, H) = stp (some 16) φ H (.pure (.clo 62 [(fget φ 9), (fget φ 4)], [])) := nrfl rfl
theorem s39_2_3 : stepA E C B 18 r39_2 o39_2_3 (φ, H) = stp (some 17) φ H (aCall C (fun j => B + j * 18 + 17) true 56 [(fget φ 14), (fget φ 15), (fget φ 16)]) := nrfl rfl
theorem s39_2_4 : stepA E C B 18 r39_2 o39_2_4 (φ, H) = some (fput φ 8 (fget φ 17), H) := nrfl rfl
noncomputable def c39_6 : Code := kR c39_4
theorem x39_6 : execA E C (fg 39) B 18 E0 N c39_6 s = some (.ret, s) := x_ret (by rfl) s
theorem x39_4 : execA E C (fg 39) B 18 E0 N c39_4 s = seqX (execA E C (fg 39) B 18 E0 N c39_5 s) (execA E C (fg 39) B 18 E0 N c39_6) := x_seq (by rfl) s
theorem x39_2 : execA E C (fg 39) B 18 E0 N c39_2 s = seqX (execA E C (fg 39) B 18 E0 N c39_3 s) (execA E C (fg 39) B 18 E0 N c39_4) := x_seq (by rfl) s
theorem x39_0 : execA E C (fg 39) B 18 E0 N c39_0 s = seqX (execA E C (fg 39) B 18 E0 N c39_1 s) (execA E C (fg 39) B 18 E0 N c39_2) := x_seq (by rfl) s
theorem fi_39 : fInfo E 39 = some ⟨18, #[.tmp 8], c39_0⟩ := nrfl rfl
theorem b_39 (args : List AV) : bodyA E C fg N 39 args H B = bodyX E [.tmp 8] (execA E C (fg 39) B 18 H N c39_0 (frame0 args 0 [], H)) := bodyA_eq fi_39 args H
/-! ### f15: novaculite/prop.Moment -/
noncomputable def c15_0 : Code := kBody Proofs.Try.f15
noncomputable def c15_1 : Code := kL c15_0
noncomputable def r15_0 : Array Oper := kO c15_1
noncomputable def o15_0_0 : Oper := opN r15_0 0
noncomputable def o15_0_1 : Oper := opN r15_0 1
theorem x15_1 : execA E C (fg 15) B 30 E0 N c15_1 s = regX (runA E C B 30 r15_0 r15_0.toList s) (fun s => gcM E0 [8, 9] (forget s.1 [8, 9], s.2)) := x_reg (ops := r15_0) (by rfl) (by rfl) s
theorem r15_0_l : r15_0.toList = [o15_0_0, o15_0_1] := nrfl rfl
theorem s15_0_0 : stepA E C B 30 r15_0 o15_0_0 (φ, H) = some (fput φ 8 (.int .i64 0), H) := nrfl rfl
theorem s15_0_1 : stepA E C B 30 r15_0 o15_0_1 (φ, H) = some (fput φ 9 (.int .i64 0), H) := nrfl rfl
noncomputable def c15_2 : Code := kR c15_0
noncomputable def c15_3 : Code := kL c15_2
noncomputable def c15_4 : Code := kL c15_3
noncomputable def r15_1 : Array Oper := kO c15_4
noncomputable def o15_1_0 : Oper := opN r15_1 0
noncomputable def o15_1_1 : Oper := opN r15_1 1
noncomputable def o15_1_2 : Oper := opN r15_1 2
noncomputable def o15_1_3 : Oper := opN r15_1 3
noncomputable def o15_1_4 : Oper := opN r15_1 4
theorem x15_4 : execA E C (fg 15) B 30 E0 N c15_4 s = regX (runA E C B 30 r15_1 r15_1.toList s) (fun s => gcM E0 [12, 13, 14, 15] (forget s.1 [12, 13, 14, 15], s.2)) := x_reg (ops := r15_1) (by rfl) (by rfl) s
theorem r15_1_l : r15_1.toList = [o15_1_0, o15_1_1, o15_1_2, o15_1_3, o15_1_4] := nrfl rfl
theorem s15_1_0 : stepA E C B 30 r15_1 o15_1_0 (φ, H) = some (fput φ 12 (fget φ 0), H) := nrfl rfl
theorem s15_1_1 : stepA E C B 30 r15_1 o15_1_1 (φ, H) = some (fput φ 13 (fget φ 2), H) := nrfl rfl
theorem s15_1_2 : stepA E C B 30 r15_1 o15_1_2 (φ, H) = some (fput φ 14 (fget φ 3), H) := nrfl rfl
theorem s15_1_3 : stepA E C B 30 r15_1 o15_1_3 (φ, H) = stp (some 15) φ H (aCall C (fun j => B + j * 30 + 15) true 35 [(fget φ 12), (fget φ 13), (fget φ 14)]) := nrfl rfl
theorem s15_1_4 : stepA E C B 30 r15_1 o15_1_4 (φ, H) = some (fput φ 10 (fget φ 15), H) := nrfl rfl
noncomputable def c15_5 : Code := kR c15_3
noncomputable def c15_6 : Code := kL c15_5
noncomputable def r15_2 : Array Oper := kO c15_6
noncomputable def o15_2_0 : Oper := opN r15_2 0
noncomputable def o15_2_1 : Oper := opN r15_2 1
theorem x15_6 : execA E C (fg 15) B 30 E0 N c15_6 s = regX (runA E C B 30 r15_2 r15_2.toList s) (fun s => gcM E0 [16] (forget s.1 [16], s.2)) := x_reg (ops := r15_2) (by rfl) (by rfl) s
theorem r15_2_l : r15_2.toList = [o15_2_0, o15_2_1] := nrfl rfl
theorem s15_2_0 : stepA E C B 30 r15_2 o15_2_0 (φ, H) = some (fput φ 16 (fget φ 10), H) := nrfl rfl
theorem s15_2_1 : stepA E C B 30 r15_2 o15_2_1 (φ, H) = stp (some 17) φ H (just (aBin E.T .neq 30 (fget φ 16) (.int .i64 0))) := nrfl rfl
noncomputable def c15_7 : Code := kR c15_5
noncomputable def c15_8 : Code := kT c15_7
noncomputable def c15_9 : Code := kL c15_8
noncomputable def r15_3 : Array Oper := kO c15_9
noncomputable def o15_3_0 : Oper := opN r15_3 0
noncomputable def o15_3_1 : Oper := opN r15_3 1
noncomputable def o15_3_2 : Oper := opN r15_3 2
theorem x15_9 : execA E C (fg 15) B 30 E0 N c15_9 s = regX (runA E C B 30 r15_3 r15_3.toList s) (fun s => gcM E0 [0, 1, 2, 3, 10, 17, 18] (forget s.1 [0, 1, 2, 3, 10, 17, 18], s.2)) := x_reg (ops := r15_3) (by rfl) (by rfl) s
theorem r15_3_l : r15_3.toList = [o15_3_0, o15_3_1, o15_3_2] := nrfl rfl
theorem s15_3_0 : stepA E C B 30 r15_3 o15_3_0 (φ, H) = some (fput φ 18 (fget φ 10), H) := nrfl rfl
theorem s15_3_1 : stepA E C B 30 r15_3 o15_3_1 (φ, H) = some (fput φ 8 (.int .i64 0), H) := nrfl rfl
theorem s15_3_2 : stepA E C B 30 r15_3 o15_3_2 (φ, H) = some (fput φ 9 (fget φ 18), H) := nrfl rfl
noncomputable def c15_10 : Code := kR c15_8
theorem x15_10 : execA E C (fg 15) B 30 E0 N c15_10 s = some (.ret, s) := x_ret (by rfl) s
theorem x15_8 : execA E C (fg 15) B 30 E0 N c15_8 s = seqX (execA E C (fg 15) B 30 E0 N c15_9 s) (execA E C (fg 15) B 30 E0 N c15_10) := x_seq (by rfl) s
noncomputable def c15_11 : Code := kE c15_7
theorem x15_11 : execA E C (fg 15) B 30 E0 N c15_11 s = some (.normal, s) := x_skip (by rfl) s
theorem x15_7 : execA E C (fg 15) B 30 E0 N c15_7 (φ, H) = condX (fget φ 17) (execA E C (fg 15) B 30 E0 N c15_8 (φ, H)) (execA E C (fg 15) B 30 E0 N c15_11 (φ, H)) := x_cond (by rfl) _
theorem x15_5 : execA E C (fg 15) B 30 E0 N c15_5 s = seqX (execA E C (fg 15) B 30 E0 N c15_6 s) (execA E C (fg 15) B 30 E0 N c15_7) := x_seq (by rfl) s
theorem x15_3 : execA E C (fg 15) B 30 E0 N c15_3 s = seqX (execA E C (fg 15) B 30 E0 N c15_4 s) (execA E C (fg 15) B 30 E0 N c15_5) := x_seq (by rfl) s
noncomputable def c15_12 : Code := kR c15_2
noncomputable def c15_13 : Code := kL c15_12
noncomputable def c15_14 : Code := kL c15_13
noncomputable def r15_4 : Array Oper := kO c15_14
noncomputable def o15_4_0 : Oper := opN r15_4 0
noncomputable def o15_4_1 : Oper := opN r15_4 1
noncomputable def o15_4_2 : Oper := opN r15_4 2
noncomputable def o15_4_3 : Oper := opN r15_4 3
theorem x15_14 : execA E C (fg 15) B 30 E0 N c15_14 s = regX (runA E C B 30 r15_4 r15_4.toList s) (fun s => gcM E0 [10, 17, 19, 20, 21] (forget s.1 [10, 17, 19, 20, 21], s.2)) := x_reg (ops := r15_4) (by rfl) (by rfl) s
theorem r15_4_l : r15_4.toList = [o15_4_0, o15_4_1, o15_4_2, o15_4_3] := nrfl rfl
theorem s15_4_0 : stepA E C B 30 r15_4 o15_4_0 (φ, H) = some (fput φ 19 (fget φ 0), H) := nrfl rfl
theorem s15_4_1 : stepA E C B 30 r15_4 o15_4_1 (φ, H) = some (fput φ 20 (fget φ 1), H) := nrfl rfl
theorem s15_4_2 : stepA E C B 30 r15_4 o15_4_2 (φ, H) = stp (some 21) φ H (aCall C (fun j => B + j * 30 + 21) true 38 [(fget φ 19), (fget φ 20)]) := nrfl rfl
theorem s15_4_3 : stepA E C B 30 r15_4 o15_4_3 (φ, H) = some (fput φ 11 (fget φ 21), H) := nrfl rfl
noncomputable def c15_15 : Code := kR c15_13
noncomputable def c15_16 : Code := kL c15_15
noncomputable def r15_5 : Array Oper := kO c15_16
noncomputable def o15_5_0 : Oper := opN r15_5 0
noncomputable def o15_5_1 : Oper := opN r15_5 1
theorem x15_16 : execA E C (fg 15) B 30 E0 N c15_16 s = regX (runA E C B 30 r15_5 r15_5.toList s) (fun s => gcM E0 [22] (forget s.1 [22], s.2)) := x_reg (ops := r15_5) (by rfl) (by rfl) s
theorem r15_5_l : r15_5.toList = [o15_5_0, o15_5_1] := nrfl rfl
theorem s15_5_0 : stepA E C B 30 r15_5 o15_5_0 (φ, H) = some (fput φ 22 (fget φ 11), H) := nrfl rfl
theorem s15_5_1 : stepA E C B 30 r15_5 o15_5_1 (φ, H) = stp (some 23) φ H (just (aBin E.T .neq 30 (fget φ 22) (.int .i64 0))) := nrfl rfl
noncomputable def c15_17 : Code := kR c15_15
noncomputable def c15_18 : Code := kT c15_17
noncomputable def c15_19 : Code := kL c15_18
noncomputable def r15_6 : Array Oper := kO c15_19
noncomputable def o15_6_0 : Oper := opN r15_6 0
noncomputable def o15_6_1 : Oper := opN r15_6 1
noncomputable def o15_6_2 : Oper := opN r15_6 2
theorem x15_19 : execA E C (fg 15) B 30 E0 N c15_19 s = regX (runA E C B 30 r15_6 r15_6.toList s) (fun s => gcM E0 [0, 1, 2, 3, 11, 23, 24] (forget s.1 [0, 1, 2, 3, 11, 23, 24], s.2)) := x_reg (ops := r15_6) (by rfl) (by rfl) s
theorem r15_6_l : r15_6.toList = [o15_6_0, o15_6_1, o15_6_2] := nrfl rfl
theorem s15_6_0 : stepA E C B 30 r15_6 o15_6_0 (φ, H) = some (fput φ 24 (fget φ 11), H) := nrfl rfl
theorem s15_6_1 : stepA E C B 30 r15_6 o15_6_1 (φ, H) = some (fput φ 8 (.int .i64 0), H) := nrfl rfl
theorem s15_6_2 : stepA E C B 30 r15_6 o15_6_2 (φ, H) = some (fput φ 9 (fget φ 24), H) := nrfl rfl
noncomputable def c15_20 : Code := kR c15_18
theorem x15_20 : execA E C (fg 15) B 30 E0 N c15_20 s = some (.ret, s) := x_ret (by rfl) s
theorem x15_18 : execA E C (fg 15) B 30 E0 N c15_18 s = seqX (execA E C (fg 15) B 30 E0 N c15_19 s) (execA E C (fg 15) B 30 E0 N c15_20) := x_seq (by rfl) s
noncomputable def c15_21 : Code := kE c15_17
theorem x15_21 : execA E C (fg 15) B 30 E0 N c15_21 s = some (.normal, s) := x_skip (by rfl) s
theorem x15_17 : execA E C (fg 15) B 30 E0 N c15_17 (φ, H) = condX (fget φ 23) (execA E C (fg 15) B 30 E0 N c15_18 (φ, H)) (execA E C (fg 15) B 30 E0 N c15_21 (φ, H)) := x_cond (by rfl) _
theorem x15_15 : execA E C (fg 15) B 30 E0 N c15_15 s = seqX (execA E C (fg 15) B 30 E0 N c15_16 s) (execA E C (fg 15) B 30 E0 N c15_17) := x_seq (by rfl) s
theorem x15_13 : execA E C (fg 15) B 30 E0 N c15_13 s = seqX (execA E C (fg 15) B 30 E0 N c15_14 s) (execA E C (fg 15) B 30 E0 N c15_15) := x_seq (by rfl) s
noncomputable def c15_22 : Code := kR c15_12
noncomputable def c15_23 : Code := kL c15_22
noncomputable def r15_7 : Array Oper := kO c15_23
noncomputable def o15_7_0 : Oper := opN r15_7 0
noncomputable def o15_7_1 : Oper := opN r15_7 1
noncomputable def o15_7_2 : Oper := opN r15_7 2
noncomputable def o15_7_3 : Oper := opN r15_7 3
noncomputable def o15_7_4 : Oper := opN r15_7 4
noncomputable def o15_7_5 : Oper := opN r15_7 5
noncomputable def o15_7_6 : Oper := opN r15_7 6
theorem x15_23 : execA E C (fg 15) B 30 E0 N c15_23 s = regX (runA E C B 30 r15_7 r15_7.toList s) (fun s => gcM E0 [0, 1, 2, 3, 11, 23, 25, 26, 27, 28, 29] (forget s.1 [0, 1, 2, 3, 11, 23, 25, 26, 27, 28, 29], s.2)) := x_reg (ops := r15_7) (by rfl) (by rfl) s
theorem r15_7_l : r15_7.toList = [o15_7_0, o15_7_1, o15_7_2, o15_7_3, o15_7_4, o15_7_5, o15_7_6] := nrfl rfl
theorem s15_7_0 : stepA E C B 30 r15_7 o15_7_0 (φ, H) = some (fput φ 25 (fget φ 0), H) := nrfl rfl
theorem s15_7_1 : stepA E C B 30 r15_7 o15_7_1 (φ, H) = some (fput φ 26 (fget φ 1), H) := nrfl rfl
theorem s15_7_2 : stepA E C B 30 r15_7 o15_7_2 (φ, H) = some (fput φ 27 (fget φ 2), H) := nrfl rfl
theorem s15_7_3 : stepA E C B 30 r15_7 o15_7_3 (φ, H) = some (fput φ 28 (fget φ 3), H) := nrfl rfl
theorem s15_7_4 : stepA E C B 30 r15_7 o15_7_4 (φ, H) = stp (some 29) φ H (aCall C (fun j => B + j * 30 + 29) true 39 [(fget φ 25), (fget φ 26), (fget φ 27), (fget φ 28)]) := nrfl rfl
theorem s15_7_5 : stepA E C B 30 r15_7 o15_7_5 (φ, H) = some (fput φ 8 (fget φ 29), H) := nrfl rfl
theorem s15_7_6 : stepA E C B 30 r15_7 o15_7_6 (φ, H) = some (fput φ 9 (.int .i64 0), H) := nrfl rfl
noncomputable def c15_24 : Code := kR c15_22
theorem x15_24 : execA E C (fg 15) B 30 E0 N c15_24 s = some (.ret, s) := x_ret (by rfl) s
theorem x15_22 : execA E C (fg 15) B 30 E0 N c15_22 s = seqX (execA E C (fg 15) B 30 E0 N c15_23 s) (execA E C (fg 15) B 30 E0 N c15_24) := x_seq (by rfl) s
theorem x15_12 : execA E C (fg 15) B 30 E0 N c15_12 s = seqX (execA E C (fg 15) B 30 E0 N c15_13 s) (execA E C (fg 15) B 30 E0 N c15_22) := x_seq (by rfl) s
theorem x15_2 : execA E C (fg 15) B 30 E0 N c15_2 s = seqX (execA E C (fg 15) B 30 E0 N c15_3 s) (execA E C (fg 15) B 30 E0 N c15_12) := x_seq (by rfl) s
theorem x15_0 : execA E C (fg 15) B 30 E0 N c15_0 s = seqX (execA E C (fg 15) B 30 E0 N c15_1 s) (execA E C (fg 15) B 30 E0 N c15_2) := x_seq (by rfl) s
theorem fi_15 : fInfo E 15 = some ⟨30, #[.tmp 8, .tmp 9], c15_0⟩ := nrfl rfl
theorem b_15 (args : List AV) : bodyA E C fg N 15 args H B = bodyX E [.tmp 8, .tmp 9] (execA E C (fg 15) B 30 H N c15_0 (frame0 args 0 [], H)) := bodyA_eq fi_15 args H
/-! ### f19: novaculite/prop.Proves -/
noncomputable def c19_0 : Code := kBody Proofs.Try.f19
noncomputable def c19_1 : Code := kL c19_0
noncomputable def r19_0 : Array Oper := kO c19_1
noncomputable def o19_0_0 : Oper := opN r19_0 0
theorem x19_1 : execA E C (fg 19) B 31 E0 N c19_1 s = regX (runA E C B 31 r19_0 r19_0.toList s) (fun s => gcM E0 [6] (forget s.1 [6], s.2)) := x_reg (ops := r19_0) (by rfl) (by rfl) s
theorem r19_0_l : r19_0.toList = [o19_0_0] := nrfl rfl
theorem s19_0_0 : stepA E C B 31 r19_0 o19_0_0 (φ, H) = some (fput φ 6 (.int .i64 0), H) := nrfl rfl
noncomputable def c19_2 : Code := kR c19_0
noncomputable def c19_3 : Code := kL c19_2
noncomputable def c19_4 : Code := kL c19_3
noncomputable def r19_1 : Array Oper := kO c19_4
noncomputable def o19_1_0 : Oper := opN r19_1 0
noncomputable def o19_1_1 : Oper := opN r19_1 1
noncomputable def o19_1_2 : Oper := opN r19_1 2
noncomputable def o19_1_3 : Oper := opN r19_1 3
theorem x19_4 : execA E C (fg 19) B 31 E0 N c19_4 s = regX (runA E C B 31 r19_1 r19_1.toList s) (fun s => gcM E0 [9, 10, 11] (forget s.1 [9, 10, 11], s.2)) := x_reg (ops := r19_1) (by rfl) (by rfl) s
theorem r19_1_l : r19_1.toList = [o19_1_0, o19_1_1, o19_1_2, o19_1_3] := nrfl rfl
theorem s19_1_0 : stepA E C B 31 r19_1 o19_1_0 (φ, H) = some (fput φ 9 (fget φ 0), H) := nrfl rfl
theorem s19_1_1 : stepA E C B 31 r19_1 o19_1_1 (φ, H) = some (fput φ 10 (fget φ 2), H) := nrfl rfl
theorem s19_1_2 : stepA E C B 31 r19_1 o19_1_2 (φ, H) = stp (some 11) φ H (aCall C (fun j => B + j * 31 + 11) true 40 [(fget φ 9), (fget φ 10)]) := nrfl rfl
theorem s19_1_3 : stepA E C B 31 r19_1 o19_1_3 (φ, H) = some (fput φ 7 (fget φ 11), H) := nrfl rfl
noncomputable def c19_5 : Code := kR c19_3
noncomputable def c19_6 : Code := kL c19_5
noncomputable def r19_2 : Array Oper := kO c19_6
noncomputable def o19_2_0 : Oper := opN r19_2 0
noncomputable def o19_2_1 : Oper := opN r19_2 1
theorem x19_6 : execA E C (fg 19) B 31 E0 N c19_6 s = regX (runA E C B 31 r19_2 r19_2.toList s) (fun s => gcM E0 [12] (forget s.1 [12], s.2)) := x_reg (ops := r19_2) (by rfl) (by rfl) s
theorem r19_2_l : r19_2.toList = [o19_2_0, o19_2_1] := nrfl rfl
theorem s19_2_0 : stepA E C B 31 r19_2 o19_2_0 (φ, H) = some (fput φ 12 (fget φ 7), H) := nrfl rfl
theorem s19_2_1 : stepA E C B 31 r19_2 o19_2_1 (φ, H) = stp (some 13) φ H (just (aBin E.T .neq 30 (fget φ 12) (.int .i64 0))) := nrfl rfl
noncomputable def c19_7 : Code := kR c19_5
noncomputable def c19_8 : Code := kT c19_7
noncomputable def c19_9 : Code := kL c19_8
noncomputable def r19_3 : Array Oper := kO c19_9
noncomputable def o19_3_0 : Oper := opN r19_3 0
noncomputable def o19_3_1 : Oper := opN r19_3 1
theorem x19_9 : execA E C (fg 19) B 31 E0 N c19_9 s = regX (runA E C B 31 r19_3 r19_3.toList s) (fun s => gcM E0 [0, 1, 2, 7, 13, 14] (forget s.1 [0, 1, 2, 7, 13, 14], s.2)) := x_reg (ops := r19_3) (by rfl) (by rfl) s
theorem r19_3_l : r19_3.toList = [o19_3_0, o19_3_1] := nrfl rfl
theorem s19_3_0 : stepA E C B 31 r19_3 o19_3_0 (φ, H) = some (fput φ 14 (fget φ 7), H) := nrfl rfl
theorem s19_3_1 : stepA E C B 31 r19_3 o19_3_1 (φ, H) = some (fput φ 6 (fget φ 14), H) := nrfl rfl
noncomputable def c19_10 : Code := kR c19_8
theorem x19_10 : execA E C (fg 19) B 31 E0 N c19_10 s = some (.ret, s) := x_ret (by rfl) s
theorem x19_8 : execA E C (fg 19) B 31 E0 N c19_8 s = seqX (execA E C (fg 19) B 31 E0 N c19_9 s) (execA E C (fg 19) B 31 E0 N c19_10) := x_seq (by rfl) s
noncomputable def c19_11 : Code := kE c19_7
theorem x19_11 : execA E C (fg 19) B 31 E0 N c19_11 s = some (.normal, s) := x_skip (by rfl) s
theorem x19_7 : execA E C (fg 19) B 31 E0 N c19_7 (φ, H) = condX (fget φ 13) (execA E C (fg 19) B 31 E0 N c19_8 (φ, H)) (execA E C (fg 19) B 31 E0 N c19_11 (φ, H)) := x_cond (by rfl) _
theorem x19_5 : execA E C (fg 19) B 31 E0 N c19_5 s = seqX (execA E C (fg 19) B 31 E0 N c19_6 s) (execA E C (fg 19) B 31 E0 N c19_7) := x_seq (by rfl) s
theorem x19_3 : execA E C (fg 19) B 31 E0 N c19_3 s = seqX (execA E C (fg 19) B 31 E0 N c19_4 s) (execA E C (fg 19) B 31 E0 N c19_5) := x_seq (by rfl) s
noncomputable def c19_12 : Code := kR c19_2
noncomputable def c19_13 : Code := kL c19_12
noncomputable def c19_14 : Code := kL c19_13
noncomputable def r19_4 : Array Oper := kO c19_14
noncomputable def o19_4_0 : Oper := opN r19_4 0
noncomputable def o19_4_1 : Oper := opN r19_4 1
noncomputable def o19_4_2 : Oper := opN r19_4 2
noncomputable def o19_4_3 : Oper := opN r19_4 3
theorem x19_14 : execA E C (fg 19) B 31 E0 N c19_14 s = regX (runA E C B 31 r19_4 r19_4.toList s) (fun s => gcM E0 [7, 13, 15, 16, 17] (forget s.1 [7, 13, 15, 16, 17], s.2)) := x_reg (ops := r19_4) (by rfl) (by rfl) s
theorem r19_4_l : r19_4.toList = [o19_4_0, o19_4_1, o19_4_2, o19_4_3] := nrfl rfl
theorem s19_4_0 : stepA E C B 31 r19_4 o19_4_0 (φ, H) = some (fput φ 15 (fget φ 0), H) := nrfl rfl
theorem s19_4_1 : stepA E C B 31 r19_4 o19_4_1 (φ, H) = some (fput φ 16 (fget φ 1), H) := nrfl rfl
theorem s19_4_2 : stepA E C B 31 r19_4 o19_4_2 (φ, H) = stp (some 17) φ H (aCall C (fun j => B + j * 31 + 17) true 38 [(fget φ 15), (fget φ 16)]) := nrfl rfl
theorem s19_4_3 : stepA E C B 31 r19_4 o19_4_3 (φ, H) = some (fput φ 8 (fget φ 17), H) := nrfl rfl
noncomputable def c19_15 : Code := kR c19_13
noncomputable def c19_16 : Code := kL c19_15
noncomputable def r19_5 : Array Oper := kO c19_16
noncomputable def o19_5_0 : Oper := opN r19_5 0
noncomputable def o19_5_1 : Oper := opN r19_5 1
theorem x19_16 : execA E C (fg 19) B 31 E0 N c19_16 s = regX (runA E C B 31 r19_5 r19_5.toList s) (fun s => gcM E0 [18] (forget s.1 [18], s.2)) := x_reg (ops := r19_5) (by rfl) (by rfl) s
theorem r19_5_l : r19_5.toList = [o19_5_0, o19_5_1] := nrfl rfl
theorem s19_5_0 : stepA E C B 31 r19_5 o19_5_0 (φ, H) = some (fput φ 18 (fget φ 8), H) := nrfl rfl
theorem s19_5_1 : stepA E C B 31 r19_5 o19_5_1 (φ, H) = stp (some 19) φ H (just (aBin E.T .neq 30 (fget φ 18) (.int .i64 0))) := nrfl rfl
noncomputable def c19_17 : Code := kR c19_15
noncomputable def c19_18 : Code := kT c19_17
noncomputable def c19_19 : Code := kL c19_18
noncomputable def r19_6 : Array Oper := kO c19_19
noncomputable def o19_6_0 : Oper := opN r19_6 0
noncomputable def o19_6_1 : Oper := opN r19_6 1
theorem x19_19 : execA E C (fg 19) B 31 E0 N c19_19 s = regX (runA E C B 31 r19_6 r19_6.toList s) (fun s => gcM E0 [0, 1, 2, 8, 19, 20] (forget s.1 [0, 1, 2, 8, 19, 20], s.2)) := x_reg (ops := r19_6) (by rfl) (by rfl) s
theorem r19_6_l : r19_6.toList = [o19_6_0, o19_6_1] := nrfl rfl
theorem s19_6_0 : stepA E C B 31 r19_6 o19_6_0 (φ, H) = some (fput φ 20 (fget φ 8), H) := nrfl rfl
theorem s19_6_1 : stepA E C B 31 r19_6 o19_6_1 (φ, H) = some (fput φ 6 (fget φ 20), H) := nrfl rfl
noncomputable def c19_20 : Code := kR c19_18
theorem x19_20 : execA E C (fg 19) B 31 E0 N c19_20 s = some (.ret, s) := x_ret (by rfl) s
theorem x19_18 : execA E C (fg 19) B 31 E0 N c19_18 s = seqX (execA E C (fg 19) B 31 E0 N c19_19 s) (execA E C (fg 19) B 31 E0 N c19_20) := x_seq (by rfl) s
noncomputable def c19_21 : Code := kE c19_17
theorem x19_21 : execA E C (fg 19) B 31 E0 N c19_21 s = some (.normal, s) := x_skip (by rfl) s
theorem x19_17 : execA E C (fg 19) B 31 E0 N c19_17 (φ, H) = condX (fget φ 19) (execA E C (fg 19) B 31 E0 N c19_18 (φ, H)) (execA E C (fg 19) B 31 E0 N c19_21 (φ, H)) := x_cond (by rfl) _
theorem x19_15 : execA E C (fg 19) B 31 E0 N c19_15 s = seqX (execA E C (fg 19) B 31 E0 N c19_16 s) (execA E C (fg 19) B 31 E0 N c19_17) := x_seq (by rfl) s
theorem x19_13 : execA E C (fg 19) B 31 E0 N c19_13 s = seqX (execA E C (fg 19) B 31 E0 N c19_14 s) (execA E C (fg 19) B 31 E0 N c19_15) := x_seq (by rfl) s
noncomputable def c19_22 : Code := kR c19_12
noncomputable def c19_23 : Code := kL c19_22
noncomputable def c19_24 : Code := kL c19_23
noncomputable def r19_7 : Array Oper := kO c19_24
noncomputable def o19_7_0 : Oper := opN r19_7 0
noncomputable def o19_7_1 : Oper := opN r19_7 1
noncomputable def o19_7_2 : Oper := opN r19_7 2
noncomputable def o19_7_3 : Oper := opN r19_7 3
noncomputable def o19_7_4 : Oper := opN r19_7 4
noncomputable def o19_7_5 : Oper := opN r19_7 5
noncomputable def o19_7_6 : Oper := opN r19_7 6
noncomputable def o19_7_7 : Oper := opN r19_7 7
noncomputable def o19_7_8 : Oper := opN r19_7 8
noncomputable def o19_7_9 : Oper := opN r19_7 9
theorem x19_24 : execA E C (fg 19) B 31 E0 N c19_24 s = regX (runA E C B 31 r19_7 r19_7.toList s) (fun s => gcM E0 [0, 1, 2, 8, 19, 21, 22, 23, 24, 25, 26, 27, 28, 29] (forget s.1 [0, 1, 2, 8, 19, 21, 22, 23, 24, 25, 26, 27, 28, 29], s.2)) := x_reg (ops := r19_7) (by rfl) (by rfl) s
theorem r19_7_l : r19_7.toList = [o19_7_0, o19_7_1, o19_7_2, o19_7_3, o19_7_4, o19_7_5, o19_7_6, o19_7_7, o19_7_8, o19_7_9] := nrfl rfl
theorem s19_7_0 : stepA E C B 31 r19_7 o19_7_0 (φ, H) = some (fput φ 21 (fget φ 0), H) := nrfl rfl
theorem s19_7_1 : stepA E C B 31 r19_7 o19_7_1 (φ, H) = some (fput φ 22 (fget φ 1), H) := nrfl rfl
theorem s19_7_2 : stepA E C B 31 r19_7 o19_7_2 (φ, H) = some (fput φ 23 (fget φ 2), H) := nrfl rfl
theorem s19_7_3 : stepA E C B 31 r19_7 o19_7_3 (φ, H) = stp (some 24) φ H (aCall C (fun j => B + j * 31 + 24) true 39 [(fget φ 21), (fget φ 22), (fget φ 23), (.int .i64 1)]) := nrfl rfl
theorem s19_7_4 : stepA E C B 31 r19_7 o19_7_4 (φ, H) = some (fput φ 25 (fget φ 0), H) := nrfl rfl
theorem s19_7_5 : stepA E C B 31 r19_7 o19_7_5 (φ, H) = some (fput φ 26 (fget φ 1), H) := nrfl rfl
theorem s19_7_6 : stepA E C B 31 r19_7 o19_7_6 (φ, H) = some (fput φ 27 (fget φ 2), H) := nrfl rfl
theorem s19_7_7 : stepA E C B 31 r19_7 o19_7_7 (φ, H) = stp (some 28) φ H (aCall C (fun j => B + j * 31 + 28) true 39 [(fget φ 25), (fget φ 26), (fget φ 27), (.int .i64 (-1))]) := nrfl rfl
theorem s19_7_8 : stepA E C B 31 r19_7 o19_7_8 (φ, H) = stp (some 29) φ H (aBuiltin E.T (B + 29) .max #[3, 3] [(fget φ 24), (fget φ 28)]) := nrfl rfl
theorem s19_7_9 : stepA E C B 31 r19_7 o19_7_9 (φ, H) = stp (some 30) φ H (just (aBin E.T .leq 3 (fget φ 29) (.int .i64 0))) := nrfl rfl
noncomputable def c19_25 : Code := kR c19_23
noncomputable def c19_26 : Code := kT c19_25
noncomputable def c19_27 : Code := kL c19_26
noncomputable def r19_8 : Array Oper := kO c19_27
noncomputable def o19_8_0 : Oper := opN r19_8 0
theorem x19_27 : execA E C (fg 19) B 31 E0 N c19_27 s = regX (runA E C B 31 r19_8 r19_8.toList s) (fun s => gcM E0 [30] (forget s.1 [30], s.2)) := x_reg (ops := r19_8) (by rfl) (by rfl) s
theorem r19_8_l : r19_8.toList = [o19_8_0] := nrfl rfl
theorem s19_8_0 : stepA E C B 31 r19_8 o19_8_0 (φ, H) = some (fput φ 6 (.int .i64 14), H) := nrfl rfl
noncomputable def c19_28 : Code := kR c19_26
theorem x19_28 : execA E C (fg 19) B 31 E0 N c19_28 s = some (.ret, s) := x_ret (by rfl) s
theorem x19_26 : execA E C (fg 19) B 31 E0 N c19_26 s = seqX (execA E C (fg 19) B 31 E0 N c19_27 s) (execA E C (fg 19) B 31 E0 N c19_28) := x_seq (by rfl) s
noncomputable def c19_29 : Code := kE c19_25
theorem x19_29 : execA E C (fg 19) B 31 E0 N c19_29 s = some (.normal, s) := x_skip (by rfl) s
theorem x19_25 : execA E C (fg 19) B 31 E0 N c19_25 (φ, H) = condX (fget φ 30) (execA E C (fg 19) B 31 E0 N c19_26 (φ, H)) (execA E C (fg 19) B 31 E0 N c19_29 (φ, H)) := x_cond (by rfl) _
theorem x19_23 : execA E C (fg 19) B 31 E0 N c19_23 s = seqX (execA E C (fg 19) B 31 E0 N c19_24 s) (execA E C (fg 19) B 31 E0 N c19_25) := x_seq (by rfl) s
noncomputable def c19_30 : Code := kR c19_22
noncomputable def c19_31 : Code := kL c19_30
noncomputable def r19_9 : Array Oper := kO c19_31
noncomputable def o19_9_0 : Oper := opN r19_9 0
theorem x19_31 : execA E C (fg 19) B 31 E0 N c19_31 s = regX (runA E C B 31 r19_9 r19_9.toList s) (fun s => gcM E0 [30] (forget s.1 [30], s.2)) := x_reg (ops := r19_9) (by rfl) (by rfl) s
theorem r19_9_l : r19_9.toList = [o19_9_0] := nrfl rfl
theorem s19_9_0 : stepA E C B 31 r19_9 o19_9_0 (φ, H) = some (fput φ 6 (.int .i64 0), H) := nrfl rfl
noncomputable def c19_32 : Code := kR c19_30
theorem x19_32 : execA E C (fg 19) B 31 E0 N c19_32 s = some (.ret, s) := x_ret (by rfl) s
theorem x19_30 : execA E C (fg 19) B 31 E0 N c19_30 s = seqX (execA E C (fg 19) B 31 E0 N c19_31 s) (execA E C (fg 19) B 31 E0 N c19_32) := x_seq (by rfl) s
theorem x19_22 : execA E C (fg 19) B 31 E0 N c19_22 s = seqX (execA E C (fg 19) B 31 E0 N c19_23 s) (execA E C (fg 19) B 31 E0 N c19_30) := x_seq (by rfl) s
theorem x19_12 : execA E C (fg 19) B 31 E0 N c19_12 s = seqX (execA E C (fg 19) B 31 E0 N c19_13 s) (execA E C (fg 19) B 31 E0 N c19_22) := x_seq (by rfl) s
theorem x19_2 : execA E C (fg 19) B 31 E0 N c19_2 s = seqX (execA E C (fg 19) B 31 E0 N c19_3 s) (execA E C (fg 19) B 31 E0 N c19_12) := x_seq (by rfl) s
theorem x19_0 : execA E C (fg 19) B 31 E0 N c19_0 s = seqX (execA E C (fg 19) B 31 E0 N c19_1 s) (execA E C (fg 19) B 31 E0 N c19_2) := x_seq (by rfl) s
theorem fi_19 : fInfo E 19 = some ⟨31, #[.tmp 6], c19_0⟩ := nrfl rfl
theorem b_19 (args : List AV) : bodyA E C fg N 19 args H B = bodyX E [.tmp 6] (execA E C (fg 19) B 31 H N c19_0 (frame0 args 0 [], H)) := bodyA_eq fi_19 args H
end Go.AM.Ytikchlfbjdfioaa
