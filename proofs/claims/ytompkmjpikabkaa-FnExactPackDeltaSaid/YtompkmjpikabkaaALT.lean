/-
  What is used of the types of this program, held against it; no conditions.
-/
import Derived.Test.YtompkmjpikabkaaProg
import Derived.KernelRfl
import Derived.Test.YtompkmjpikabkaaAL19
namespace Go.Proofs.Ytompkmjpikabkaa.AL
open Go Go.Proofs.Ytompkmjpikabkaa
set_option linter.unusedSimpArgs false
set_option linter.unusedVariables false
def T : Tab
  | 2 => some ⟨.int .i64, 1, 8, [.int .i64 0], false⟩
  | 3 => some ⟨.int .i64, 1, 8, [.int .i64 0], false⟩
  | 4 => some ⟨.bool, 1, 1, [.bool false], false⟩
  | 5 => some ⟨.int .u8, 1, 1, [.int .u8 0], false⟩
  | 6 => some ⟨.int .u8, 1, 1, [.int .u8 0], false⟩
  | 12 => some ⟨.int .u64, 1, 8, [.int .u64 0], false⟩
  | 15 => some ⟨.other, 1, 8, [.nilp], false⟩
  | 16 => some ⟨.other, 1, 8, [.nilp], false⟩
  | 17 => some ⟨.other, 1, 8, [.nilp], false⟩
  | 21 => some ⟨.int .i32, 1, 4, [.int .i32 0], false⟩
  | 22 => some ⟨.slice 135, 1, 24, [.snil], false⟩
  | 23 => some ⟨.slice 137, 1, 24, [.snil], false⟩
  | 25 => some ⟨.struct [(0, 2), (1, 2), (2, 22), (3, 23)], 4, 64, [.int .i64 0, .int .i64 0, .snil, .snil], false⟩
  | 27 => some ⟨.slice 2, 1, 24, [.snil], false⟩
  | 29 => some ⟨.struct [(0, 2), (1, 27)], 2, 32, [.int .i64 0, .snil], false⟩
  | 31 => some ⟨.slice 125, 1, 24, [.snil], false⟩
  | 32 => some ⟨.slice 127, 1, 24, [.snil], false⟩
  | 34 => some ⟨.struct [(0, 2), (1, 2), (2, 31), (3, 32)], 4, 64, [.int .i64 0, .int .i64 0, .snil, .snil], false⟩
  | 41 => some ⟨.slice 206, 1, 24, [.snil], false⟩
  | 42 => some ⟨.slice 209, 1, 24, [.snil], false⟩
  | 44 => some ⟨.struct [(0, 41), (1, 42)], 2, 48, [.snil, .snil], false⟩
  | 46 => some ⟨.struct [(0, 44), (2, 22)], 3, 72, [.snil, .snil, .snil], false⟩
  | 47 => some ⟨.slice 149, 1, 24, [.snil], false⟩
  | 49 => some ⟨.struct [(0, 46), (3, 47)], 4, 96, [.snil, .snil, .snil, .snil], false⟩
  | 52 => some ⟨.slice 146, 1, 24, [.snil], false⟩
  | 53 => some ⟨.slice 143, 1, 24, [.snil], false⟩
  | 55 => some ⟨.struct [(0, 52), (1, 53)], 2, 48, [.snil, .snil], false⟩
  | 57 => some ⟨.struct [(0, 55), (2, 31)], 3, 72, [.snil, .snil, .snil], false⟩
  | 58 => some ⟨.slice 108, 1, 24, [.snil], false⟩
  | 60 => some ⟨.struct [(0, 57), (3, 58)], 4, 96, [.snil, .snil, .snil, .snil], false⟩
  | 64 => some ⟨.struct [(0, 2), (1, 2), (2, 2), (3, 4), (4, 60)], 8, 128, [.int .i64 0, .int .i64 0, .int .i64 0, .bool false, .snil, .snil, .snil, .snil], false⟩
  | 69 => some ⟨.slice 165, 1, 24, [.snil], false⟩
  | 71 => some ⟨.struct [(0, 2), (1, 22), (2, 69), (3, 27)], 4, 80, [.int .i64 0, .snil, .snil, .snil], false⟩
  | 74 => some ⟨.struct [(0, 2), (1, 2)], 2, 16, [.int .i64 0, .int .i64 0], false⟩
  | 76 => some ⟨.slice 162, 1, 24, [.snil], false⟩
  | 78 => some ⟨.struct [(0, 2), (1, 31), (2, 76), (3, 27)], 4, 80, [.int .i64 0, .snil, .snil, .snil], false⟩
  | 84 => some ⟨.struct [(0, 2), (1, 34)], 5, 72, [.int .i64 0, .int .i64 0, .int .i64 0, .snil, .snil], false⟩
  | 108 => some ⟨.struct [(0, 2), (1, 2), (2, 2), (3, 2)], 4, 32, [.int .i64 0, .int .i64 0, .int .i64 0, .int .i64 0], false⟩
  | 113 => some ⟨.struct [(0, 2), (1, 2), (2, 2), (3, 57)], 6, 96, [.int .i64 0, .int .i64 0, .int .i64 0, .snil, .snil, .snil], false⟩
  | 118 => some ⟨.other, 1, 8, [.nilp], false⟩
  | 125 => some ⟨.struct [(0, 2), (1, 2), (2, 2)], 3, 24, [.int .i64 0, .int .i64 0, .int .i64 0], false⟩
  | 127 => some ⟨.struct [(0, 4), (1, 2), (2, 2), (3, 2)], 4, 32, [.bool false, .int .i64 0, .int .i64 0, .int .i64 0], false⟩
  | 130 => some ⟨.other, 1, 8, [.nilp], false⟩
  | 135 => some ⟨.struct [(0, 2), (1, 2), (2, 2)], 3, 24, [.int .i64 0, .int .i64 0, .int .i64 0], false⟩
  | 137 => some ⟨.struct [(0, 4), (1, 2), (2, 2), (3, 2)], 4, 32, [.bool false, .int .i64 0, .int .i64 0, .int .i64 0], false⟩
  | 143 => some ⟨.struct [(0, 2), (1, 2)], 2, 16, [.int .i64 0, .int .i64 0], false⟩
  | 144 => some ⟨.other, 1, 8, [.nilp], false⟩
  | 146 => some ⟨.struct [(0, 2), (1, 4), (2, 27)], 3, 40, [.int .i64 0, .bool false, .snil], false⟩
  | 149 => some ⟨.struct [(0, 2), (1, 2), (2, 2), (3, 2)], 4, 32, [.int .i64 0, .int .i64 0, .int .i64 0, .int .i64 0], false⟩
  | 156 => some ⟨.struct [(0, 2), (1, 2), (2, 55)], 4, 64, [.int .i64 0, .int .i64 0, .snil, .snil], false⟩
  | 162 => some ⟨.struct [(0, 2), (1, 2), (2, 2)], 3, 24, [.int .i64 0, .int .i64 0, .int .i64 0], false⟩
  | 165 => some ⟨.struct [(0, 2), (1, 2), (2, 2)], 3, 24, [.int .i64 0, .int .i64 0, .int .i64 0], false⟩
  | 172 => some ⟨.other, 1, 8, [.nilp], false⟩
  | 184 => some ⟨.struct [(0, 2), (1, 2), (2, 53)], 3, 40, [.int .i64 0, .int .i64 0, .snil], false⟩
  | 197 => some ⟨.other, 1, 8, [.nilp], false⟩
  | 204 => some ⟨.other, 1, 8, [.nilp], false⟩
  | 206 => some ⟨.struct [(0, 2), (1, 4), (2, 27)], 3, 40, [.int .i64 0, .bool false, .snil], false⟩
  | 209 => some ⟨.struct [(0, 2), (1, 2)], 2, 16, [.int .i64 0, .int .i64 0], false⟩
  | 213 => some ⟨.slice 3, 1, 24, [.snil], false⟩
  | 227 => some ⟨.int .u32, 1, 4, [.int .u32 0], false⟩
  | 228 => some ⟨.int .u8, 1, 1, [.int .u8 0], false⟩
  | 229 => some ⟨.int .u8, 1, 1, [.int .u8 0], false⟩
  | 231 => some ⟨.other, 1, 8, [.nilp], false⟩
  | 232 => some ⟨.int .i32, 1, 4, [.int .i32 0], false⟩
  | 233 => some ⟨.int .i32, 1, 4, [.int .i32 0], false⟩
  | _ => none
theorem T_2 : T 2 = some ⟨.int .i64, 1, 8, [.int .i64 0], false⟩ := rfl
theorem K_2 : kindOf T 2 = some (.int .i64) := rfl
theorem S_2 : szOf T 2 = 1 := rfl
theorem T_3 : T 3 = some ⟨.int .i64, 1, 8, [.int .i64 0], false⟩ := rfl
theorem K_3 : kindOf T 3 = some (.int .i64) := rfl
theorem S_3 : szOf T 3 = 1 := rfl
theorem T_4 : T 4 = some ⟨.bool, 1, 1, [.bool false], false⟩ := rfl
theorem K_4 : kindOf T 4 = some (.bool) := rfl
theorem S_4 : szOf T 4 = 1 := rfl
theorem T_5 : T 5 = some ⟨.int .u8, 1, 1, [.int .u8 0], false⟩ := rfl
theorem K_5 : kindOf T 5 = some (.int .u8) := rfl
theorem S_5 : szOf T 5 = 1 := rfl
theorem T_6 : T 6 = some ⟨.int .u8, 1, 1, [.int .u8 0], false⟩ := rfl
theorem K_6 : kindOf T 6 = some (.int .u8) := rfl
theorem S_6 : szOf T 6 = 1 := rfl
theorem T_12 : T 12 = some ⟨.int .u64, 1, 8, [.int .u64 0], false⟩ := rfl
theorem K_12 : kindOf T 12 = some (.int .u64) := rfl
theorem S_12 : szOf T 12 = 1 := rfl
theorem T_15 : T 15 = some ⟨.other, 1, 8, [.nilp], false⟩ := rfl
theorem K_15 : kindOf T 15 = some (.other) := rfl
theorem S_15 : szOf T 15 = 1 := rfl
theorem T_16 : T 16 = some ⟨.other, 1, 8, [.nilp], false⟩ := rfl
theorem K_16 : kindOf T 16 = some (.other) := rfl
theorem S_16 : szOf T 16 = 1 := rfl
theorem T_17 : T 17 = some ⟨.other, 1, 8, [.nilp], false⟩ := rfl
theorem K_17 : kindOf T 17 = some (.other) := rfl
theorem S_17 : szOf T 17 = 1 := rfl
theorem T_21 : T 21 = some ⟨.int .i32, 1, 4, [.int .i32 0], false⟩ := rfl
theorem K_21 : kindOf T 21 = some (.int .i32) := rfl
theorem S_21 : szOf T 21 = 1 := rfl
theorem T_22 : T 22 = some ⟨.slice 135, 1, 24, [.snil], false⟩ := rfl
theorem K_22 : kindOf T 22 = some (.slice 135) := rfl
theorem S_22 : szOf T 22 = 1 := rfl
theorem T_23 : T 23 = some ⟨.slice 137, 1, 24, [.snil], false⟩ := rfl
theorem K_23 : kindOf T 23 = some (.slice 137) := rfl
theorem S_23 : szOf T 23 = 1 := rfl
theorem T_25 : T 25 = some ⟨.struct [(0, 2), (1, 2), (2, 22), (3, 23)], 4, 64, [.int .i64 0, .int .i64 0, .snil, .snil], false⟩ := rfl
theorem K_25 : kindOf T 25 = some (.struct [(0, 2), (1, 2), (2, 22), (3, 23)]) := rfl
theorem S_25 : szOf T 25 = 4 := rfl
theorem T_27 : T 27 = some ⟨.slice 2, 1, 24, [.snil], false⟩ := rfl
theorem K_27 : kindOf T 27 = some (.slice 2) := rfl
theorem S_27 : szOf T 27 = 1 := rfl
theorem T_29 : T 29 = some ⟨.struct [(0, 2), (1, 27)], 2, 32, [.int .i64 0, .snil], false⟩ := rfl
theorem K_29 : kindOf T 29 = some (.struct [(0, 2), (1, 27)]) := rfl
theorem S_29 : szOf T 29 = 2 := rfl
theorem T_31 : T 31 = some ⟨.slice 125, 1, 24, [.snil], false⟩ := rfl
theorem K_31 : kindOf T 31 = some (.slice 125) := rfl
theorem S_31 : szOf T 31 = 1 := rfl
theorem T_32 : T 32 = some ⟨.slice 127, 1, 24, [.snil], false⟩ := rfl
theorem K_32 : kindOf T 32 = some (.slice 127) := rfl
theorem S_32 : szOf T 32 = 1 := rfl
theorem T_34 : T 34 = some ⟨.struct [(0, 2), (1, 2), (2, 31), (3, 32)], 4, 64, [.int .i64 0, .int .i64 0, .snil, .snil], false⟩ := rfl
theorem K_34 : kindOf T 34 = some (.struct [(0, 2), (1, 2), (2, 31), (3, 32)]) := rfl
theorem S_34 : szOf T 34 = 4 := rfl
theorem T_41 : T 41 = some ⟨.slice 206, 1, 24, [.snil], false⟩ := rfl
theorem K_41 : kindOf T 41 = some (.slice 206) := rfl
theorem S_41 : szOf T 41 = 1 := rfl
theorem T_42 : T 42 = some ⟨.slice 209, 1, 24, [.snil], false⟩ := rfl
theorem K_42 : kindOf T 42 = some (.slice 209) := rfl
theorem S_42 : szOf T 42 = 1 := rfl
theorem T_44 : T 44 = some ⟨.struct [(0, 41), (1, 42)], 2, 48, [.snil, .snil], false⟩ := rfl
theorem K_44 : kindOf T 44 = some (.struct [(0, 41), (1, 42)]) := rfl
theorem S_44 : szOf T 44 = 2 := rfl
theorem T_46 : T 46 = some ⟨.struct [(0, 44), (2, 22)], 3, 72, [.snil, .snil, .snil], false⟩ := rfl
theorem K_46 : kindOf T 46 = some (.struct [(0, 44), (2, 22)]) := rfl
theorem S_46 : szOf T 46 = 3 := rfl
theorem T_47 : T 47 = some ⟨.slice 149, 1, 24, [.snil], false⟩ := rfl
theorem K_47 : kindOf T 47 = some (.slice 149) := rfl
theorem S_47 : szOf T 47 = 1 := rfl
theorem T_49 : T 49 = some ⟨.struct [(0, 46), (3, 47)], 4, 96, [.snil, .snil, .snil, .snil], false⟩ := rfl
theorem K_49 : kindOf T 49 = some (.struct [(0, 46), (3, 47)]) := rfl
theorem S_49 : szOf T 49 = 4 := rfl
theorem T_52 : T 52 = some ⟨.slice 146, 1, 24, [.snil], false⟩ := rfl
theorem K_52 : kindOf T 52 = some (.slice 146) := rfl
theorem S_52 : szOf T 52 = 1 := rfl
theorem T_53 : T 53 = some ⟨.slice 143, 1, 24, [.snil], false⟩ := rfl
theorem K_53 : kindOf T 53 = some (.slice 143) := rfl
theorem S_53 : szOf T 53 = 1 := rfl
theorem T_55 : T 55 = some ⟨.struct [(0, 52), (1, 53)], 2, 48, [.snil, .snil], false⟩ := rfl
theorem K_55 : kindOf T 55 = some (.struct [(0, 52), (1, 53)]) := rfl
theorem S_55 : szOf T 55 = 2 := rfl
theorem T_57 : T 57 = some ⟨.struct [(0, 55), (2, 31)], 3, 72, [.snil, .snil, .snil], false⟩ := rfl
theorem K_57 : kindOf T 57 = some (.struct [(0, 55), (2, 31)]) := rfl
theorem S_57 : szOf T 57 = 3 := rfl
theorem T_58 : T 58 = some ⟨.slice 108, 1, 24, [.snil], false⟩ := rfl
theorem K_58 : kindOf T 58 = some (.slice 108) := rfl
theorem S_58 : szOf T 58 = 1 := rfl
theorem T_60 : T 60 = some ⟨.struct [(0, 57), (3, 58)], 4, 96, [.snil, .snil, .snil, .snil], false⟩ := rfl
theorem K_60 : kindOf T 60 = some (.struct [(0, 57), (3, 58)]) := rfl
theorem S_60 : szOf T 60 = 4 := rfl
theorem T_64 : T 64 = some ⟨.struct [(0, 2), (1, 2), (2, 2), (3, 4), (4, 60)], 8, 128, [.int .i64 0, .int .i64 0, .int .i64 0, .bool false, .snil, .snil, .snil, .snil], false⟩ := rfl
theorem K_64 : kindOf T 64 = some (.struct [(0, 2), (1, 2), (2, 2), (3, 4), (4, 60)]) := rfl
theorem S_64 : szOf T 64 = 8 := rfl
theorem T_69 : T 69 = some ⟨.slice 165, 1, 24, [.snil], false⟩ := rfl
theorem K_69 : kindOf T 69 = some (.slice 165) := rfl
theorem S_69 : szOf T 69 = 1 := rfl
theorem T_71 : T 71 = some ⟨.struct [(0, 2), (1, 22), (2, 69), (3, 27)], 4, 80, [.int .i64 0, .snil, .snil, .snil], false⟩ := rfl
theorem K_71 : kindOf T 71 = some (.struct [(0, 2), (1, 22), (2, 69), (3, 27)]) := rfl
theorem S_71 : szOf T 71 = 4 := rfl
theorem T_74 : T 74 = some ⟨.struct [(0, 2), (1, 2)], 2, 16, [.int .i64 0, .int .i64 0], false⟩ := rfl
theorem K_74 : kindOf T 74 = some (.struct [(0, 2), (1, 2)]) := rfl
theorem S_74 : szOf T 74 = 2 := rfl
theorem T_76 : T 76 = some ⟨.slice 162, 1, 24, [.snil], false⟩ := rfl
theorem K_76 : kindOf T 76 = some (.slice 162) := rfl
theorem S_76 : szOf T 76 = 1 := rfl
theorem T_78 : T 78 = some ⟨.struct [(0, 2), (1, 31), (2, 76), (3, 27)], 4, 80, [.int .i64 0, .snil, .snil, .snil], false⟩ := rfl
theorem K_78 : kindOf T 78 = some (.struct [(0, 2), (1, 31), (2, 76), (3, 27)]) := rfl
theorem S_78 : szOf T 78 = 4 := rfl
theorem T_84 : T 84 = some ⟨.struct [(0, 2), (1, 34)], 5, 72, [.int .i64 0, .int .i64 0, .int .i64 0, .snil, .snil], false⟩ := rfl
theorem K_84 : kindOf T 84 = some (.struct [(0, 2), (1, 34)]) := rfl
theorem S_84 : szOf T 84 = 5 := rfl
theorem T_108 : T 108 = some ⟨.struct [(0, 2), (1, 2), (2, 2), (3, 2)], 4, 32, [.int .i64 0, .int .i64 0, .int .i64 0, .int .i64 0], false⟩ := rfl
theorem K_108 : kindOf T 108 = some (.struct [(0, 2), (1, 2), (2, 2), (3, 2)]) := rfl
theorem S_108 : szOf T 108 = 4 := rfl
theorem T_113 : T 113 = some ⟨.struct [(0, 2), (1, 2), (2, 2), (3, 57)], 6, 96, [.int .i64 0, .int .i64 0, .int .i64 0, .snil, .snil, .snil], false⟩ := rfl
theorem K_113 : kindOf T 113 = some (.struct [(0, 2), (1, 2), (2, 2), (3, 57)]) := rfl
theorem S_113 : szOf T 113 = 6 := rfl
theorem T_118 : T 118 = some ⟨.other, 1, 8, [.nilp], false⟩ := rfl
theorem K_118 : kindOf T 118 = some (.other) := rfl
theorem S_118 : szOf T 118 = 1 := rfl
theorem T_125 : T 125 = some ⟨.struct [(0, 2), (1, 2), (2, 2)], 3, 24, [.int .i64 0, .int .i64 0, .int .i64 0], false⟩ := rfl
theorem K_125 : kindOf T 125 = some (.struct [(0, 2), (1, 2), (2, 2)]) := rfl
theorem S_125 : szOf T 125 = 3 := rfl
theorem T_127 : T 127 = some ⟨.struct [(0, 4), (1, 2), (2, 2), (3, 2)], 4, 32, [.bool false, .int .i64 0, .int .i64 0, .int .i64 0], false⟩ := rfl
theorem K_127 : kindOf T 127 = some (.struct [(0, 4), (1, 2), (2, 2), (3, 2)]) := rfl
theorem S_127 : szOf T 127 = 4 := rfl
theorem T_130 : T 130 = some ⟨.other, 1, 8, [.nilp], false⟩ := rfl
theorem K_130 : kindOf T 130 = some (.other) := rfl
theorem S_130 : szOf T 130 = 1 := rfl
theorem T_135 : T 135 = some ⟨.struct [(0, 2), (1, 2), (2, 2)], 3, 24, [.int .i64 0, .int .i64 0, .int .i64 0], false⟩ := rfl
theorem K_135 : kindOf T 135 = some (.struct [(0, 2), (1, 2), (2, 2)]) := rfl
theorem S_135 : szOf T 135 = 3 := rfl
theorem T_137 : T 137 = some ⟨.struct [(0, 4), (1, 2), (2, 2), (3, 2)], 4, 32, [.bool false, .int .i64 0, .int .i64 0, .int .i64 0], false⟩ := rfl
theorem K_137 : kindOf T 137 = some (.struct [(0, 4), (1, 2), (2, 2), (3, 2)]) := rfl
theorem S_137 : szOf T 137 = 4 := rfl
theorem T_143 : T 143 = some ⟨.struct [(0, 2), (1, 2)], 2, 16, [.int .i64 0, .int .i64 0], false⟩ := rfl
theorem K_143 : kindOf T 143 = some (.struct [(0, 2), (1, 2)]) := rfl
theorem S_143 : szOf T 143 = 2 := rfl
theorem T_144 : T 144 = some ⟨.other, 1, 8, [.nilp], false⟩ := rfl
theorem K_144 : kindOf T 144 = some (.other) := rfl
theorem S_144 : szOf T 144 = 1 := rfl
theorem T_146 : T 146 = some ⟨.struct [(0, 2), (1, 4), (2, 27)], 3, 40, [.int .i64 0, .bool false, .snil], false⟩ := rfl
theorem K_146 : kindOf T 146 = some (.struct [(0, 2), (1, 4), (2, 27)]) := rfl
theorem S_146 : szOf T 146 = 3 := rfl
theorem T_149 : T 149 = some ⟨.struct [(0, 2), (1, 2), (2, 2), (3, 2)], 4, 32, [.int .i64 0, .int .i64 0, .int .i64 0, .int .i64 0], false⟩ := rfl
theorem K_149 : kindOf T 149 = some (.struct [(0, 2), (1, 2), (2, 2), (3, 2)]) := rfl
theorem S_149 : szOf T 149 = 4 := rfl
theorem T_156 : T 156 = some ⟨.struct [(0, 2), (1, 2), (2, 55)], 4, 64, [.int .i64 0, .int .i64 0, .snil, .snil], false⟩ := rfl
theorem K_156 : kindOf T 156 = some (.struct [(0, 2), (1, 2), (2, 55)]) := rfl
theorem S_156 : szOf T 156 = 4 := rfl
theorem T_162 : T 162 = some ⟨.struct [(0, 2), (1, 2), (2, 2)], 3, 24, [.int .i64 0, .int .i64 0, .int .i64 0], false⟩ := rfl
theorem K_162 : kindOf T 162 = some (.struct [(0, 2), (1, 2), (2, 2)]) := rfl
theorem S_162 : szOf T 162 = 3 := rfl
theorem T_165 : T 165 = some ⟨.struct [(0, 2), (1, 2), (2, 2)], 3, 24, [.int .i64 0, .int .i64 0, .int .i64 0], false⟩ := rfl
theorem K_165 : kindOf T 165 = some (.struct [(0, 2), (1, 2), (2, 2)]) := rfl
theorem S_165 : szOf T 165 = 3 := rfl
theorem T_172 : T 172 = some ⟨.other, 1, 8, [.nilp], false⟩ := rfl
theorem K_172 : kindOf T 172 = some (.other) := rfl
theorem S_172 : szOf T 172 = 1 := rfl
theorem T_184 : T 184 = some ⟨.struct [(0, 2), (1, 2), (2, 53)], 3, 40, [.int .i64 0, .int .i64 0, .snil], false⟩ := rfl
theorem K_184 : kindOf T 184 = some (.struct [(0, 2), (1, 2), (2, 53)]) := rfl
theorem S_184 : szOf T 184 = 3 := rfl
theorem T_197 : T 197 = some ⟨.other, 1, 8, [.nilp], false⟩ := rfl
theorem K_197 : kindOf T 197 = some (.other) := rfl
theorem S_197 : szOf T 197 = 1 := rfl
theorem T_204 : T 204 = some ⟨.other, 1, 8, [.nilp], false⟩ := rfl
theorem K_204 : kindOf T 204 = some (.other) := rfl
theorem S_204 : szOf T 204 = 1 := rfl
theorem T_206 : T 206 = some ⟨.struct [(0, 2), (1, 4), (2, 27)], 3, 40, [.int .i64 0, .bool false, .snil], false⟩ := rfl
theorem K_206 : kindOf T 206 = some (.struct [(0, 2), (1, 4), (2, 27)]) := rfl
theorem S_206 : szOf T 206 = 3 := rfl
theorem T_209 : T 209 = some ⟨.struct [(0, 2), (1, 2)], 2, 16, [.int .i64 0, .int .i64 0], false⟩ := rfl
theorem K_209 : kindOf T 209 = some (.struct [(0, 2), (1, 2)]) := rfl
theorem S_209 : szOf T 209 = 2 := rfl
theorem T_213 : T 213 = some ⟨.slice 3, 1, 24, [.snil], false⟩ := rfl
theorem K_213 : kindOf T 213 = some (.slice 3) := rfl
theorem S_213 : szOf T 213 = 1 := rfl
theorem T_227 : T 227 = some ⟨.int .u32, 1, 4, [.int .u32 0], false⟩ := rfl
theorem K_227 : kindOf T 227 = some (.int .u32) := rfl
theorem S_227 : szOf T 227 = 1 := rfl
theorem T_228 : T 228 = some ⟨.int .u8, 1, 1, [.int .u8 0], false⟩ := rfl
theorem K_228 : kindOf T 228 = some (.int .u8) := rfl
theorem S_228 : szOf T 228 = 1 := rfl
theorem T_229 : T 229 = some ⟨.int .u8, 1, 1, [.int .u8 0], false⟩ := rfl
theorem K_229 : kindOf T 229 = some (.int .u8) := rfl
theorem S_229 : szOf T 229 = 1 := rfl
theorem T_231 : T 231 = some ⟨.other, 1, 8, [.nilp], false⟩ := rfl
theorem K_231 : kindOf T 231 = some (.other) := rfl
theorem S_231 : szOf T 231 = 1 := rfl
theorem T_232 : T 232 = some ⟨.int .i32, 1, 4, [.int .i32 0], false⟩ := rfl
theorem K_232 : kindOf T 232 = some (.int .i32) := rfl
theorem S_232 : szOf T 232 = 1 := rfl
theorem T_233 : T 233 = some ⟨.int .i32, 1, 4, [.int .i32 0], false⟩ := rfl
theorem K_233 : kindOf T 233 = some (.int .i32) := rfl
theorem S_233 : szOf T 233 = 1 := rfl
theorem tiAll : ∀ t ti, T t = some ti → tiB Try.prog t ti = true := by
  intro t ti h
  unfold T at h
  split at h
  · cases h; kernel_rfl
  · cases h; kernel_rfl
  · cases h; kernel_rfl
  · cases h; kernel_rfl
  · cases h; kernel_rfl
  · cases h; kernel_rfl
  · cases h; kernel_rfl
  · cases h; kernel_rfl
  · cases h; kernel_rfl
  · cases h; kernel_rfl
  · cases h; kernel_rfl
  · cases h; kernel_rfl
  · cases h; kernel_rfl
  · cases h; kernel_rfl
  · cases h; kernel_rfl
  · cases h; kernel_rfl
  · cases h; kernel_rfl
  · cases h; kernel_rfl
  · cases h; kernel_rfl
  · cases h; kernel_rfl
  · cases h; kernel_rfl
  · cases h; kernel_rfl
  · cases h; kernel_rfl
  · cases h; kernel_rfl
  · cases h; kernel_rfl
  · cases h; kernel_rfl
  · cases h; kernel_rfl
  · cases h; kernel_rfl
  · cases h; kernel_rfl
  · cases h; kernel_rfl
  · cases h; kernel_rfl
  · cases h; kernel_rfl
  · cases h; kernel_rfl
  · cases h; kernel_rfl
  · cases h; kernel_rfl
  · cases h; kernel_rfl
  · cases h; kernel_rfl
  · cases h; kernel_rfl
  · cases h; kernel_rfl
  · cases h; kernel_rfl
  · cases h; kernel_rfl
  · cases h; kernel_rfl
  · cases h; kernel_rfl
  · cases h; kernel_rfl
  · cases h; kernel_rfl
  · cases h; kernel_rfl
  · cases h; kernel_rfl
  · cases h; kernel_rfl
  · cases h; kernel_rfl
  · cases h; kernel_rfl
  · cases h; kernel_rfl
  · cases h; kernel_rfl
  · cases h; kernel_rfl
  · cases h; kernel_rfl
  · cases h; kernel_rfl
  · cases h; kernel_rfl
  · cases h; kernel_rfl
  · cases h; kernel_rfl
  · cases h; kernel_rfl
  · cases h; kernel_rfl
  · cases h; kernel_rfl
  · cases h; kernel_rfl
  · cases h; kernel_rfl
  · cases h; kernel_rfl
  · cases h; kernel_rfl
  · cases h
theorem hT : TOk Try.prog T where
  ok := tiAll
  eq := by
    intro t ti h he
    unfold T at h
    split at h <;> cases h <;> cases he
  mixed := by kernel_rfl
theorem TT : type_of% (And.intro (And.intro (And.intro (And.intro (And.intro (And.intro (And.intro (@T_2) (And.intro (@K_2) (@S_2))) (And.intro (@T_3) (And.intro (@K_3) (@S_3)))) (And.intro (And.intro (@T_4) (And.intro (@K_4) (@S_4))) (And.intro (@T_5) (And.intro (@K_5) (@S_5))))) (And.intro (And.intro (And.intro (@T_6) (And.intro (@K_6) (@S_6))) (And.intro (@T_12) (And.intro (@K_12) (@S_12)))) (And.intro (And.intro (@T_15) (And.intro (@K_15) (@S_15))) (And.intro (@T_16) (And.intro (@K_16) (@S_16)))))) (And.intro (And.intro (And.intro (And.intro (@T_17) (And.intro (@K_17) (@S_17))) (And.intro (@T_21) (And.intro (@K_21) (@S_21)))) (And.intro (And.intro (@T_22) (And.intro (@K_22) (@S_22))) (And.intro (@T_23) (And.intro (@K_23) (@S_23))))) (And.intro (And.intro (And.intro (@T_25) (And.intro (@K_25) (@S_25))) (And.intro (@T_27) (And.intro (@K_27) (@S_27)))) (And.intro (And.intro (@T_29) (And.intro (@K_29) (@S_29))) (And.intro (@T_31) (And.intro (@K_31) (@S_31))))))) (And.intro (And.intro (And.intro (And.intro (And.intro (@T_32) (And.intro (@K_32) (@S_32))) (And.intro (@T_34) (And.intro (@K_34) (@S_34)))) (And.intro (And.intro (@T_41) (And.intro (@K_41) (@S_41))) (And.intro (@T_42) (And.intro (@K_42) (@S_42))))) (And.intro (And.intro (And.intro (@T_44) (And.intro (@K_44) (@S_44))) (And.intro (@T_46) (And.intro (@K_46) (@S_46)))) (And.intro (And.intro (@T_47) (And.intro (@K_47) (@S_47))) (And.intro (@T_49) (And.intro (@K_49) (@S_49)))))) (And.intro (And.intro (And.intro (And.intro (@T_52) (And.intro (@K_52) (@S_52))) (And.intro (@T_53) (And.intro (@K_53) (@S_53)))) (And.intro (And.intro (@T_55) (And.intro (@K_55) (@S_55))) (And.intro (@T_57) (And.intro (@K_57) (@S_57))))) (And.intro (And.intro (And.intro (@T_58) (And.intro (@K_58) (@S_58))) (And.intro (@T_60) (And.intro (@K_60) (@S_60)))) (And.intro (And.intro (@T_64) (And.intro (@K_64) (@S_64))) (And.intro (And.intro (@T_69) (@K_69)) (And.intro (@S_69) (@T_71)))))))) (And.intro (And.intro (And.intro (And.intro (And.intro (And.intro (@K_71) (And.intro (@S_71) (@T_74))) (And.intro (@K_74) (And.intro (@S_74) (@T_76)))) (And.intro (And.intro (@K_76) (And.intro (@S_76) (@T_78))) (And.intro (@K_78) (And.intro (@S_78) (@T_84))))) (And.intro (And.intro (And.intro (@K_84) (And.intro (@S_84) (@T_108))) (And.intro (@K_108) (And.intro (@S_108) (@T_113)))) (And.intro (And.intro (@K_113) (And.intro (@S_113) (@T_118))) (And.intro (@K_118) (And.intro (@S_118) (@T_125)))))) (And.intro (And.intro (And.intro (And.intro (@K_125) (And.intro (@S_125) (@T_127))) (And.intro (@K_127) (And.intro (@S_127) (@T_130)))) (And.intro (And.intro (@K_130) (And.intro (@S_130) (@T_135))) (And.intro (@K_135) (And.intro (@S_135) (@T_137))))) (And.intro (And.intro (And.intro (@K_137) (And.intro (@S_137) (@T_143))) (And.intro (@K_143) (And.intro (@S_143) (@T_144)))) (And.intro (And.intro (@K_144) (And.intro (@S_144) (@T_146))) (And.intro (And.intro (@K_146) (@S_146)) (And.intro (@T_149) (@K_149))))))) (And.intro (And.intro (And.intro (And.intro (And.intro (@S_149) (And.intro (@T_156) (@K_156))) (And.intro (@S_156) (And.intro (@T_162) (@K_162)))) (And.intro (And.intro (@S_162) (And.intro (@T_165) (@K_165))) (And.intro (@S_165) (And.intro (@T_172) (@K_172))))) (And.intro (And.intro (And.intro (@S_172) (And.intro (@T_184) (@K_184))) (And.intro (@S_184) (And.intro (@T_197) (@K_197)))) (And.intro (And.intro (@S_197) (And.intro (@T_204) (@K_204))) (And.intro (@S_204) (And.intro (@T_206) (@K_206)))))) (And.intro (And.intro (And.intro (And.intro (@S_206) (And.intro (@T_209) (@K_209))) (And.intro (@S_209) (And.intro (@T_213) (@K_213)))) (And.intro (And.intro (@S_213) (And.intro (@T_227) (@K_227))) (And.intro (@S_227) (And.intro (@T_228) (@K_228))))) (And.intro (And.intro (And.intro (@S_228) (And.intro (@T_229) (@K_229))) (And.intro (@S_229) (And.intro (@T_231) (@K_231)))) (And.intro (And.intro (@S_231) (And.intro (@T_232) (@K_232))) (And.intro (And.intro (@S_232) (@T_233)) (And.intro (@K_233) (@S_233))))))))) := And.intro (And.intro (And.intro (And.intro (And.intro (And.intro (And.intro (@T_2) (And.intro (@K_2) (@S_2))) (And.intro (@T_3) (And.intro (@K_3) (@S_3)))) (And.intro (And.intro (@T_4) (And.intro (@K_4) (@S_4))) (And.intro (@T_5) (And.intro (@K_5) (@S_5))))) (And.intro (And.intro (And.intro (@T_6) (And.intro (@K_6) (@S_6))) (And.intro (@T_12) (And.intro (@K_12) (@S_12)))) (And.intro (And.intro (@T_15) (And.intro (@K_15) (@S_15))) (And.intro (@T_16) (And.intro (@K_16) (@S_16)))))) (And.intro (And.intro (And.intro (And.intro (@T_17) (And.intro (@K_17) (@S_17))) (And.intro (@T_21) (And.intro (@K_21) (@S_21)))) (And.intro (And.intro (@T_22) (And.intro (@K_22) (@S_22))) (And.intro (@T_23) (And.intro (@K_23) (@S_23))))) (And.intro (And.intro (And.intro (@T_25) (And.intro (@K_25) (@S_25))) (And.intro (@T_27) (And.intro (@K_27) (@S_27)))) (And.intro (And.intro (@T_29) (And.intro (@K_29) (@S_29))) (And.intro (@T_31) (And.intro (@K_31) (@S_31))))))) (And.intro (And.intro (And.intro (And.intro (And.intro (@T_32) (And.intro (@K_32) (@S_32))) (And.intro (@T_34) (And.intro (@K_34) (@S_34)))) (And.intro (And.intro (@T_41) (And.intro (@K_41) (@S_41))) (And.intro (@T_42) (And.intro (@K_42) (@S_42))))) (And.intro (And.intro (And.intro (@T_44) (And.intro (@K_44) (@S_44))) (And.intro (@T_46) (And.intro (@K_46) (@S_46)))) (And.intro (And.intro (@T_47) (And.intro (@K_47) (@S_47))) (And.intro (@T_49) (And.intro (@K_49) (@S_49)))))) (And.intro (And.intro (And.intro (And.intro (@T_52) (And.intro (@K_52) (@S_52))) (And.intro (@T_53) (And.intro (@K_53) (@S_53)))) (And.intro (And.intro (@T_55) (And.intro (@K_55) (@S_55))) (And.intro (@T_57) (And.intro (@K_57) (@S_57))))) (And.intro (And.intro (And.intro (@T_58) (And.intro (@K_58) (@S_58))) (And.intro (@T_60) (And.intro (@K_60) (@S_60)))) (And.intro (And.intro (@T_64) (And.intro (@K_64) (@S_64))) (And.intro (And.intro (@T_69) (@K_69)) (And.intro (@S_69) (@T_71)))))))) (And.intro (And.intro (And.intro (And.intro (And.intro (And.intro (@K_71) (And.intro (@S_71) (@T_74))) (And.intro (@K_74) (And.intro (@S_74) (@T_76)))) (And.intro (And.intro (@K_76) (And.intro (@S_76) (@T_78))) (And.intro (@K_78) (And.intro (@S_78) (@T_84))))) (And.intro (And.intro (And.intro (@K_84) (And.intro (@S_84) (@T_108))) (And.intro (@K_108) (And.intro (@S_108) (@T_113)))) (And.intro (And.intro (@K_113) (And.intro (@S_113) (@T_118))) (And.intro (@K_118) (And.intro (@S_118) (@T_125)))))) (And.intro (And.intro (And.intro (And.intro (@K_125) (And.intro (@S_125) (@T_127))) (And.intro (@K_127) (And.intro (@S_127) (@T_130)))) (And.intro (And.intro (@K_130) (And.intro (@S_130) (@T_135))) (And.intro (@K_135) (And.intro (@S_135) (@T_137))))) (And.intro (And.intro (And.intro (@K_137) (And.intro (@S_137) (@T_143))) (And.intro (@K_143) (And.intro (@S_143) (@T_144)))) (And.intro (And.intro (@K_144) (And.intro (@S_144) (@T_146))) (And.intro (And.intro (@K_146) (@S_146)) (And.intro (@T_149) (@K_149))))))) (And.intro (And.intro (And.intro (And.intro (And.intro (@S_149) (And.intro (@T_156) (@K_156))) (And.intro (@S_156) (And.intro (@T_162) (@K_162)))) (And.intro (And.intro (@S_162) (And.intro (@T_165) (@K_165))) (And.intro (@S_165) (And.intro (@T_172) (@K_172))))) (And.intro (And.intro (And.intro (@S_172) (And.intro (@T_184) (@K_184))) (And.intro (@S_184) (And.intro (@T_197) (@K_197)))) (And.intro (And.intro (@S_197) (And.intro (@T_204) (@K_204))) (And.intro (@S_204) (And.intro (@T_206) (@K_206)))))) (And.intro (And.intro (And.intro (And.intro (@S_206) (And.intro (@T_209) (@K_209))) (And.intro (@S_209) (And.intro (@T_213) (@K_213)))) (And.intro (And.intro (@S_213) (And.intro (@T_227) (@K_227))) (And.intro (@S_227) (And.intro (@T_228) (@K_228))))) (And.intro (And.intro (And.intro (@S_228) (And.intro (@T_229) (@K_229))) (And.intro (@S_229) (And.intro (@T_231) (@K_231)))) (And.intro (And.intro (@S_231) (And.intro (@T_232) (@K_232))) (And.intro (And.intro (@S_232) (@T_233)) (And.intro (@K_233) (@S_233))))))))
end Go.Proofs.Ytompkmjpikabkaa.AL
