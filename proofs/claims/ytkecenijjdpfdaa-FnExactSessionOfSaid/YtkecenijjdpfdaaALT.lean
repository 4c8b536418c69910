/-
  What is used of the types of this program, held against it; no conditions.
-/
import Derived.Test.YtkecenijjdpfdaaProg
import Derived.KernelRfl
import Derived.Test.YtkecenijjdpfdaaAL19
import Derived.Test.YtkecenijjdpfdaaAL23
namespace Go.Proofs.Ytkecenijjdpfdaa.AL
open Go Go.Proofs.Ytkecenijjdpfdaa
set_option linter.unusedSimpArgs false
set_option linter.unusedVariables false
def T : Tab
  | 2 => some ⟨.int .i64, 1, 8, [.int .i64 0], false⟩
  | 3 => some ⟨.int .i64, 1, 8, [.int .i64 0], false⟩
  | 4 => some ⟨.bool, 1, 1, [.bool false], false⟩
  | 5 => some ⟨.int .u8, 1, 1, [.int .u8 0], false⟩
  | 6 => some ⟨.int .u8, 1, 1, [.int .u8 0], false⟩
  | 12 => some ⟨.int .u64, 1, 8, [.int .u64 0], false⟩
  | 15 => some ⟨.other, 1, 8, [.nilp], false⟩
  | 16 => some ⟨.other, 1, 8, [.nilp], false⟩
  | 17 => some ⟨.other, 1, 8, [.nilp], false⟩
  | 21 => some ⟨.int .i32, 1, 4, [.int .i32 0], false⟩
  | 22 => some ⟨.slice 2, 1, 24, [.snil], false⟩
  | 23 => some ⟨.slice 154, 1, 24, [.snil], false⟩
  | 24 => some ⟨.slice 156, 1, 24, [.snil], false⟩
  | 26 => some ⟨.struct [(0, 2), (1, 2), (2, 23), (3, 24)], 4, 64, [.int .i64 0, .int .i64 0, .snil, .snil], false⟩
  | 28 => some ⟨.struct [(0, 2), (1, 26)], 5, 72, [.int .i64 0, .int .i64 0, .int .i64 0, .snil, .snil], false⟩
  | 36 => some ⟨.slice 195, 1, 24, [.snil], false⟩
  | 37 => some ⟨.slice 4, 1, 24, [.snil], false⟩
  | 38 => some ⟨.slice 58, 1, 24, [.snil], false⟩
  | 40 => some ⟨.struct [(0, 2), (1, 2), (2, 2), (3, 4), (4, 2), (5, 36), (6, 2), (7, 22), (8, 37), (9, 38)], 10, 144, [.int .i64 0, .int .i64 0, .int .i64 0, .bool false, .int .i64 0, .snil, .int .i64 0, .snil, .snil, .snil], false⟩
  | 41 => some ⟨.slice 197, 1, 24, [.snil], false⟩
  | 43 => some ⟨.struct [(0, 2), (1, 40), (11, 41)], 12, 176, [.int .i64 0, .int .i64 0, .int .i64 0, .int .i64 0, .bool false, .int .i64 0, .snil, .int .i64 0, .snil, .snil, .snil, .snil], false⟩
  | 48 => some ⟨.slice 5, 1, 24, [.snil], false⟩
  | 52 => some ⟨.struct [(0, 2), (1, 2)], 2, 16, [.int .i64 0, .int .i64 0], true⟩
  | 55 => some ⟨.struct [(0, 2), (1, 41)], 2, 32, [.int .i64 0, .snil], false⟩
  | 58 => some ⟨.struct [(0, 4), (1, 2), (2, 36), (3, 2)], 4, 48, [.bool false, .int .i64 0, .snil, .int .i64 0], false⟩
  | 59 => some ⟨.slice 40, 1, 24, [.snil], false⟩
  | 61 => some ⟨.struct [(0, 59), (1, 41), (2, 36)], 3, 72, [.snil, .snil, .snil], false⟩
  | 63 => some ⟨.struct [(0, 2), (1, 61)], 4, 80, [.int .i64 0, .snil, .snil, .snil], false⟩
  | 68 => some ⟨.slice 359, 1, 24, [.snil], false⟩
  | 69 => some ⟨.slice 366, 1, 24, [.snil], false⟩
  | 71 => some ⟨.struct [(0, 68), (1, 69)], 2, 48, [.snil, .snil], false⟩
  | 72 => some ⟨.slice 303, 1, 24, [.snil], false⟩
  | 74 => some ⟨.struct [(0, 71), (2, 72)], 3, 72, [.snil, .snil, .snil], false⟩
  | 75 => some ⟨.slice 266, 1, 24, [.snil], false⟩
  | 77 => some ⟨.struct [(0, 74), (3, 75)], 4, 96, [.snil, .snil, .snil, .snil], false⟩
  | 80 => some ⟨.slice 272, 1, 24, [.snil], false⟩
  | 81 => some ⟨.slice 342, 1, 24, [.snil], false⟩
  | 83 => some ⟨.struct [(0, 80), (1, 81)], 2, 48, [.snil, .snil], false⟩
  | 85 => some ⟨.struct [(0, 83), (2, 23)], 3, 72, [.snil, .snil, .snil], false⟩
  | 86 => some ⟨.slice 93, 1, 24, [.snil], false⟩
  | 88 => some ⟨.struct [(0, 85), (3, 86)], 4, 96, [.snil, .snil, .snil, .snil], false⟩
  | 93 => some ⟨.struct [(0, 2), (1, 2), (2, 2), (3, 2)], 4, 32, [.int .i64 0, .int .i64 0, .int .i64 0, .int .i64 0], true⟩
  | 95 => some ⟨.struct [(0, 2), (1, 93)], 5, 40, [.int .i64 0, .int .i64 0, .int .i64 0, .int .i64 0, .int .i64 0], true⟩
  | 99 => some ⟨.slice 111, 1, 24, [.snil], false⟩
  | 100 => some ⟨.slice 281, 1, 24, [.snil], false⟩
  | 101 => some ⟨.slice 279, 1, 24, [.snil], false⟩
  | 103 => some ⟨.struct [(0, 99), (1, 100), (2, 101)], 3, 72, [.snil, .snil, .snil], false⟩
  | 109 => some ⟨.slice 293, 1, 24, [.snil], false⟩
  | 111 => some ⟨.struct [(0, 2), (1, 2), (2, 2), (3, 4), (4, 2), (5, 101), (6, 2), (7, 22), (8, 37), (9, 109)], 10, 144, [.int .i64 0, .int .i64 0, .int .i64 0, .bool false, .int .i64 0, .snil, .int .i64 0, .snil, .snil, .snil], false⟩
  | 120 => some ⟨.slice 305, 1, 24, [.snil], false⟩
  | 122 => some ⟨.struct [(0, 2), (1, 72), (2, 120), (3, 22)], 4, 80, [.int .i64 0, .snil, .snil, .snil], false⟩
  | 124 => some ⟨.struct [(0, 2), (1, 2), (2, 2), (3, 2)], 4, 32, [.int .i64 0, .int .i64 0, .int .i64 0, .int .i64 0], true⟩
  | 126 => some ⟨.slice 228, 1, 24, [.snil], false⟩
  | 128 => some ⟨.struct [(0, 2), (1, 23), (2, 126), (3, 22)], 4, 80, [.int .i64 0, .snil, .snil, .snil], false⟩
  | 130 => some ⟨.struct [(0, 2), (1, 2), (2, 2), (3, 128)], 7, 104, [.int .i64 0, .int .i64 0, .int .i64 0, .int .i64 0, .snil, .snil, .snil], false⟩
  | 133 => some ⟨.struct [(0, 2), (1, 2), (2, 2), (3, 2)], 4, 32, [.int .i64 0, .int .i64 0, .int .i64 0, .int .i64 0], true⟩
  | 140 => some ⟨.slice 318, 1, 24, [.snil], false⟩
  | 142 => some ⟨.struct [(0, 2), (1, 2), (2, 72), (3, 140)], 4, 64, [.int .i64 0, .int .i64 0, .snil, .snil], false⟩
  | 154 => some ⟨.struct [(0, 2), (1, 2), (2, 2)], 3, 24, [.int .i64 0, .int .i64 0, .int .i64 0], true⟩
  | 156 => some ⟨.struct [(0, 4), (1, 2), (2, 2), (3, 2)], 4, 32, [.bool false, .int .i64 0, .int .i64 0, .int .i64 0], true⟩
  | 169 => some ⟨.other, 1, 8, [.nilp], false⟩
  | 176 => some ⟨.other, 1, 8, [.nilp], false⟩
  | 190 => some ⟨.other, 1, 8, [.nilp], false⟩
  | 195 => some ⟨.struct [(0, 2), (1, 2), (2, 133)], 6, 48, [.int .i64 0, .int .i64 0, .int .i64 0, .int .i64 0, .int .i64 0, .int .i64 0], true⟩
  | 197 => some ⟨.struct [(0, 2), (1, 2), (2, 2), (3, 2), (4, 2), (5, 4), (6, 195), (12, 2), (13, 36), (14, 2)], 15, 136, [.int .i64 0, .int .i64 0, .int .i64 0, .int .i64 0, .int .i64 0, .bool false, .int .i64 0, .int .i64 0, .int .i64 0, .int .i64 0, .int .i64 0, .int .i64 0, .int .i64 0, .snil, .int .i64 0], false⟩
  | 213 => some ⟨.other, 1, 8, [.nilp], false⟩
  | 228 => some ⟨.struct [(0, 2), (1, 2), (2, 2)], 3, 24, [.int .i64 0, .int .i64 0, .int .i64 0], true⟩
  | 248 => some ⟨.other, 1, 8, [.nilp], false⟩
  | 253 => some ⟨.slice 36, 1, 24, [.snil], false⟩
  | 258 => some ⟨.other, 1, 8, [.nilp], false⟩
  | 263 => some ⟨.other, 1, 8, [.nilp], false⟩
  | 266 => some ⟨.struct [(0, 2), (1, 2), (2, 2), (3, 2)], 4, 32, [.int .i64 0, .int .i64 0, .int .i64 0, .int .i64 0], true⟩
  | 272 => some ⟨.struct [(0, 2), (1, 4), (2, 22)], 3, 40, [.int .i64 0, .bool false, .snil], false⟩
  | 279 => some ⟨.struct [(0, 2), (1, 2), (2, 124)], 6, 48, [.int .i64 0, .int .i64 0, .int .i64 0, .int .i64 0, .int .i64 0, .int .i64 0], true⟩
  | 281 => some ⟨.struct [(0, 2), (1, 2), (2, 2), (3, 2), (4, 2), (5, 4), (6, 279), (12, 2), (13, 101), (14, 2)], 15, 136, [.int .i64 0, .int .i64 0, .int .i64 0, .int .i64 0, .int .i64 0, .bool false, .int .i64 0, .int .i64 0, .int .i64 0, .int .i64 0, .int .i64 0, .int .i64 0, .int .i64 0, .snil, .int .i64 0], false⟩
  | 286 => some ⟨.struct [(0, 4), (1, 4), (2, 4), (3, 4), (4, 4)], 5, 5, [.bool false, .bool false, .bool false, .bool false, .bool false], false⟩
  | 287 => some ⟨.struct [(0, 4), (1, 4), (2, 4), (3, 4), (4, 4)], 5, 5, [.bool false, .bool false, .bool false, .bool false, .bool false], true⟩
  | 293 => some ⟨.struct [(0, 4), (1, 2), (2, 101), (3, 2)], 4, 48, [.bool false, .int .i64 0, .snil, .int .i64 0], false⟩
  | 303 => some ⟨.struct [(0, 2), (1, 2), (2, 2)], 3, 24, [.int .i64 0, .int .i64 0, .int .i64 0], true⟩
  | 305 => some ⟨.struct [(0, 2), (1, 2), (2, 2)], 3, 24, [.int .i64 0, .int .i64 0, .int .i64 0], true⟩
  | 318 => some ⟨.struct [(0, 4), (1, 2), (2, 2), (3, 2)], 4, 32, [.bool false, .int .i64 0, .int .i64 0, .int .i64 0], true⟩
  | 322 => some ⟨.other, 1, 8, [.nilp], false⟩
  | 327 => some ⟨.struct [(0, 48), (1, 2)], 2, 32, [.snil, .int .i64 0], false⟩
  | 333 => some ⟨.other, 1, 8, [.nilp], false⟩
  | 342 => some ⟨.struct [(0, 2), (1, 2)], 2, 16, [.int .i64 0, .int .i64 0], true⟩
  | 346 => some ⟨.int .u64, 1, 8, [.int .u64 0], false⟩
  | 359 => some ⟨.struct [(0, 2), (1, 4), (2, 22)], 3, 40, [.int .i64 0, .bool false, .snil], false⟩
  | 361 => some ⟨.other, 1, 8, [.nilp], false⟩
  | 366 => some ⟨.struct [(0, 2), (1, 2)], 2, 16, [.int .i64 0, .int .i64 0], true⟩
  | 370 => some ⟨.int .i64, 1, 8, [.int .i64 0], false⟩
  | 377 => some ⟨.int .u32, 1, 4, [.int .u32 0], false⟩
  | 379 => some ⟨.int .u64, 1, 8, [.int .u64 0], false⟩
  | 380 => some ⟨.slice 3, 1, 24, [.snil], false⟩
  | 390 => some ⟨.int .u64, 1, 8, [.int .u64 0], false⟩
  | 394 => some ⟨.other, 1, 8, [.nilp], false⟩
  | 400 => some ⟨.other, 1, 8, [.nilp], false⟩
  | 412 => some ⟨.int .u8, 1, 1, [.int .u8 0], false⟩
  | 413 => some ⟨.int .u8, 1, 1, [.int .u8 0], false⟩
  | 415 => some ⟨.other, 1, 8, [.nilp], false⟩
  | 416 => some ⟨.int .i32, 1, 4, [.int .i32 0], false⟩
  | 417 => some ⟨.int .i32, 1, 4, [.int .i32 0], false⟩
  | _ => none
theorem T_2 : T 2 = some ⟨.int .i64, 1, 8, [.int .i64 0], false⟩ := rfl
theorem K_2 : kindOf T 2 = some (.int .i64) := rfl
theorem S_2 : szOf T 2 = 1 := rfl
theorem T_3 : T 3 = some ⟨.int .i64, 1, 8, [.int .i64 0], false⟩ := rfl
theorem K_3 : kindOf T 3 = some (.int .i64) := rfl
theorem S_3 : szOf T 3 = 1 := rfl
theorem T_4 : T 4 = some ⟨.bool, 1, 1, [.bool false], false⟩ := rfl
theorem K_4 : kindOf T 4 = some (.bool) := rfl
theorem S_4 : szOf T 4 = 1 := rfl
theorem T_5 : T 5 = some ⟨.int .u8, 1, 1, [.int .u8 0], false⟩ := rfl
theorem K_5 : kindOf T 5 = some (.int .u8) := rfl
theorem S_5 : szOf T 5 = 1 := rfl
theorem T_6 : T 6 = some ⟨.int .u8, 1, 1, [.int .u8 0], false⟩ := rfl
theorem K_6 : kindOf T 6 = some (.int .u8) := rfl
theorem S_6 : szOf T 6 = 1 := rfl
theorem T_12 : T 12 = some ⟨.int .u64, 1, 8, [.int .u64 0], false⟩ := rfl
theorem K_12 : kindOf T 12 = some (.int .u64) := rfl
theorem S_12 : szOf T 12 = 1 := rfl
theorem T_15 : T 15 = some ⟨.other, 1, 8, [.nilp], false⟩ := rfl
theorem K_15 : kindOf T 15 = some (.other) := rfl
theorem S_15 : szOf T 15 = 1 := rfl
theorem T_16 : T 16 = some ⟨.other, 1, 8, [.nilp], false⟩ := rfl
theorem K_16 : kindOf T 16 = some (.other) := rfl
theorem S_16 : szOf T 16 = 1 := rfl
theorem T_17 : T 17 = some ⟨.other, 1, 8, [.nilp], false⟩ := rfl
theorem K_17 : kindOf T 17 = some (.other) := rfl
theorem S_17 : szOf T 17 = 1 := rfl
theorem T_21 : T 21 = some ⟨.int .i32, 1, 4, [.int .i32 0], false⟩ := rfl
theorem K_21 : kindOf T 21 = some (.int .i32) := rfl
theorem S_21 : szOf T 21 = 1 := rfl
theorem T_22 : T 22 = some ⟨.slice 2, 1, 24, [.snil], false⟩ := rfl
theorem K_22 : kindOf T 22 = some (.slice 2) := rfl
theorem S_22 : szOf T 22 = 1 := rfl
theorem T_23 : T 23 = some ⟨.slice 154, 1, 24, [.snil], false⟩ := rfl
theorem K_23 : kindOf T 23 = some (.slice 154) := rfl
theorem S_23 : szOf T 23 = 1 := rfl
theorem T_24 : T 24 = some ⟨.slice 156, 1, 24, [.snil], false⟩ := rfl
theorem K_24 : kindOf T 24 = some (.slice 156) := rfl
theorem S_24 : szOf T 24 = 1 := rfl
theorem T_26 : T 26 = some ⟨.struct [(0, 2), (1, 2), (2, 23), (3, 24)], 4, 64, [.int .i64 0, .int .i64 0, .snil, .snil], false⟩ := rfl
theorem K_26 : kindOf T 26 = some (.struct [(0, 2), (1, 2), (2, 23), (3, 24)]) := rfl
theorem S_26 : szOf T 26 = 4 := rfl
theorem T_28 : T 28 = some ⟨.struct [(0, 2), (1, 26)], 5, 72, [.int .i64 0, .int .i64 0, .int .i64 0, .snil, .snil], false⟩ := rfl
theorem K_28 : kindOf T 28 = some (.struct [(0, 2), (1, 26)]) := rfl
theorem S_28 : szOf T 28 = 5 := rfl
theorem T_36 : T 36 = some ⟨.slice 195, 1, 24, [.snil], false⟩ := rfl
theorem K_36 : kindOf T 36 = some (.slice 195) := rfl
theorem S_36 : szOf T 36 = 1 := rfl
theorem T_37 : T 37 = some ⟨.slice 4, 1, 24, [.snil], false⟩ := rfl
theorem K_37 : kindOf T 37 = some (.slice 4) := rfl
theorem S_37 : szOf T 37 = 1 := rfl
theorem T_38 : T 38 = some ⟨.slice 58, 1, 24, [.snil], false⟩ := rfl
theorem K_38 : kindOf T 38 = some (.slice 58) := rfl
theorem S_38 : szOf T 38 = 1 := rfl
theorem T_40 : T 40 = some ⟨.struct [(0, 2), (1, 2), (2, 2), (3, 4), (4, 2), (5, 36), (6, 2), (7, 22), (8, 37), (9, 38)], 10, 144, [.int .i64 0, .int .i64 0, .int .i64 0, .bool false, .int .i64 0, .snil, .int .i64 0, .snil, .snil, .snil], false⟩ := rfl
theorem K_40 : kindOf T 40 = some (.struct [(0, 2), (1, 2), (2, 2), (3, 4), (4, 2), (5, 36), (6, 2), (7, 22), (8, 37), (9, 38)]) := rfl
theorem S_40 : szOf T 40 = 10 := rfl
theorem T_41 : T 41 = some ⟨.slice 197, 1, 24, [.snil], false⟩ := rfl
theorem K_41 : kindOf T 41 = some (.slice 197) := rfl
theorem S_41 : szOf T 41 = 1 := rfl
theorem T_43 : T 43 = some ⟨.struct [(0, 2), (1, 40), (11, 41)], 12, 176, [.int .i64 0, .int .i64 0, .int .i64 0, .int .i64 0, .bool false, .int .i64 0, .snil, .int .i64 0, .snil, .snil, .snil, .snil], false⟩ := rfl
theorem K_43 : kindOf T 43 = some (.struct [(0, 2), (1, 40), (11, 41)]) := rfl
theorem S_43 : szOf T 43 = 12 := rfl
theorem T_48 : T 48 = some ⟨.slice 5, 1, 24, [.snil], false⟩ := rfl
theorem K_48 : kindOf T 48 = some (.slice 5) := rfl
theorem S_48 : szOf T 48 = 1 := rfl
theorem T_52 : T 52 = some ⟨.struct [(0, 2), (1, 2)], 2, 16, [.int .i64 0, .int .i64 0], true⟩ := rfl
theorem K_52 : kindOf T 52 = some (.struct [(0, 2), (1, 2)]) := rfl
theorem S_52 : szOf T 52 = 2 := rfl
theorem T_55 : T 55 = some ⟨.struct [(0, 2), (1, 41)], 2, 32, [.int .i64 0, .snil], false⟩ := rfl
theorem K_55 : kindOf T 55 = some (.struct [(0, 2), (1, 41)]) := rfl
theorem S_55 : szOf T 55 = 2 := rfl
theorem T_58 : T 58 = some ⟨.struct [(0, 4), (1, 2), (2, 36), (3, 2)], 4, 48, [.bool false, .int .i64 0, .snil, .int .i64 0], false⟩ := rfl
theorem K_58 : kindOf T 58 = some (.struct [(0, 4), (1, 2), (2, 36), (3, 2)]) := rfl
theorem S_58 : szOf T 58 = 4 := rfl
theorem T_59 : T 59 = some ⟨.slice 40, 1, 24, [.snil], false⟩ := rfl
theorem K_59 : kindOf T 59 = some (.slice 40) := rfl
theorem S_59 : szOf T 59 = 1 := rfl
theorem T_61 : T 61 = some ⟨.struct [(0, 59), (1, 41), (2, 36)], 3, 72, [.snil, .snil, .snil], false⟩ := rfl
theorem K_61 : kindOf T 61 = some (.struct [(0, 59), (1, 41), (2, 36)]) := rfl
theorem S_61 : szOf T 61 = 3 := rfl
theorem T_63 : T 63 = some ⟨.struct [(0, 2), (1, 61)], 4, 80, [.int .i64 0, .snil, .snil, .snil], false⟩ := rfl
theorem K_63 : kindOf T 63 = some (.struct [(0, 2), (1, 61)]) := rfl
theorem S_63 : szOf T 63 = 4 := rfl
theorem T_68 : T 68 = some ⟨.slice 359, 1, 24, [.snil], false⟩ := rfl
theorem K_68 : kindOf T 68 = some (.slice 359) := rfl
theorem S_68 : szOf T 68 = 1 := rfl
theorem T_69 : T 69 = some ⟨.slice 366, 1, 24, [.snil], false⟩ := rfl
theorem K_69 : kindOf T 69 = some (.slice 366) := rfl
theorem S_69 : szOf T 69 = 1 := rfl
theorem T_71 : T 71 = some ⟨.struct [(0, 68), (1, 69)], 2, 48, [.snil, .snil], false⟩ := rfl
theorem K_71 : kindOf T 71 = some (.struct [(0, 68), (1, 69)]) := rfl
theorem S_71 : szOf T 71 = 2 := rfl
theorem T_72 : T 72 = some ⟨.slice 303, 1, 24, [.snil], false⟩ := rfl
theorem K_72 : kindOf T 72 = some (.slice 303) := rfl
theorem S_72 : szOf T 72 = 1 := rfl
theorem T_74 : T 74 = some ⟨.struct [(0, 71), (2, 72)], 3, 72, [.snil, .snil, .snil], false⟩ := rfl
theorem K_74 : kindOf T 74 = some (.struct [(0, 71), (2, 72)]) := rfl
theorem S_74 : szOf T 74 = 3 := rfl
theorem T_75 : T 75 = some ⟨.slice 266, 1, 24, [.snil], false⟩ := rfl
theorem K_75 : kindOf T 75 = some (.slice 266) := rfl
theorem S_75 : szOf T 75 = 1 := rfl
theorem T_77 : T 77 = some ⟨.struct [(0, 74), (3, 75)], 4, 96, [.snil, .snil, .snil, .snil], false⟩ := rfl
theorem K_77 : kindOf T 77 = some (.struct [(0, 74), (3, 75)]) := rfl
theorem S_77 : szOf T 77 = 4 := rfl
theorem T_80 : T 80 = some ⟨.slice 272, 1, 24, [.snil], false⟩ := rfl
theorem K_80 : kindOf T 80 = some (.slice 272) := rfl
theorem S_80 : szOf T 80 = 1 := rfl
theorem T_81 : T 81 = some ⟨.slice 342, 1, 24, [.snil], false⟩ := rfl
theorem K_81 : kindOf T 81 = some (.slice 342) := rfl
theorem S_81 : szOf T 81 = 1 := rfl
theorem T_83 : T 83 = some ⟨.struct [(0, 80), (1, 81)], 2, 48, [.snil, .snil], false⟩ := rfl
theorem K_83 : kindOf T 83 = some (.struct [(0, 80), (1, 81)]) := rfl
theorem S_83 : szOf T 83 = 2 := rfl
theorem T_85 : T 85 = some ⟨.struct [(0, 83), (2, 23)], 3, 72, [.snil, .snil, .snil], false⟩ := rfl
theorem K_85 : kindOf T 85 = some (.struct [(0, 83), (2, 23)]) := rfl
theorem S_85 : szOf T 85 = 3 := rfl
theorem T_86 : T 86 = some ⟨.slice 93, 1, 24, [.snil], false⟩ := rfl
theorem K_86 : kindOf T 86 = some (.slice 93) := rfl
theorem S_86 : szOf T 86 = 1 := rfl
theorem T_88 : T 88 = some ⟨.struct [(0, 85), (3, 86)], 4, 96, [.snil, .snil, .snil, .snil], false⟩ := rfl
theorem K_88 : kindOf T 88 = some (.struct [(0, 85), (3, 86)]) := rfl
theorem S_88 : szOf T 88 = 4 := rfl
theorem T_93 : T 93 = some ⟨.struct [(0, 2), (1, 2), (2, 2), (3, 2)], 4, 32, [.int .i64 0, .int .i64 0, .int .i64 0, .int .i64 0], true⟩ := rfl
theorem K_93 : kindOf T 93 = some (.struct [(0, 2), (1, 2), (2, 2), (3, 2)]) := rfl
theorem S_93 : szOf T 93 = 4 := rfl
theorem T_95 : T 95 = some ⟨.struct [(0, 2), (1, 93)], 5, 40, [.int .i64 0, .int .i64 0, .int .i64 0, .int .i64 0, .int .i64 0], true⟩ := rfl
theorem K_95 : kindOf T 95 = some (.struct [(0, 2), (1, 93)]) := rfl
theorem S_95 : szOf T 95 = 5 := rfl
theorem T_99 : T 99 = some ⟨.slice 111, 1, 24, [.snil], false⟩ := rfl
theorem K_99 : kindOf T 99 = some (.slice 111) := rfl
theorem S_99 : szOf T 99 = 1 := rfl
theorem T_100 : T 100 = some ⟨.slice 281, 1, 24, [.snil], false⟩ := rfl
theorem K_100 : kindOf T 100 = some (.slice 281) := rfl
theorem S_100 : szOf T 100 = 1 := rfl
theorem T_101 : T 101 = some ⟨.slice 279, 1, 24, [.snil], false⟩ := rfl
theorem K_101 : kindOf T 101 = some (.slice 279) := rfl
theorem S_101 : szOf T 101 = 1 := rfl
theorem T_103 : T 103 = some ⟨.struct [(0, 99), (1, 100), (2, 101)], 3, 72, [.snil, .snil, .snil], false⟩ := rfl
theorem K_103 : kindOf T 103 = some (.struct [(0, 99), (1, 100), (2, 101)]) := rfl
theorem S_103 : szOf T 103 = 3 := rfl
theorem T_109 : T 109 = some ⟨.slice 293, 1, 24, [.snil], false⟩ := rfl
theorem K_109 : kindOf T 109 = some (.slice 293) := rfl
theorem S_109 : szOf T 109 = 1 := rfl
theorem T_111 : T 111 = some ⟨.struct [(0, 2), (1, 2), (2, 2), (3, 4), (4, 2), (5, 101), (6, 2), (7, 22), (8, 37), (9, 109)], 10, 144, [.int .i64 0, .int .i64 0, .int .i64 0, .bool false, .int .i64 0, .snil, .int .i64 0, .snil, .snil, .snil], false⟩ := rfl
theorem K_111 : kindOf T 111 = some (.struct [(0, 2), (1, 2), (2, 2), (3, 4), (4, 2), (5, 101), (6, 2), (7, 22), (8, 37), (9, 109)]) := rfl
theorem S_111 : szOf T 111 = 10 := rfl
theorem T_120 : T 120 = some ⟨.slice 305, 1, 24, [.snil], false⟩ := rfl
theorem K_120 : kindOf T 120 = some (.slice 305) := rfl
theorem S_120 : szOf T 120 = 1 := rfl
theorem T_122 : T 122 = some ⟨.struct [(0, 2), (1, 72), (2, 120), (3, 22)], 4, 80, [.int .i64 0, .snil, .snil, .snil], false⟩ := rfl
theorem K_122 : kindOf T 122 = some (.struct [(0, 2), (1, 72), (2, 120), (3, 22)]) := rfl
theorem S_122 : szOf T 122 = 4 := rfl
theorem T_124 : T 124 = some ⟨.struct [(0, 2), (1, 2), (2, 2), (3, 2)], 4, 32, [.int .i64 0, .int .i64 0, .int .i64 0, .int .i64 0], true⟩ := rfl
theorem K_124 : kindOf T 124 = some (.struct [(0, 2), (1, 2), (2, 2), (3, 2)]) := rfl
theorem S_124 : szOf T 124 = 4 := rfl
theorem T_126 : T 126 = some ⟨.slice 228, 1, 24, [.snil], false⟩ := rfl
theorem K_126 : kindOf T 126 = some (.slice 228) := rfl
theorem S_126 : szOf T 126 = 1 := rfl
theorem T_128 : T 128 = some ⟨.struct [(0, 2), (1, 23), (2, 126), (3, 22)], 4, 80, [.int .i64 0, .snil, .snil, .snil], false⟩ := rfl
theorem K_128 : kindOf T 128 = some (.struct [(0, 2), (1, 23), (2, 126), (3, 22)]) := rfl
theorem S_128 : szOf T 128 = 4 := rfl
theorem T_130 : T 130 = some ⟨.struct [(0, 2), (1, 2), (2, 2), (3, 128)], 7, 104, [.int .i64 0, .int .i64 0, .int .i64 0, .int .i64 0, .snil, .snil, .snil], false⟩ := rfl
theorem K_130 : kindOf T 130 = some (.struct [(0, 2), (1, 2), (2, 2), (3, 128)]) := rfl
theorem S_130 : szOf T 130 = 7 := rfl
theorem T_133 : T 133 = some ⟨.struct [(0, 2), (1, 2), (2, 2), (3, 2)], 4, 32, [.int .i64 0, .int .i64 0, .int .i64 0, .int .i64 0], true⟩ := rfl
theorem K_133 : kindOf T 133 = some (.struct [(0, 2), (1, 2), (2, 2), (3, 2)]) := rfl
theorem S_133 : szOf T 133 = 4 := rfl
theorem T_140 : T 140 = some ⟨.slice 318, 1, 24, [.snil], false⟩ := rfl
theorem K_140 : kindOf T 140 = some (.slice 318) := rfl
theorem S_140 : szOf T 140 = 1 := rfl
theorem T_142 : T 142 = some ⟨.struct [(0, 2), (1, 2), (2, 72), (3, 140)], 4, 64, [.int .i64 0, .int .i64 0, .snil, .snil], false⟩ := rfl
theorem K_142 : kindOf T 142 = some (.struct [(0, 2), (1, 2), (2, 72), (3, 140)]) := rfl
theorem S_142 : szOf T 142 = 4 := rfl
theorem T_154 : T 154 = some ⟨.struct [(0, 2), (1, 2), (2, 2)], 3, 24, [.int .i64 0, .int .i64 0, .int .i64 0], true⟩ := rfl
theorem K_154 : kindOf T 154 = some (.struct [(0, 2), (1, 2), (2, 2)]) := rfl
theorem S_154 : szOf T 154 = 3 := rfl
theorem T_156 : T 156 = some ⟨.struct [(0, 4), (1, 2), (2, 2), (3, 2)], 4, 32, [.bool false, .int .i64 0, .int .i64 0, .int .i64 0], true⟩ := rfl
theorem K_156 : kindOf T 156 = some (.struct [(0, 4), (1, 2), (2, 2), (3, 2)]) := rfl
theorem S_156 : szOf T 156 = 4 := rfl
theorem T_169 : T 169 = some ⟨.other, 1, 8, [.nilp], false⟩ := rfl
theorem K_169 : kindOf T 169 = some (.other) := rfl
theorem S_169 : szOf T 169 = 1 := rfl
theorem T_176 : T 176 = some ⟨.other, 1, 8, [.nilp], false⟩ := rfl
theorem K_176 : kindOf T 176 = some (.other) := rfl
theorem S_176 : szOf T 176 = 1 := rfl
theorem T_190 : T 190 = some ⟨.other, 1, 8, [.nilp], false⟩ := rfl
theorem K_190 : kindOf T 190 = some (.other) := rfl
theorem S_190 : szOf T 190 = 1 := rfl
theorem T_195 : T 195 = some ⟨.struct [(0, 2), (1, 2), (2, 133)], 6, 48, [.int .i64 0, .int .i64 0, .int .i64 0, .int .i64 0, .int .i64 0, .int .i64 0], true⟩ := rfl
theorem K_195 : kindOf T 195 = some (.struct [(0, 2), (1, 2), (2, 133)]) := rfl
theorem S_195 : szOf T 195 = 6 := rfl
theorem T_197 : T 197 = some ⟨.struct [(0, 2), (1, 2), (2, 2), (3, 2), (4, 2), (5, 4), (6, 195), (12, 2), (13, 36), (14, 2)], 15, 136, [.int .i64 0, .int .i64 0, .int .i64 0, .int .i64 0, .int .i64 0, .bool false, .int .i64 0, .int .i64 0, .int .i64 0, .int .i64 0, .int .i64 0, .int .i64 0, .int .i64 0, .snil, .int .i64 0], false⟩ := rfl
theorem K_197 : kindOf T 197 = some (.struct [(0, 2), (1, 2), (2, 2), (3, 2), (4, 2), (5, 4), (6, 195), (12, 2), (13, 36), (14, 2)]) := rfl
theorem S_197 : szOf T 197 = 15 := rfl
theorem T_213 : T 213 = some ⟨.other, 1, 8, [.nilp], false⟩ := rfl
theorem K_213 : kindOf T 213 = some (.other) := rfl
theorem S_213 : szOf T 213 = 1 := rfl
theorem T_228 : T 228 = some ⟨.struct [(0, 2), (1, 2), (2, 2)], 3, 24, [.int .i64 0, .int .i64 0, .int .i64 0], true⟩ := rfl
theorem K_228 : kindOf T 228 = some (.struct [(0, 2), (1, 2), (2, 2)]) := rfl
theorem S_228 : szOf T 228 = 3 := rfl
theorem T_248 : T 248 = some ⟨.other, 1, 8, [.nilp], false⟩ := rfl
theorem K_248 : kindOf T 248 = some (.other) := rfl
theorem S_248 : szOf T 248 = 1 := rfl
theorem T_253 : T 253 = some ⟨.slice 36, 1, 24, [.snil], false⟩ := rfl
theorem K_253 : kindOf T 253 = some (.slice 36) := rfl
theorem S_253 : szOf T 253 = 1 := rfl
theorem T_258 : T 258 = some ⟨.other, 1, 8, [.nilp], false⟩ := rfl
theorem K_258 : kindOf T 258 = some (.other) := rfl
theorem S_258 : szOf T 258 = 1 := rfl
theorem T_263 : T 263 = some ⟨.other, 1, 8, [.nilp], false⟩ := rfl
theorem K_263 : kindOf T 263 = some (.other) := rfl
theorem S_263 : szOf T 263 = 1 := rfl
theorem T_266 : T 266 = some ⟨.struct [(0, 2), (1, 2), (2, 2), (3, 2)], 4, 32, [.int .i64 0, .int .i64 0, .int .i64 0, .int .i64 0], true⟩ := rfl
theorem K_266 : kindOf T 266 = some (.struct [(0, 2), (1, 2), (2, 2), (3, 2)]) := rfl
theorem S_266 : szOf T 266 = 4 := rfl
theorem T_272 : T 272 = some ⟨.struct [(0, 2), (1, 4), (2, 22)], 3, 40, [.int .i64 0, .bool false, .snil], false⟩ := rfl
theorem K_272 : kindOf T 272 = some (.struct [(0, 2), (1, 4), (2, 22)]) := rfl
theorem S_272 : szOf T 272 = 3 := rfl
theorem T_279 : T 279 = some ⟨.struct [(0, 2), (1, 2), (2, 124)], 6, 48, [.int .i64 0, .int .i64 0, .int .i64 0, .int .i64 0, .int .i64 0, .int .i64 0], true⟩ := rfl
theorem K_279 : kindOf T 279 = some (.struct [(0, 2), (1, 2), (2, 124)]) := rfl
theorem S_279 : szOf T 279 = 6 := rfl
theorem T_281 : T 281 = some ⟨.struct [(0, 2), (1, 2), (2, 2), (3, 2), (4, 2), (5, 4), (6, 279), (12, 2), (13, 101), (14, 2)], 15, 136, [.int .i64 0, .int .i64 0, .int .i64 0, .int .i64 0, .int .i64 0, .bool false, .int .i64 0, .int .i64 0, .int .i64 0, .int .i64 0, .int .i64 0, .int .i64 0, .int .i64 0, .snil, .int .i64 0], false⟩ := rfl
theorem K_281 : kindOf T 281 = some (.struct [(0, 2), (1, 2), (2, 2), (3, 2), (4, 2), (5, 4), (6, 279), (12, 2), (13, 101), (14, 2)]) := rfl
theorem S_281 : szOf T 281 = 15 := rfl
theorem T_286 : T 286 = some ⟨.struct [(0, 4), (1, 4), (2, 4), (3, 4), (4, 4)], 5, 5, [.bool false, .bool false, .bool false, .bool false, .bool false], false⟩ := rfl
theorem K_286 : kindOf T 286 = some (.struct [(0, 4), (1, 4), (2, 4), (3, 4), (4, 4)]) := rfl
theorem S_286 : szOf T 286 = 5 := rfl
theorem T_287 : T 287 = some ⟨.struct [(0, 4), (1, 4), (2, 4), (3, 4), (4, 4)], 5, 5, [.bool false, .bool false, .bool false, .bool false, .bool false], true⟩ := rfl
theorem K_287 : kindOf T 287 = some (.struct [(0, 4), (1, 4), (2, 4), (3, 4), (4, 4)]) := rfl
theorem S_287 : szOf T 287 = 5 := rfl
theorem T_293 : T 293 = some ⟨.struct [(0, 4), (1, 2), (2, 101), (3, 2)], 4, 48, [.bool false, .int .i64 0, .snil, .int .i64 0], false⟩ := rfl
theorem K_293 : kindOf T 293 = some (.struct [(0, 4), (1, 2), (2, 101), (3, 2)]) := rfl
theorem S_293 : szOf T 293 = 4 := rfl
theorem T_303 : T 303 = some ⟨.struct [(0, 2), (1, 2), (2, 2)], 3, 24, [.int .i64 0, .int .i64 0, .int .i64 0], true⟩ := rfl
theorem K_303 : kindOf T 303 = some (.struct [(0, 2), (1, 2), (2, 2)]) := rfl
theorem S_303 : szOf T 303 = 3 := rfl
theorem T_305 : T 305 = some ⟨.struct [(0, 2), (1, 2), (2, 2)], 3, 24, [.int .i64 0, .int .i64 0, .int .i64 0], true⟩ := rfl
theorem K_305 : kindOf T 305 = some (.struct [(0, 2), (1, 2), (2, 2)]) := rfl
theorem S_305 : szOf T 305 = 3 := rfl
theorem T_318 : T 318 = some ⟨.struct [(0, 4), (1, 2), (2, 2), (3, 2)], 4, 32, [.bool false, .int .i64 0, .int .i64 0, .int .i64 0], true⟩ := rfl
theorem K_318 : kindOf T 318 = some (.struct [(0, 4), (1, 2), (2, 2), (3, 2)]) := rfl
theorem S_318 : szOf T 318 = 4 := rfl
theorem T_322 : T 322 = some ⟨.other, 1, 8, [.nilp], false⟩ := rfl
theorem K_322 : kindOf T 322 = some (.other) := rfl
theorem S_322 : szOf T 322 = 1 := rfl
theorem T_327 : T 327 = some ⟨.struct [(0, 48), (1, 2)], 2, 32, [.snil, .int .i64 0], false⟩ := rfl
theorem K_327 : kindOf T 327 = some (.struct [(0, 48), (1, 2)]) := rfl
theorem S_327 : szOf T 327 = 2 := rfl
theorem T_333 : T 333 = some ⟨.other, 1, 8, [.nilp], false⟩ := rfl
theorem K_333 : kindOf T 333 = some (.other) := rfl
theorem S_333 : szOf T 333 = 1 := rfl
theorem T_342 : T 342 = some ⟨.struct [(0, 2), (1, 2)], 2, 16, [.int .i64 0, .int .i64 0], true⟩ := rfl
theorem K_342 : kindOf T 342 = some (.struct [(0, 2), (1, 2)]) := rfl
theorem S_342 : szOf T 342 = 2 := rfl
theorem T_346 : T 346 = some ⟨.int .u64, 1, 8, [.int .u64 0], false⟩ := rfl
theorem K_346 : kindOf T 346 = some (.int .u64) := rfl
theorem S_346 : szOf T 346 = 1 := rfl
theorem T_359 : T 359 = some ⟨.struct [(0, 2), (1, 4), (2, 22)], 3, 40, [.int .i64 0, .bool false, .snil], false⟩ := rfl
theorem K_359 : kindOf T 359 = some (.struct [(0, 2), (1, 4), (2, 22)]) := rfl
theorem S_359 : szOf T 359 = 3 := rfl
theorem T_361 : T 361 = some ⟨.other, 1, 8, [.nilp], false⟩ := rfl
theorem K_361 : kindOf T 361 = some (.other) := rfl
theorem S_361 : szOf T 361 = 1 := rfl
theorem T_366 : T 366 = some ⟨.struct [(0, 2), (1, 2)], 2, 16, [.int .i64 0, .int .i64 0], true⟩ := rfl
theorem K_366 : kindOf T 366 = some (.struct [(0, 2), (1, 2)]) := rfl
theorem S_366 : szOf T 366 = 2 := rfl
theorem T_370 : T 370 = some ⟨.int .i64, 1, 8, [.int .i64 0], false⟩ := rfl
theorem K_370 : kindOf T 370 = some (.int .i64) := rfl
theorem S_370 : szOf T 370 = 1 := rfl
theorem T_377 : T 377 = some ⟨.int .u32, 1, 4, [.int .u32 0], false⟩ := rfl
theorem K_377 : kindOf T 377 = some (.int .u32) := rfl
theorem S_377 : szOf T 377 = 1 := rfl
theorem T_379 : T 379 = some ⟨.int .u64, 1, 8, [.int .u64 0], false⟩ := rfl
theorem K_379 : kindOf T 379 = some (.int .u64) := rfl
theorem S_379 : szOf T 379 = 1 := rfl
theorem T_380 : T 380 = some ⟨.slice 3, 1, 24, [.snil], false⟩ := rfl
theorem K_380 : kindOf T 380 = some (.slice 3) := rfl
theorem S_380 : szOf T 380 = 1 := rfl
theorem T_390 : T 390 = some ⟨.int .u64, 1, 8, [.int .u64 0], false⟩ := rfl
theorem K_390 : kindOf T 390 = some (.int .u64) := rfl
theorem S_390 : szOf T 390 = 1 := rfl
theorem T_394 : T 394 = some ⟨.other, 1, 8, [.nilp], false⟩ := rfl
theorem K_394 : kindOf T 394 = some (.other) := rfl
theorem S_394 : szOf T 394 = 1 := rfl
theorem T_400 : T 400 = some ⟨.other, 1, 8, [.nilp], false⟩ := rfl
theorem K_400 : kindOf T 400 = some (.other) := rfl
theorem S_400 : szOf T 400 = 1 := rfl
theorem T_412 : T 412 = some ⟨.int .u8, 1, 1, [.int .u8 0], false⟩ := rfl
theorem K_412 : kindOf T 412 = some (.int .u8) := rfl
theorem S_412 : szOf T 412 = 1 := rfl
theorem T_413 : T 413 = some ⟨.int .u8, 1, 1, [.int .u8 0], false⟩ := rfl
theorem K_413 : kindOf T 413 = some (.int .u8) := rfl
theorem S_413 : szOf T 413 = 1 := rfl
theorem T_415 : T 415 = some ⟨.other, 1, 8, [.nilp], false⟩ := rfl
theorem K_415 : kindOf T 415 = some (.other) := rfl
theorem S_415 : szOf T 415 = 1 := rfl
theorem T_416 : T 416 = some ⟨.int .i32, 1, 4, [.int .i32 0], false⟩ := rfl
theorem K_416 : kindOf T 416 = some (.int .i32) := rfl
theorem S_416 : szOf T 416 = 1 := rfl
theorem T_417 : T 417 = some ⟨.int .i32, 1, 4, [.int .i32 0], false⟩ := rfl
theorem K_417 : kindOf T 417 = some (.int .i32) := rfl
theorem S_417 : szOf T 417 = 1 := rfl
theorem tiAll : ∀ t ti, T t = some ti → tiB Try.prog t ti = true := by
  intro t ti h
  unfold T at h
  split at h
  · cases h; kernel_rfl
  · cases h; kernel_rfl
  · cases h; kernel_rfl
  · cases h; kernel_rfl
  · cases h; kernel_rfl
  · cases h; kernel_rfl
  · cases h; kernel_rfl
  · cases h; kernel_rfl
  · cases h; kernel_rfl
  · cases h; kernel_rfl
  · cases h; kernel_rfl
  · cases h; kernel_rfl
  · cases h; kernel_rfl
  · cases h; kernel_rfl
  · cases h; kernel_rfl
  · cases h; kernel_rfl
  · cases h; kernel_rfl
  · cases h; kernel_rfl
  · cases h; kernel_rfl
  · cases h; kernel_rfl
  · cases h; kernel_rfl
  · cases h; kernel_rfl
  · cases h; kernel_rfl
  · cases h; kernel_rfl
  · cases h; kernel_rfl
  · cases h; kernel_rfl
  · cases h; kernel_rfl
  · cases h; kernel_rfl
  · cases h; kernel_rfl
  · cases h; kernel_rfl
  · cases h; kernel_rfl
  · cases h; kernel_rfl
  · cases h; kernel_rfl
  · cases h; kernel_rfl
  · cases h; kernel_rfl
  · cases h; kernel_rfl
  · cases h; kernel_rfl
  · cases h; kernel_rfl
  · cases h; kernel_rfl
  · cases h; kernel_rfl
  · cases h; kernel_rfl
  · cases h; kernel_rfl
  · cases h; kernel_rfl
  · cases h; kernel_rfl
  · cases h; kernel_rfl
  · cases h; kernel_rfl
  · cases h; kernel_rfl
  · cases h; kernel_rfl
  · cases h; kernel_rfl
  · cases h; kernel_rfl
  · cases h; kernel_rfl
  · cases h; kernel_rfl
  · cases h; kernel_rfl
  · cases h; kernel_rfl
  · cases h; kernel_rfl
  · cases h; kernel_rfl
  · cases h; kernel_rfl
  · cases h; kernel_rfl
  · cases h; kernel_rfl
  · cases h; kernel_rfl
  · cases h; kernel_rfl
  · cases h; kernel_rfl
  · cases h; kernel_rfl
  · cases h; kernel_rfl
  · cases h; kernel_rfl
  · cases h; kernel_rfl
  · cases h; kernel_rfl
  · cases h; kernel_rfl
  · cases h; kernel_rfl
  · cases h; kernel_rfl
  · cases h; kernel_rfl
  · cases h; kernel_rfl
  · cases h; kernel_rfl
  · cases h; kernel_rfl
  · cases h; kernel_rfl
  · cases h; kernel_rfl
  · cases h; kernel_rfl
  · cases h; kernel_rfl
  · cases h; kernel_rfl
  · cases h; kernel_rfl
  · cases h; kernel_rfl
  · cases h; kernel_rfl
  · cases h; kernel_rfl
  · cases h; kernel_rfl
  · cases h; kernel_rfl
  · cases h; kernel_rfl
  · cases h; kernel_rfl
  · cases h; kernel_rfl
  · cases h; kernel_rfl
  · cases h; kernel_rfl
  · cases h; kernel_rfl
  · cases h; kernel_rfl
  · cases h; kernel_rfl
  · cases h; kernel_rfl
  · cases h; kernel_rfl
  · cases h; kernel_rfl
  · cases h; kernel_rfl
  · cases h; kernel_rfl
  · cases h; kernel_rfl
  · cases h; kernel_rfl
  · cases h; kernel_rfl
  · cases h
theorem hT : TOk Try.prog T where
  ok := tiAll
  eq := by
    intro t ti h he
    unfold T at h
    split at h
    · cases h; cases he
    · cases h; cases he
    · cases h; cases he
    · cases h; cases he
    · cases h; cases he
    · cases h; cases he
    · cases h; cases he
    · cases h; cases he
    · cases h; cases he
    · cases h; cases he
    · cases h; cases he
    · cases h; cases he
    · cases h; cases he
    · cases h; cases he
    · cases h; cases he
    · cases h; cases he
    · cases h; cases he
    · cases h; cases he
    · cases h; cases he
    · cases h; cases he
    · cases h; cases he
    · cases h; cases he
    · cases h; exact eqok_of (d := 6) (by decide) (by kernel_rfl) Try.underlying52 (by kernel_rfl)
    · cases h; cases he
    · cases h; cases he
    · cases h; cases he
    · cases h; cases he
    · cases h; cases he
    · cases h; cases he
    · cases h; cases he
    · cases h; cases he
    · cases h; cases he
    · cases h; cases he
    · cases h; cases he
    · cases h; cases he
    · cases h; cases he
    · cases h; cases he
    · cases h; cases he
    · cases h; cases he
    · cases h; cases he
    · cases h; cases he
    · cases h; exact eqok_of (d := 6) (by decide) (by kernel_rfl) Try.underlying93 (by kernel_rfl)
    · cases h; exact eqok_of (d := 6) (by decide) (by kernel_rfl) Try.underlying95 (by kernel_rfl)
    · cases h; cases he
    · cases h; cases he
    · cases h; cases he
    · cases h; cases he
    · cases h; cases he
    · cases h; cases he
    · cases h; cases he
    · cases h; cases he
    · cases h; exact eqok_of (d := 6) (by decide) (by kernel_rfl) Try.underlying124 (by kernel_rfl)
    · cases h; cases he
    · cases h; cases he
    · cases h; cases he
    · cases h; exact eqok_of (d := 6) (by decide) (by kernel_rfl) Try.underlying133 (by kernel_rfl)
    · cases h; cases he
    · cases h; cases he
    · cases h; exact eqok_of (d := 6) (by decide) (by kernel_rfl) Try.underlying154 (by kernel_rfl)
    · cases h; exact eqok_of (d := 6) (by decide) (by kernel_rfl) Try.underlying156 (by kernel_rfl)
    · cases h; cases he
    · cases h; cases he
    · cases h; cases he
    · cases h; exact eqok_of (d := 6) (by decide) (by kernel_rfl) Try.underlying195 (by kernel_rfl)
    · cases h; cases he
    · cases h; cases he
    · cases h; exact eqok_of (d := 6) (by decide) (by kernel_rfl) Try.underlying228 (by kernel_rfl)
    · cases h; cases he
    · cases h; cases he
    · cases h; cases he
    · cases h; cases he
    · cases h; exact eqok_of (d := 6) (by decide) (by kernel_rfl) Try.underlying266 (by kernel_rfl)
    · cases h; cases he
    · cases h; exact eqok_of (d := 6) (by decide) (by kernel_rfl) Try.underlying279 (by kernel_rfl)
    · cases h; cases he
    · cases h; cases he
    · cases h; exact eqok_of (d := 6) (by decide) (by kernel_rfl) Try.underlying287 (by kernel_rfl)
    · cases h; cases he
    · cases h; exact eqok_of (d := 6) (by decide) (by kernel_rfl) Try.underlying303 (by kernel_rfl)
    · cases h; exact eqok_of (d := 6) (by decide) (by kernel_rfl) Try.underlying305 (by kernel_rfl)
    · cases h; exact eqok_of (d := 6) (by decide) (by kernel_rfl) Try.underlying318 (by kernel_rfl)
    · cases h; cases he
    · cases h; cases he
    · cases h; cases he
    · cases h; exact eqok_of (d := 6) (by decide) (by kernel_rfl) Try.underlying342 (by kernel_rfl)
    · cases h; cases he
    · cases h; cases he
    · cases h; cases he
    · cases h; exact eqok_of (d := 6) (by decide) (by kernel_rfl) Try.underlying366 (by kernel_rfl)
    · cases h; cases he
    · cases h; cases he
    · cases h; cases he
    · cases h; cases he
    · cases h; cases he
    · cases h; cases he
    · cases h; cases he
    · cases h; cases he
    · cases h; cases he
    · cases h; cases he
    · cases h; cases he
    · cases h; cases he
    · cases h
  mixed := by kernel_rfl
theorem TT : type_of% (And.intro (And.intro (And.intro (And.intro (And.intro (And.intro (And.intro (And.intro (@T_2) (@K_2)) (And.intro (@S_2) (@T_3))) (And.intro (And.intro (@K_3) (@S_3)) (And.intro (@T_4) (And.intro (@K_4) (@S_4))))) (And.intro (And.intro (And.intro (@T_5) (@K_5)) (And.intro (@S_5) (@T_6))) (And.intro (And.intro (@K_6) (@S_6)) (And.intro (@T_12) (And.intro (@K_12) (@S_12)))))) (And.intro (And.intro (And.intro (And.intro (@T_15) (@K_15)) (And.intro (@S_15) (@T_16))) (And.intro (And.intro (@K_16) (@S_16)) (And.intro (@T_17) (And.intro (@K_17) (@S_17))))) (And.intro (And.intro (And.intro (@T_21) (@K_21)) (And.intro (@S_21) (And.intro (@T_22) (@K_22)))) (And.intro (And.intro (@S_22) (@T_23)) (And.intro (@K_23) (And.intro (@S_23) (@T_24))))))) (And.intro (And.intro (And.intro (And.intro (And.intro (@K_24) (@S_24)) (And.intro (@T_26) (@K_26))) (And.intro (And.intro (@S_26) (@T_28)) (And.intro (@K_28) (And.intro (@S_28) (@T_36))))) (And.intro (And.intro (And.intro (@K_36) (@S_36)) (And.intro (@T_37) (And.intro (@K_37) (@S_37)))) (And.intro (And.intro (@T_38) (@K_38)) (And.intro (@S_38) (And.intro (@T_40) (@K_40)))))) (And.intro (And.intro (And.intro (And.intro (@S_40) (@T_41)) (And.intro (@K_41) (@S_41))) (And.intro (And.intro (@T_43) (@K_43)) (And.intro (@S_43) (And.intro (@T_48) (@K_48))))) (And.intro (And.intro (And.intro (@S_48) (@T_52)) (And.intro (@K_52) (And.intro (@S_52) (@T_55)))) (And.intro (And.intro (@K_55) (@S_55)) (And.intro (@T_58) (And.intro (@K_58) (@S_58)))))))) (And.intro (And.intro (And.intro (And.intro (And.intro (And.intro (@T_59) (@K_59)) (And.intro (@S_59) (@T_61))) (And.intro (And.intro (@K_61) (@S_61)) (And.intro (@T_63) (And.intro (@K_63) (@S_63))))) (And.intro (And.intro (And.intro (@T_68) (@K_68)) (And.intro (@S_68) (And.intro (@T_69) (@K_69)))) (And.intro (And.intro (@S_69) (@T_71)) (And.intro (@K_71) (And.intro (@S_71) (@T_72)))))) (And.intro (And.intro (And.intro (And.intro (@K_72) (@S_72)) (And.intro (@T_74) (@K_74))) (And.intro (And.intro (@S_74) (@T_75)) (And.intro (@K_75) (And.intro (@S_75) (@T_77))))) (And.intro (And.intro (And.intro (@K_77) (@S_77)) (And.intro (@T_80) (And.intro (@K_80) (@S_80)))) (And.intro (And.intro (@T_81) (@K_81)) (And.intro (@S_81) (And.intro (@T_83) (@K_83))))))) (And.intro (And.intro (And.intro (And.intro (And.intro (@S_83) (@T_85)) (And.intro (@K_85) (@S_85))) (And.intro (And.intro (@T_86) (@K_86)) (And.intro (@S_86) (And.intro (@T_88) (@K_88))))) (And.intro (And.intro (And.intro (@S_88) (@T_93)) (And.intro (@K_93) (And.intro (@S_93) (@T_95)))) (And.intro (And.intro (@K_95) (@S_95)) (And.intro (@T_99) (And.intro (@K_99) (@S_99)))))) (And.intro (And.intro (And.intro (And.intro (@T_100) (@K_100)) (And.intro (@S_100) (@T_101))) (And.intro (And.intro (@K_101) (@S_101)) (And.intro (@T_103) (And.intro (@K_103) (@S_103))))) (And.intro (And.intro (And.intro (@T_109) (@K_109)) (And.intro (@S_109) (And.intro (@T_111) (@K_111)))) (And.intro (And.intro (@S_111) (@T_120)) (And.intro (@K_120) (And.intro (@S_120) (@T_122))))))))) (And.intro (And.intro (And.intro (And.intro (And.intro (And.intro (And.intro (@K_122) (@S_122)) (And.intro (@T_124) (@K_124))) (And.intro (And.intro (@S_124) (@T_126)) (And.intro (@K_126) (And.intro (@S_126) (@T_128))))) (And.intro (And.intro (And.intro (@K_128) (@S_128)) (And.intro (@T_130) (And.intro (@K_130) (@S_130)))) (And.intro (And.intro (@T_133) (@K_133)) (And.intro (@S_133) (And.intro (@T_140) (@K_140)))))) (And.intro (And.intro (And.intro (And.intro (@S_140) (@T_142)) (And.intro (@K_142) (@S_142))) (And.intro (And.intro (@T_154) (@K_154)) (And.intro (@S_154) (And.intro (@T_156) (@K_156))))) (And.intro (And.intro (And.intro (@S_156) (@T_169)) (And.intro (@K_169) (And.intro (@S_169) (@T_176)))) (And.intro (And.intro (@K_176) (@S_176)) (And.intro (@T_190) (And.intro (@K_190) (@S_190))))))) (And.intro (And.intro (And.intro (And.intro (And.intro (@T_195) (@K_195)) (And.intro (@S_195) (@T_197))) (And.intro (And.intro (@K_197) (@S_197)) (And.intro (@T_213) (And.intro (@K_213) (@S_213))))) (And.intro (And.intro (And.intro (@T_228) (@K_228)) (And.intro (@S_228) (And.intro (@T_248) (@K_248)))) (And.intro (And.intro (@S_248) (@T_253)) (And.intro (@K_253) (And.intro (@S_253) (@T_258)))))) (And.intro (And.intro (And.intro (And.intro (@K_258) (@S_258)) (And.intro (@T_263) (@K_263))) (And.intro (And.intro (@S_263) (@T_266)) (And.intro (@K_266) (And.intro (@S_266) (@T_272))))) (And.intro (And.intro (And.intro (@K_272) (@S_272)) (And.intro (@T_279) (And.intro (@K_279) (@S_279)))) (And.intro (And.intro (@T_281) (@K_281)) (And.intro (@S_281) (And.intro (@T_286) (@K_286)))))))) (And.intro (And.intro (And.intro (And.intro (And.intro (And.intro (@S_286) (@T_287)) (And.intro (@K_287) (@S_287))) (And.intro (And.intro (@T_293) (@K_293)) (And.intro (@S_293) (And.intro (@T_303) (@K_303))))) (And.intro (And.intro (And.intro (@S_303) (@T_305)) (And.intro (@K_305) (And.intro (@S_305) (@T_318)))) (And.intro (And.intro (@K_318) (@S_318)) (And.intro (@T_322) (And.intro (@K_322) (@S_322)))))) (And.intro (And.intro (And.intro (And.intro (@T_327) (@K_327)) (And.intro (@S_327) (@T_333))) (And.intro (And.intro (@K_333) (@S_333)) (And.intro (@T_342) (And.intro (@K_342) (@S_342))))) (And.intro (And.intro (And.intro (@T_346) (@K_346)) (And.intro (@S_346) (And.intro (@T_359) (@K_359)))) (And.intro (And.intro (@S_359) (@T_361)) (And.intro (@K_361) (And.intro (@S_361) (@T_366))))))) (And.intro (And.intro (And.intro (And.intro (And.intro (@K_366) (@S_366)) (And.intro (@T_370) (@K_370))) (And.intro (And.intro (@S_370) (@T_377)) (And.intro (@K_377) (And.intro (@S_377) (@T_379))))) (And.intro (And.intro (And.intro (@K_379) (@S_379)) (And.intro (@T_380) (And.intro (@K_380) (@S_380)))) (And.intro (And.intro (@T_390) (@K_390)) (And.intro (@S_390) (And.intro (@T_394) (@K_394)))))) (And.intro (And.intro (And.intro (And.intro (@S_394) (@T_400)) (And.intro (@K_400) (@S_400))) (And.intro (And.intro (@T_412) (@K_412)) (And.intro (@S_412) (And.intro (@T_413) (@K_413))))) (And.intro (And.intro (And.intro (@S_413) (@T_415)) (And.intro (@K_415) (And.intro (@S_415) (@T_416)))) (And.intro (And.intro (@K_416) (@S_416)) (And.intro (@T_417) (And.intro (@K_417) (@S_417)))))))))) := And.intro (And.intro (And.intro (And.intro (And.intro (And.intro (And.intro (And.intro (@T_2) (@K_2)) (And.intro (@S_2) (@T_3))) (And.intro (And.intro (@K_3) (@S_3)) (And.intro (@T_4) (And.intro (@K_4) (@S_4))))) (And.intro (And.intro (And.intro (@T_5) (@K_5)) (And.intro (@S_5) (@T_6))) (And.intro (And.intro (@K_6) (@S_6)) (And.intro (@T_12) (And.intro (@K_12) (@S_12)))))) (And.intro (And.intro (And.intro (And.intro (@T_15) (@K_15)) (And.intro (@S_15) (@T_16))) (And.intro (And.intro (@K_16) (@S_16)) (And.intro (@T_17) (And.intro (@K_17) (@S_17))))) (And.intro (And.intro (And.intro (@T_21) (@K_21)) (And.intro (@S_21) (And.intro (@T_22) (@K_22)))) (And.intro (And.intro (@S_22) (@T_23)) (And.intro (@K_23) (And.intro (@S_23) (@T_24))))))) (And.intro (And.intro (And.intro (And.intro (And.intro (@K_24) (@S_24)) (And.intro (@T_26) (@K_26))) (And.intro (And.intro (@S_26) (@T_28)) (And.intro (@K_28) (And.intro (@S_28) (@T_36))))) (And.intro (And.intro (And.intro (@K_36) (@S_36)) (And.intro (@T_37) (And.intro (@K_37) (@S_37)))) (And.intro (And.intro (@T_38) (@K_38)) (And.intro (@S_38) (And.intro (@T_40) (@K_40)))))) (And.intro (And.intro (And.intro (And.intro (@S_40) (@T_41)) (And.intro (@K_41) (@S_41))) (And.intro (And.intro (@T_43) (@K_43)) (And.intro (@S_43) (And.intro (@T_48) (@K_48))))) (And.intro (And.intro (And.intro (@S_48) (@T_52)) (And.intro (@K_52) (And.intro (@S_52) (@T_55)))) (And.intro (And.intro (@K_55) (@S_55)) (And.intro (@T_58) (And.intro (@K_58) (@S_58)))))))) (And.intro (And.intro (And.intro (And.intro (And.intro (And.intro (@T_59) (@K_59)) (And.intro (@S_59) (@T_61))) (And.intro (And.intro (@K_61) (@S_61)) (And.intro (@T_63) (And.intro (@K_63) (@S_63))))) (And.intro (And.intro (And.intro (@T_68) (@K_68)) (And.intro (@S_68) (And.intro (@T_69) (@K_69)))) (And.intro (And.intro (@S_69) (@T_71)) (And.intro (@K_71) (And.intro (@S_71) (@T_72)))))) (And.intro (And.intro (And.intro (And.intro (@K_72) (@S_72)) (And.intro (@T_74) (@K_74))) (And.intro (And.intro (@S_74) (@T_75)) (And.intro (@K_75) (And.intro (@S_75) (@T_77))))) (And.intro (And.intro (And.intro (@K_77) (@S_77)) (And.intro (@T_80) (And.intro (@K_80) (@S_80)))) (And.intro (And.intro (@T_81) (@K_81)) (And.intro (@S_81) (And.intro (@T_83) (@K_83))))))) (And.intro (And.intro (And.intro (And.intro (And.intro (@S_83) (@T_85)) (And.intro (@K_85) (@S_85))) (And.intro (And.intro (@T_86) (@K_86)) (And.intro (@S_86) (And.intro (@T_88) (@K_88))))) (And.intro (And.intro (And.intro (@S_88) (@T_93)) (And.intro (@K_93) (And.intro (@S_93) (@T_95)))) (And.intro (And.intro (@K_95) (@S_95)) (And.intro (@T_99) (And.intro (@K_99) (@S_99)))))) (And.intro (And.intro (And.intro (And.intro (@T_100) (@K_100)) (And.intro (@S_100) (@T_101))) (And.intro (And.intro (@K_101) (@S_101)) (And.intro (@T_103) (And.intro (@K_103) (@S_103))))) (And.intro (And.intro (And.intro (@T_109) (@K_109)) (And.intro (@S_109) (And.intro (@T_111) (@K_111)))) (And.intro (And.intro (@S_111) (@T_120)) (And.intro (@K_120) (And.intro (@S_120) (@T_122))))))))) (And.intro (And.intro (And.intro (And.intro (And.intro (And.intro (And.intro (@K_122) (@S_122)) (And.intro (@T_124) (@K_124))) (And.intro (And.intro (@S_124) (@T_126)) (And.intro (@K_126) (And.intro (@S_126) (@T_128))))) (And.intro (And.intro (And.intro (@K_128) (@S_128)) (And.intro (@T_130) (And.intro (@K_130) (@S_130)))) (And.intro (And.intro (@T_133) (@K_133)) (And.intro (@S_133) (And.intro (@T_140) (@K_140)))))) (And.intro (And.intro (And.intro (And.intro (@S_140) (@T_142)) (And.intro (@K_142) (@S_142))) (And.intro (And.intro (@T_154) (@K_154)) (And.intro (@S_154) (And.intro (@T_156) (@K_156))))) (And.intro (And.intro (And.intro (@S_156) (@T_169)) (And.intro (@K_169) (And.intro (@S_169) (@T_176)))) (And.intro (And.intro (@K_176) (@S_176)) (And.intro (@T_190) (And.intro (@K_190) (@S_190))))))) (And.intro (And.intro (And.intro (And.intro (And.intro (@T_195) (@K_195)) (And.intro (@S_195) (@T_197))) (And.intro (And.intro (@K_197) (@S_197)) (And.intro (@T_213) (And.intro (@K_213) (@S_213))))) (And.intro (And.intro (And.intro (@T_228) (@K_228)) (And.intro (@S_228) (And.intro (@T_248) (@K_248)))) (And.intro (And.intro (@S_248) (@T_253)) (And.intro (@K_253) (And.intro (@S_253) (@T_258)))))) (And.intro (And.intro (And.intro (And.intro (@K_258) (@S_258)) (And.intro (@T_263) (@K_263))) (And.intro (And.intro (@S_263) (@T_266)) (And.intro (@K_266) (And.intro (@S_266) (@T_272))))) (And.intro (And.intro (And.intro (@K_272) (@S_272)) (And.intro (@T_279) (And.intro (@K_279) (@S_279)))) (And.intro (And.intro (@T_281) (@K_281)) (And.intro (@S_281) (And.intro (@T_286) (@K_286)))))))) (And.intro (And.intro (And.intro (And.intro (And.intro (And.intro (@S_286) (@T_287)) (And.intro (@K_287) (@S_287))) (And.intro (And.intro (@T_293) (@K_293)) (And.intro (@S_293) (And.intro (@T_303) (@K_303))))) (And.intro (And.intro (And.intro (@S_303) (@T_305)) (And.intro (@K_305) (And.intro (@S_305) (@T_318)))) (And.intro (And.intro (@K_318) (@S_318)) (And.intro (@T_322) (And.intro (@K_322) (@S_322)))))) (And.intro (And.intro (And.intro (And.intro (@T_327) (@K_327)) (And.intro (@S_327) (@T_333))) (And.intro (And.intro (@K_333) (@S_333)) (And.intro (@T_342) (And.intro (@K_342) (@S_342))))) (And.intro (And.intro (And.intro (@T_346) (@K_346)) (And.intro (@S_346) (And.intro (@T_359) (@K_359)))) (And.intro (And.intro (@S_359) (@T_361)) (And.intro (@K_361) (And.intro (@S_361) (@T_366))))))) (And.intro (And.intro (And.intro (And.intro (And.intro (@K_366) (@S_366)) (And.intro (@T_370) (@K_370))) (And.intro (And.intro (@S_370) (@T_377)) (And.intro (@K_377) (And.intro (@S_377) (@T_379))))) (And.intro (And.intro (And.intro (@K_379) (@S_379)) (And.intro (@T_380) (And.intro (@K_380) (@S_380)))) (And.intro (And.intro (@T_390) (@K_390)) (And.intro (@S_390) (And.intro (@T_394) (@K_394)))))) (And.intro (And.intro (And.intro (And.intro (@S_394) (@T_400)) (And.intro (@K_400) (@S_400))) (And.intro (And.intro (@T_412) (@K_412)) (And.intro (@S_412) (And.intro (@T_413) (@K_413))))) (And.intro (And.intro (And.intro (@S_413) (@T_415)) (And.intro (@K_415) (And.intro (@S_415) (@T_416)))) (And.intro (And.intro (@K_416) (@S_416)) (And.intro (@T_417) (And.intro (@K_417) (@S_417)))))))))
end Go.Proofs.Ytkecenijjdpfdaa.AL
