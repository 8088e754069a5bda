/- What the seat's program says of its types (printed by types.py). -/
import Derived.Test.YtlgnflbekdldnaaAv23
import Derived.KernelRfl
import Derived.Test.YtlgnflbekdldnaaProg
namespace Go.Proofs
open Go Go.AV
theorem Try.ti2 : tiOf Try.prog 2 = some ⟨false, 1, 8, [], .int .i64⟩ := by kernel_rfl
theorem Try.z2 : zeroOf Try.prog 2 = some (.int .i64 0) := by kernel_rfl
theorem Try.in2 : (Try.prog.info? 2).isSome = true := by kernel_rfl
theorem Try.ti3 : tiOf Try.prog 3 = some ⟨false, 1, 8, [], .int .i64⟩ := by kernel_rfl
theorem Try.z3 : zeroOf Try.prog 3 = some (.int .i64 0) := by kernel_rfl
theorem Try.in3 : (Try.prog.info? 3).isSome = true := by kernel_rfl
theorem Try.ti4 : tiOf Try.prog 4 = some ⟨false, 1, 1, [], .bool⟩ := by kernel_rfl
theorem Try.z4 : zeroOf Try.prog 4 = some (.bool false) := by kernel_rfl
theorem Try.in4 : (Try.prog.info? 4).isSome = true := by kernel_rfl
theorem Try.ti5 : tiOf Try.prog 5 = some ⟨false, 1, 1, [], .int .u8⟩ := by kernel_rfl
theorem Try.z5 : zeroOf Try.prog 5 = some (.int .u8 0) := by kernel_rfl
theorem Try.in5 : (Try.prog.info? 5).isSome = true := by kernel_rfl
theorem Try.ti6 : tiOf Try.prog 6 = some ⟨false, 1, 1, [], .int .u8⟩ := by kernel_rfl
theorem Try.z6 : zeroOf Try.prog 6 = some (.int .u8 0) := by kernel_rfl
theorem Try.in6 : (Try.prog.info? 6).isSome = true := by kernel_rfl
theorem Try.ti8 : tiOf Try.prog 8 = some ⟨true, 4, 24, [(0, 1, 2), (1, 1, 3), (2, 1, 4), (3, 1, 6)], .struct⟩ := by kernel_rfl
theorem Try.z8 : zeroOf Try.prog 8 = some (.agg #[.int .i64 0, .int .i64 0, .bool false, .int .u8 0]) := by kernel_rfl
theorem Try.in8 : (Try.prog.info? 8).isSome = true := by kernel_rfl
theorem Try.ti9 : tiOf Try.prog 9 = some ⟨false, 1, 16, [], .string⟩ := by kernel_rfl
theorem Try.z9 : zeroOf Try.prog 9 = some (.string ByteArray.empty) := by kernel_rfl
theorem Try.in9 : (Try.prog.info? 9).isSome = true := by kernel_rfl
theorem Try.ti10 : tiOf Try.prog 10 = some ⟨false, 1, 16, [], .string⟩ := by kernel_rfl
theorem Try.z10 : zeroOf Try.prog 10 = some (.string ByteArray.empty) := by kernel_rfl
theorem Try.in10 : (Try.prog.info? 10).isSome = true := by kernel_rfl
theorem Try.ti11 : tiOf Try.prog 11 = some ⟨false, 1, 16, [], .string⟩ := by kernel_rfl
theorem Try.z11 : zeroOf Try.prog 11 = some (.string ByteArray.empty) := by kernel_rfl
theorem Try.in11 : (Try.prog.info? 11).isSome = true := by kernel_rfl
theorem Try.ti12 : tiOf Try.prog 12 = some ⟨false, 1, 8, [], .int .u64⟩ := by kernel_rfl
theorem Try.z12 : zeroOf Try.prog 12 = some (.int .u64 0) := by kernel_rfl
theorem Try.in12 : (Try.prog.info? 12).isSome = true := by kernel_rfl
theorem Try.ti14 : tiOf Try.prog 14 = some ⟨true, 2, 24, [(0, 1, 9), (1, 1, 12)], .struct⟩ := by kernel_rfl
theorem Try.z14 : zeroOf Try.prog 14 = some (.agg #[.string ByteArray.empty, .int .u64 0]) := by kernel_rfl
theorem Try.in14 : (Try.prog.info? 14).isSome = true := by kernel_rfl
theorem Try.ti15 : tiOf Try.prog 15 = some ⟨false, 1, 8, [], .other⟩ := by kernel_rfl
theorem Try.in15 : (Try.prog.info? 15).isSome = true := by kernel_rfl
theorem Try.ti16 : tiOf Try.prog 16 = some ⟨false, 1, 8, [], .other⟩ := by kernel_rfl
theorem Try.in16 : (Try.prog.info? 16).isSome = true := by kernel_rfl
theorem Try.ti17 : tiOf Try.prog 17 = some ⟨false, 1, 8, [], .other⟩ := by kernel_rfl
theorem Try.in17 : (Try.prog.info? 17).isSome = true := by kernel_rfl
theorem Try.ti19 : tiOf Try.prog 19 = some ⟨true, 1, 8, [(0, 1, 17)], .struct⟩ := by kernel_rfl
theorem Try.in19 : (Try.prog.info? 19).isSome = true := by kernel_rfl
theorem Try.ti22 : tiOf Try.prog 22 = some ⟨false, 1, 24, [], .slice 25⟩ := by kernel_rfl
theorem Try.z22 : zeroOf Try.prog 22 = some (.slice none 0 0) := by kernel_rfl
theorem Try.in22 : (Try.prog.info? 22).isSome = true := by kernel_rfl
theorem Try.ti23 : tiOf Try.prog 23 = some ⟨false, 1, 24, [], .slice 9⟩ := by kernel_rfl
theorem Try.z23 : zeroOf Try.prog 23 = some (.slice none 0 0) := by kernel_rfl
theorem Try.in23 : (Try.prog.info? 23).isSome = true := by kernel_rfl
theorem Try.ti25 : tiOf Try.prog 25 = some ⟨true, 5, 80, [(0, 1, 3), (1, 1, 3), (2, 1, 9), (3, 1, 22), (4, 1, 23)], .struct⟩ := by kernel_rfl
theorem Try.z25 : zeroOf Try.prog 25 = some (.agg #[.int .i64 0, .int .i64 0, .string ByteArray.empty, .slice none 0 0, .slice none 0 0]) := by kernel_rfl
theorem Try.in25 : (Try.prog.info? 25).isSome = true := by kernel_rfl
theorem Try.ti27 : tiOf Try.prog 27 = some ⟨true, 10, 104, [(0, 1, 9), (1, 1, 3), (2, 1, 3), (3, 1, 3), (4, 1, 3), (5, 1, 3), (6, 1, 3), (7, 1, 3), (8, 1, 3), (9, 1, 23)], .struct⟩ := by kernel_rfl
theorem Try.z27 : zeroOf Try.prog 27 = some (.agg #[.string ByteArray.empty, .int .i64 0, .int .i64 0, .int .i64 0, .int .i64 0, .int .i64 0, .int .i64 0, .int .i64 0, .int .i64 0, .slice none 0 0]) := by kernel_rfl
theorem Try.in27 : (Try.prog.info? 27).isSome = true := by kernel_rfl
theorem Try.ti29 : tiOf Try.prog 29 = some ⟨true, 32, 376, [(0, 1, 3), (1, 1, 3), (2, 1, 9), (3, 5, 25), (8, 10, 27), (18, 1, 3), (19, 1, 3), (20, 1, 3), (21, 1, 3), (22, 1, 3), (23, 1, 3), (24, 1, 3), (25, 1, 4), (26, 5, 25), (31, 1, 9)], .struct⟩ := by kernel_rfl
theorem Try.z29 : zeroOf Try.prog 29 = some (.agg #[.int .i64 0, .int .i64 0, .string ByteArray.empty, .int .i64 0, .int .i64 0, .string ByteArray.empty, .slice none 0 0, .slice none 0 0, .string ByteArray.empty, .int .i64 0, .int .i64 0, .int .i64 0, .int .i64 0, .int .i64 0, .int .i64 0, .int .i64 0, .int .i64 0, .slice none 0 0, .int .i64 0, .int .i64 0, .int .i64 0, .int .i64 0, .int .i64 0, .int .i64 0, .int .i64 0, .bool false, .int .i64 0, .int .i64 0, .string ByteArray.empty, .slice none 0 0, .slice none 0 0, .string ByteArray.empty]) := by kernel_rfl
theorem Try.in29 : (Try.prog.info? 29).isSome = true := by kernel_rfl
theorem Try.ti40 : tiOf Try.prog 40 = some ⟨false, 1, 24, [], .slice 57⟩ := by kernel_rfl
theorem Try.z40 : zeroOf Try.prog 40 = some (.slice none 0 0) := by kernel_rfl
theorem Try.in40 : (Try.prog.info? 40).isSome = true := by kernel_rfl
theorem Try.ti42 : tiOf Try.prog 42 = some ⟨false, 1, 24, [], .slice 3⟩ := by kernel_rfl
theorem Try.z42 : zeroOf Try.prog 42 = some (.slice none 0 0) := by kernel_rfl
theorem Try.in42 : (Try.prog.info? 42).isSome = true := by kernel_rfl
theorem Try.ti44 : tiOf Try.prog 44 = some ⟨false, 1, 8, [], .int .i64⟩ := by kernel_rfl
theorem Try.z44 : zeroOf Try.prog 44 = some (.int .i64 0) := by kernel_rfl
theorem Try.in44 : (Try.prog.info? 44).isSome = true := by kernel_rfl
theorem Try.ti57 : tiOf Try.prog 57 = some ⟨true, 8, 104, [(0, 1, 3), (1, 1, 3), (2, 1, 3), (3, 5, 25)], .struct⟩ := by kernel_rfl
theorem Try.z57 : zeroOf Try.prog 57 = some (.agg #[.int .i64 0, .int .i64 0, .int .i64 0, .int .i64 0, .int .i64 0, .string ByteArray.empty, .slice none 0 0, .slice none 0 0]) := by kernel_rfl
theorem Try.in57 : (Try.prog.info? 57).isSome = true := by kernel_rfl
theorem Try.ti58 : tiOf Try.prog 58 = some ⟨false, 1, 8, [], .other⟩ := by kernel_rfl
theorem Try.in58 : (Try.prog.info? 58).isSome = true := by kernel_rfl
theorem Try.ti66 : tiOf Try.prog 66 = some ⟨false, 1, 24, [], .slice 67⟩ := by kernel_rfl
theorem Try.z66 : zeroOf Try.prog 66 = some (.slice none 0 0) := by kernel_rfl
theorem Try.in66 : (Try.prog.info? 66).isSome = true := by kernel_rfl
theorem Try.ti67 : tiOf Try.prog 67 = some ⟨false, 1, 2, [], .int .u16⟩ := by kernel_rfl
theorem Try.z67 : zeroOf Try.prog 67 = some (.int .u16 0) := by kernel_rfl
theorem Try.in67 : (Try.prog.info? 67).isSome = true := by kernel_rfl
theorem Try.ti72 : tiOf Try.prog 72 = some ⟨false, 1, 24, [], .slice 81⟩ := by kernel_rfl
theorem Try.z72 : zeroOf Try.prog 72 = some (.slice none 0 0) := by kernel_rfl
theorem Try.in72 : (Try.prog.info? 72).isSome = true := by kernel_rfl
theorem Try.ti73 : tiOf Try.prog 73 = some ⟨false, 1, 24, [], .slice 29⟩ := by kernel_rfl
theorem Try.z73 : zeroOf Try.prog 73 = some (.slice none 0 0) := by kernel_rfl
theorem Try.in73 : (Try.prog.info? 73).isSome = true := by kernel_rfl
theorem Try.ti74 : tiOf Try.prog 74 = some ⟨false, 1, 24, [], .slice 248⟩ := by kernel_rfl
theorem Try.z74 : zeroOf Try.prog 74 = some (.slice none 0 0) := by kernel_rfl
theorem Try.in74 : (Try.prog.info? 74).isSome = true := by kernel_rfl
theorem Try.ti75 : tiOf Try.prog 75 = some ⟨false, 1, 24, [], .slice 250⟩ := by kernel_rfl
theorem Try.z75 : zeroOf Try.prog 75 = some (.slice none 0 0) := by kernel_rfl
theorem Try.in75 : (Try.prog.info? 75).isSome = true := by kernel_rfl
theorem Try.ti76 : tiOf Try.prog 76 = some ⟨false, 1, 24, [], .slice 252⟩ := by kernel_rfl
theorem Try.z76 : zeroOf Try.prog 76 = some (.slice none 0 0) := by kernel_rfl
theorem Try.in76 : (Try.prog.info? 76).isSome = true := by kernel_rfl
theorem Try.ti77 : tiOf Try.prog 77 = some ⟨false, 1, 24, [], .slice 179⟩ := by kernel_rfl
theorem Try.z77 : zeroOf Try.prog 77 = some (.slice none 0 0) := by kernel_rfl
theorem Try.in77 : (Try.prog.info? 77).isSome = true := by kernel_rfl
theorem Try.ti79 : tiOf Try.prog 79 = some ⟨true, 24, 376, [(0, 1, 3), (1, 1, 3), (2, 1, 3), (3, 1, 3), (4, 1, 3), (5, 1, 3), (6, 1, 9), (7, 5, 25), (12, 5, 25), (17, 1, 4), (18, 1, 73), (19, 1, 74), (20, 1, 75), (21, 1, 76), (22, 1, 77), (23, 1, 23)], .struct⟩ := by kernel_rfl
theorem Try.z79 : zeroOf Try.prog 79 = some (.agg #[.int .i64 0, .int .i64 0, .int .i64 0, .int .i64 0, .int .i64 0, .int .i64 0, .string ByteArray.empty, .int .i64 0, .int .i64 0, .string ByteArray.empty, .slice none 0 0, .slice none 0 0, .int .i64 0, .int .i64 0, .string ByteArray.empty, .slice none 0 0, .slice none 0 0, .bool false, .slice none 0 0, .slice none 0 0, .slice none 0 0, .slice none 0 0, .slice none 0 0, .slice none 0 0]) := by kernel_rfl
theorem Try.in79 : (Try.prog.info? 79).isSome = true := by kernel_rfl
theorem Try.ti81 : tiOf Try.prog 81 = some ⟨true, 7, 112, [(0, 1, 9), (1, 1, 9), (2, 5, 25)], .struct⟩ := by kernel_rfl
theorem Try.z81 : zeroOf Try.prog 81 = some (.agg #[.string ByteArray.empty, .string ByteArray.empty, .int .i64 0, .int .i64 0, .string ByteArray.empty, .slice none 0 0, .slice none 0 0]) := by kernel_rfl
theorem Try.in81 : (Try.prog.info? 81).isSome = true := by kernel_rfl
theorem Try.ti88 : tiOf Try.prog 88 = some ⟨false, 1, 24, [], .slice 139⟩ := by kernel_rfl
theorem Try.z88 : zeroOf Try.prog 88 = some (.slice none 0 0) := by kernel_rfl
theorem Try.in88 : (Try.prog.info? 88).isSome = true := by kernel_rfl
theorem Try.ti89 : tiOf Try.prog 89 = some ⟨false, 1, 24, [], .slice 254⟩ := by kernel_rfl
theorem Try.z89 : zeroOf Try.prog 89 = some (.slice none 0 0) := by kernel_rfl
theorem Try.in89 : (Try.prog.info? 89).isSome = true := by kernel_rfl
theorem Try.ti91 : tiOf Try.prog 91 = some ⟨true, 34, 544, [(0, 1, 9), (1, 1, 9), (2, 1, 9), (3, 1, 3), (4, 1, 88), (5, 24, 79), (29, 1, 88), (30, 1, 72), (31, 1, 89), (32, 1, 3), (33, 1, 3)], .struct⟩ := by kernel_rfl
theorem Try.z91 : zeroOf Try.prog 91 = some (.agg #[.string ByteArray.empty, .string ByteArray.empty, .string ByteArray.empty, .int .i64 0, .slice none 0 0, .int .i64 0, .int .i64 0, .int .i64 0, .int .i64 0, .int .i64 0, .int .i64 0, .string ByteArray.empty, .int .i64 0, .int .i64 0, .string ByteArray.empty, .slice none 0 0, .slice none 0 0, .int .i64 0, .int .i64 0, .string ByteArray.empty, .slice none 0 0, .slice none 0 0, .bool false, .slice none 0 0, .slice none 0 0, .slice none 0 0, .slice none 0 0, .slice none 0 0, .slice none 0 0, .slice none 0 0, .slice none 0 0, .slice none 0 0, .int .i64 0, .int .i64 0]) := by kernel_rfl
theorem Try.in91 : (Try.prog.info? 91).isSome = true := by kernel_rfl
theorem Try.ti95 : tiOf Try.prog 95 = some ⟨false, 1, 24, [], .slice 99⟩ := by kernel_rfl
theorem Try.z95 : zeroOf Try.prog 95 = some (.slice none 0 0) := by kernel_rfl
theorem Try.in95 : (Try.prog.info? 95).isSome = true := by kernel_rfl
theorem Try.ti99 : tiOf Try.prog 99 = some ⟨true, 20, 240, [(0, 1, 3), (1, 1, 3), (2, 1, 9), (3, 1, 9), (4, 1, 3), (5, 5, 25), (10, 10, 27)], .struct⟩ := by kernel_rfl
theorem Try.z99 : zeroOf Try.prog 99 = some (.agg #[.int .i64 0, .int .i64 0, .string ByteArray.empty, .string ByteArray.empty, .int .i64 0, .int .i64 0, .int .i64 0, .string ByteArray.empty, .slice none 0 0, .slice none 0 0, .string ByteArray.empty, .int .i64 0, .int .i64 0, .int .i64 0, .int .i64 0, .int .i64 0, .int .i64 0, .int .i64 0, .int .i64 0, .slice none 0 0]) := by kernel_rfl
theorem Try.in99 : (Try.prog.info? 99).isSome = true := by kernel_rfl
theorem Try.ti101 : tiOf Try.prog 101 = some ⟨false, 1, 24, [], .slice 118⟩ := by kernel_rfl
theorem Try.z101 : zeroOf Try.prog 101 = some (.slice none 0 0) := by kernel_rfl
theorem Try.in101 : (Try.prog.info? 101).isSome = true := by kernel_rfl
theorem Try.ti104 : tiOf Try.prog 104 = some ⟨true, 8, 112, [(0, 1, 3), (1, 1, 3), (2, 1, 9), (3, 5, 25)], .struct⟩ := by kernel_rfl
theorem Try.z104 : zeroOf Try.prog 104 = some (.agg #[.int .i64 0, .int .i64 0, .string ByteArray.empty, .int .i64 0, .int .i64 0, .string ByteArray.empty, .slice none 0 0, .slice none 0 0]) := by kernel_rfl
theorem Try.in104 : (Try.prog.info? 104).isSome = true := by kernel_rfl
theorem Try.ti106 : tiOf Try.prog 106 = some ⟨true, 8, 112, [(0, 1, 3), (1, 1, 3), (2, 1, 9), (3, 5, 25)], .struct⟩ := by kernel_rfl
theorem Try.z106 : zeroOf Try.prog 106 = some (.agg #[.int .i64 0, .int .i64 0, .string ByteArray.empty, .int .i64 0, .int .i64 0, .string ByteArray.empty, .slice none 0 0, .slice none 0 0]) := by kernel_rfl
theorem Try.in106 : (Try.prog.info? 106).isSome = true := by kernel_rfl
theorem Try.ti108 : tiOf Try.prog 108 = some ⟨false, 1, 24, [], .slice 188⟩ := by kernel_rfl
theorem Try.z108 : zeroOf Try.prog 108 = some (.slice none 0 0) := by kernel_rfl
theorem Try.in108 : (Try.prog.info? 108).isSome = true := by kernel_rfl
theorem Try.ti118 : tiOf Try.prog 118 = some ⟨true, 10, 136, [(0, 1, 9), (1, 1, 3), (2, 1, 9), (3, 1, 3), (4, 1, 4), (5, 5, 25)], .struct⟩ := by kernel_rfl
theorem Try.z118 : zeroOf Try.prog 118 = some (.agg #[.string ByteArray.empty, .int .i64 0, .string ByteArray.empty, .int .i64 0, .bool false, .int .i64 0, .int .i64 0, .string ByteArray.empty, .slice none 0 0, .slice none 0 0]) := by kernel_rfl
theorem Try.in118 : (Try.prog.info? 118).isSome = true := by kernel_rfl
theorem Try.ti122 : tiOf Try.prog 122 = some ⟨true, 4, 40, [(0, 1, 3), (1, 1, 4), (2, 1, 3), (3, 1, 9)], .struct⟩ := by kernel_rfl
theorem Try.z122 : zeroOf Try.prog 122 = some (.agg #[.int .i64 0, .bool false, .int .i64 0, .string ByteArray.empty]) := by kernel_rfl
theorem Try.in122 : (Try.prog.info? 122).isSome = true := by kernel_rfl
theorem Try.ti125 : tiOf Try.prog 125 = some ⟨true, 4, 40, [(0, 1, 3), (1, 1, 4), (2, 1, 3), (3, 1, 9)], .struct⟩ := by kernel_rfl
theorem Try.z125 : zeroOf Try.prog 125 = some (.agg #[.int .i64 0, .bool false, .int .i64 0, .string ByteArray.empty]) := by kernel_rfl
theorem Try.in125 : (Try.prog.info? 125).isSome = true := by kernel_rfl
theorem Try.ti137 : tiOf Try.prog 137 = some ⟨false, 1, 8, [], .other⟩ := by kernel_rfl
theorem Try.in137 : (Try.prog.info? 137).isSome = true := by kernel_rfl
theorem Try.ti139 : tiOf Try.prog 139 = some ⟨true, 24, 272, [(0, 1, 3), (1, 1, 3), (2, 1, 3), (3, 1, 3), (4, 1, 3), (5, 1, 3), (6, 1, 3), (7, 1, 9), (8, 1, 9), (9, 5, 25), (14, 10, 27)], .struct⟩ := by kernel_rfl
theorem Try.z139 : zeroOf Try.prog 139 = some (.agg #[.int .i64 0, .int .i64 0, .int .i64 0, .int .i64 0, .int .i64 0, .int .i64 0, .int .i64 0, .string ByteArray.empty, .string ByteArray.empty, .int .i64 0, .int .i64 0, .string ByteArray.empty, .slice none 0 0, .slice none 0 0, .string ByteArray.empty, .int .i64 0, .int .i64 0, .int .i64 0, .int .i64 0, .int .i64 0, .int .i64 0, .int .i64 0, .int .i64 0, .slice none 0 0]) := by kernel_rfl
theorem Try.in139 : (Try.prog.info? 139).isSome = true := by kernel_rfl
theorem Try.ti143 : tiOf Try.prog 143 = some ⟨false, 1, 24, [], .slice 158⟩ := by kernel_rfl
theorem Try.z143 : zeroOf Try.prog 143 = some (.slice none 0 0) := by kernel_rfl
theorem Try.in143 : (Try.prog.info? 143).isSome = true := by kernel_rfl
theorem Try.ti155 : tiOf Try.prog 155 = some ⟨false, 1, 24, [], .slice 4⟩ := by kernel_rfl
theorem Try.z155 : zeroOf Try.prog 155 = some (.slice none 0 0) := by kernel_rfl
theorem Try.in155 : (Try.prog.info? 155).isSome = true := by kernel_rfl
theorem Try.ti158 : tiOf Try.prog 158 = some ⟨true, 3, 64, [(0, 1, 9), (1, 1, 22), (2, 1, 42)], .struct⟩ := by kernel_rfl
theorem Try.z158 : zeroOf Try.prog 158 = some (.agg #[.string ByteArray.empty, .slice none 0 0, .slice none 0 0]) := by kernel_rfl
theorem Try.in158 : (Try.prog.info? 158).isSome = true := by kernel_rfl
theorem Try.ti164 : tiOf Try.prog 164 = some ⟨true, 5, 80, [], .array 5 9⟩ := by kernel_rfl
theorem Try.z164 : zeroOf Try.prog 164 = some (.agg #[.string ByteArray.empty, .string ByteArray.empty, .string ByteArray.empty, .string ByteArray.empty, .string ByteArray.empty]) := by kernel_rfl
theorem Try.in164 : (Try.prog.info? 164).isSome = true := by kernel_rfl
theorem Try.ti168 : tiOf Try.prog 168 = some ⟨false, 1, 8, [], .other⟩ := by kernel_rfl
theorem Try.in168 : (Try.prog.info? 168).isSome = true := by kernel_rfl
theorem Try.ti172 : tiOf Try.prog 172 = some ⟨false, 1, 8, [], .other⟩ := by kernel_rfl
theorem Try.in172 : (Try.prog.info? 172).isSome = true := by kernel_rfl
theorem Try.ti175 : tiOf Try.prog 175 = some ⟨false, 1, 8, [], .other⟩ := by kernel_rfl
theorem Try.in175 : (Try.prog.info? 175).isSome = true := by kernel_rfl
theorem Try.ti179 : tiOf Try.prog 179 = some ⟨true, 2, 24, [(0, 1, 9), (1, 1, 4)], .struct⟩ := by kernel_rfl
theorem Try.z179 : zeroOf Try.prog 179 = some (.agg #[.string ByteArray.empty, .bool false]) := by kernel_rfl
theorem Try.in179 : (Try.prog.info? 179).isSome = true := by kernel_rfl
theorem Try.ti180 : tiOf Try.prog 180 = some ⟨false, 1, 8, [], .other⟩ := by kernel_rfl
theorem Try.in180 : (Try.prog.info? 180).isSome = true := by kernel_rfl
theorem Try.ti182 : tiOf Try.prog 182 = some ⟨false, 1, 8, [], .other⟩ := by kernel_rfl
theorem Try.in182 : (Try.prog.info? 182).isSome = true := by kernel_rfl
theorem Try.ti186 : tiOf Try.prog 186 = some ⟨false, 1, 8, [], .map 9 4⟩ := by kernel_rfl
theorem Try.in186 : (Try.prog.info? 186).isSome = true := by kernel_rfl
theorem Try.ti188 : tiOf Try.prog 188 = some ⟨true, 10, 136, [(0, 1, 9), (1, 1, 3), (2, 1, 9), (3, 1, 3), (4, 1, 4), (5, 5, 25)], .struct⟩ := by kernel_rfl
theorem Try.z188 : zeroOf Try.prog 188 = some (.agg #[.string ByteArray.empty, .int .i64 0, .string ByteArray.empty, .int .i64 0, .bool false, .int .i64 0, .int .i64 0, .string ByteArray.empty, .slice none 0 0, .slice none 0 0]) := by kernel_rfl
theorem Try.in188 : (Try.prog.info? 188).isSome = true := by kernel_rfl
theorem Try.ti208 : tiOf Try.prog 208 = some ⟨false, 1, 24, [], .slice 5⟩ := by kernel_rfl
theorem Try.z208 : zeroOf Try.prog 208 = some (.slice none 0 0) := by kernel_rfl
theorem Try.in208 : (Try.prog.info? 208).isSome = true := by kernel_rfl
theorem Try.ti218 : tiOf Try.prog 218 = some ⟨false, 1, 8, [], .other⟩ := by kernel_rfl
theorem Try.in218 : (Try.prog.info? 218).isSome = true := by kernel_rfl
theorem Try.ti229 : tiOf Try.prog 229 = some ⟨false, 1, 8, [], .int .u64⟩ := by kernel_rfl
theorem Try.z229 : zeroOf Try.prog 229 = some (.int .u64 0) := by kernel_rfl
theorem Try.in229 : (Try.prog.info? 229).isSome = true := by kernel_rfl
theorem Try.ti231 : tiOf Try.prog 231 = some ⟨false, 1, 4, [], .int .u32⟩ := by kernel_rfl
theorem Try.z231 : zeroOf Try.prog 231 = some (.int .u32 0) := by kernel_rfl
theorem Try.in231 : (Try.prog.info? 231).isSome = true := by kernel_rfl
theorem Try.ti240 : tiOf Try.prog 240 = some ⟨false, 1, 1, [], .int .u8⟩ := by kernel_rfl
theorem Try.z240 : zeroOf Try.prog 240 = some (.int .u8 0) := by kernel_rfl
theorem Try.in240 : (Try.prog.info? 240).isSome = true := by kernel_rfl
theorem Try.follow : Try.prog.follows .mixedOrders = true := by kernel_rfl
section
variable {w : World} {H : Type} {enc : TypeId × Value → H}
theorem Try.cells29 : Try.prog.cellsOf 29 = 32 := by kernel_rfl
theorem Try.bytes29 : Try.prog.bytesOf 29 = 376 := by kernel_rfl
theorem Try.cells3 : Try.prog.cellsOf 3 = 1 := by kernel_rfl
theorem Try.bytes3 : Try.prog.bytesOf 3 = 8 := by kernel_rfl
theorem Try.cells9 : Try.prog.cellsOf 9 = 1 := by kernel_rfl
theorem Try.bytes9 : Try.prog.bytesOf 9 = 16 := by kernel_rfl
theorem Try.cells25 : Try.prog.cellsOf 25 = 5 := by kernel_rfl
theorem Try.bytes25 : Try.prog.bytesOf 25 = 80 := by kernel_rfl
theorem Try.cells22 : Try.prog.cellsOf 22 = 1 := by kernel_rfl
theorem Try.bytes22 : Try.prog.bytesOf 22 = 24 := by kernel_rfl
theorem Try.cells23 : Try.prog.cellsOf 23 = 1 := by kernel_rfl
theorem Try.bytes23 : Try.prog.bytesOf 23 = 24 := by kernel_rfl
theorem Try.open25 (n : Nat) : Opens enc Try.prog w n 25 GVal.cs GVal.ok := by
  induction n with
  | zero => exact opens_zero
  | succ n ih =>
    refine (opens_st Try.underlying25 Try.cells25 (opensF_c Try.cells3 rfl (fun z => rfl) (opens_int Try.underlying3) (opensF_c Try.cells3 rfl (fun z => rfl) (opens_int Try.underlying3) (opensF_c Try.cells9 rfl (fun z => rfl) (opens_string Try.underlying9) (opensF_c Try.cells22 rfl (fun z => rfl) (opens_sl Try.underlying22 Try.cells25 Try.bytes25 (by decide) (fun z => rfl) ih) (opensF_c Try.cells23 rfl (fun z => rfl) (opens_sl Try.underlying23 Try.cells9 Try.bytes9 (by decide) (fun z => rfl) (opens_string Try.underlying9)) opensF_nil))))) (fun z => rfl)).to (fun z => .mk z.1 z.2.1 z.2.2.1 z.2.2.2.1 z.2.2.2.2.1) (fun z => ?_) (fun z h => ?_)
    · simp only [GVal.cs, GVal.Kind, GVal.Num, GVal.Text, GVal.Items, GVal.Keys, GVal.css_map]
      rfl
    · simp only [GVal.ok, GVal.oks_iff]
      exact h
theorem Try.cells27 : Try.prog.cellsOf 27 = 10 := by kernel_rfl
theorem Try.bytes27 : Try.prog.bytesOf 27 = 104 := by kernel_rfl
theorem Try.open27 (n : Nat) : Opens enc Try.prog w n 27 GPolicy.cs GPolicy.ok := by
  cases n with
  | zero => exact opens_zero
  | succ n => exact (opens_st Try.underlying27 Try.cells27 (opensF_c Try.cells9 rfl (fun z => rfl) (opens_string Try.underlying9) (opensF_c Try.cells3 rfl (fun z => rfl) (opens_int Try.underlying3) (opensF_c Try.cells3 rfl (fun z => rfl) (opens_int Try.underlying3) (opensF_c Try.cells3 rfl (fun z => rfl) (opens_int Try.underlying3) (opensF_c Try.cells3 rfl (fun z => rfl) (opens_int Try.underlying3) (opensF_c Try.cells3 rfl (fun z => rfl) (opens_int Try.underlying3) (opensF_c Try.cells3 rfl (fun z => rfl) (opens_int Try.underlying3) (opensF_c Try.cells3 rfl (fun z => rfl) (opens_int Try.underlying3) (opensF_c Try.cells3 rfl (fun z => rfl) (opens_int Try.underlying3) (opensF_c Try.cells23 rfl (fun z => rfl) (opens_sl Try.underlying23 Try.cells9 Try.bytes9 (by decide) (fun z => rfl) (opens_string Try.underlying9)) opensF_nil)))))))))) (fun z => rfl)).to (fun z => ⟨z.1, z.2.1, z.2.2.1, z.2.2.2.1, z.2.2.2.2.1, z.2.2.2.2.2.1, z.2.2.2.2.2.2.1, z.2.2.2.2.2.2.2.1, z.2.2.2.2.2.2.2.2.1, z.2.2.2.2.2.2.2.2.2.1⟩) (fun z => (by first | rfl | (simp only [GPolicy.cs, GVal.css_map]; rfl))) (fun z h => h)
theorem Try.cells4 : Try.prog.cellsOf 4 = 1 := by kernel_rfl
theorem Try.bytes4 : Try.prog.bytesOf 4 = 1 := by kernel_rfl
theorem Try.open29 (n : Nat) : Opens enc Try.prog w n 29 GAct.cs GAct.ok := by
  cases n with
  | zero => exact opens_zero
  | succ n => exact (opens_st Try.underlying29 Try.cells29 (opensF_c Try.cells3 rfl (fun z => rfl) (opens_int Try.underlying3) (opensF_c Try.cells3 rfl (fun z => rfl) (opens_int Try.underlying3) (opensF_c Try.cells9 rfl (fun z => rfl) (opens_string Try.underlying9) (opensF_c Try.cells25 rfl (fun z => rfl) (Try.open25 n) (opensF_c Try.cells27 rfl (fun z => rfl) (Try.open27 n) (opensF_c Try.cells3 rfl (fun z => rfl) (opens_int Try.underlying3) (opensF_c Try.cells3 rfl (fun z => rfl) (opens_int Try.underlying3) (opensF_c Try.cells3 rfl (fun z => rfl) (opens_int Try.underlying3) (opensF_c Try.cells3 rfl (fun z => rfl) (opens_int Try.underlying3) (opensF_c Try.cells3 rfl (fun z => rfl) (opens_int Try.underlying3) (opensF_c Try.cells3 rfl (fun z => rfl) (opens_int Try.underlying3) (opensF_c Try.cells3 rfl (fun z => rfl) (opens_int Try.underlying3) (opensF_c Try.cells4 rfl (fun z => rfl) (opens_bool Try.underlying4) (opensF_c Try.cells25 rfl (fun z => rfl) (Try.open25 n) (opensF_c Try.cells9 rfl (fun z => rfl) (opens_string Try.underlying9) opensF_nil))))))))))))))) (fun z => rfl)).to (fun z => ⟨z.1, z.2.1, z.2.2.1, z.2.2.2.1, z.2.2.2.2.1, z.2.2.2.2.2.1, z.2.2.2.2.2.2.1, z.2.2.2.2.2.2.2.1, z.2.2.2.2.2.2.2.2.1, z.2.2.2.2.2.2.2.2.2.1, z.2.2.2.2.2.2.2.2.2.2.1, z.2.2.2.2.2.2.2.2.2.2.2.1, z.2.2.2.2.2.2.2.2.2.2.2.2.1, z.2.2.2.2.2.2.2.2.2.2.2.2.2.1, z.2.2.2.2.2.2.2.2.2.2.2.2.2.2.1⟩) (fun z => (by first | rfl | (simp only [GAct.cs, GVal.css_map]; rfl))) (fun z h => h)
theorem Try.cells40 : Try.prog.cellsOf 40 = 1 := by kernel_rfl
theorem Try.bytes40 : Try.prog.bytesOf 40 = 24 := by kernel_rfl
theorem Try.cells57 : Try.prog.cellsOf 57 = 8 := by kernel_rfl
theorem Try.bytes57 : Try.prog.bytesOf 57 = 104 := by kernel_rfl
theorem Try.open57 (n : Nat) : Opens enc Try.prog w n 57 GFuture.cs GFuture.ok := by
  cases n with
  | zero => exact opens_zero
  | succ n => exact (opens_st Try.underlying57 Try.cells57 (opensF_c Try.cells3 rfl (fun z => rfl) (opens_int Try.underlying3) (opensF_c Try.cells3 rfl (fun z => rfl) (opens_int Try.underlying3) (opensF_c Try.cells3 rfl (fun z => rfl) (opens_int Try.underlying3) (opensF_c Try.cells25 rfl (fun z => rfl) (Try.open25 n) opensF_nil)))) (fun z => rfl)).to (fun z => ⟨z.1, z.2.1, z.2.2.1, z.2.2.2.1⟩) (fun z => (by first | rfl | (simp only [GFuture.cs, GVal.css_map]; rfl))) (fun z h => h)
theorem Try.opensl40 (n : Nat) : Opens enc Try.prog w n 40 (fun zs : List GFuture => [.sl (zs.map GFuture.cs)]) (fun zs => (∀ z ∈ zs, GFuture.ok z) ∧ zs.length * 104 ≤ reachBytes) := (opens_sl Try.underlying40 Try.cells57 Try.bytes57 (by decide) (fun z => rfl) (Try.open57 n))
theorem Try.cells72 : Try.prog.cellsOf 72 = 1 := by kernel_rfl
theorem Try.bytes72 : Try.prog.bytesOf 72 = 24 := by kernel_rfl
theorem Try.cells81 : Try.prog.cellsOf 81 = 7 := by kernel_rfl
theorem Try.bytes81 : Try.prog.bytesOf 81 = 112 := by kernel_rfl
theorem Try.open81 (n : Nat) : Opens enc Try.prog w n 81 GAdmit.cs GAdmit.ok := by
  cases n with
  | zero => exact opens_zero
  | succ n => exact (opens_st Try.underlying81 Try.cells81 (opensF_c Try.cells9 rfl (fun z => rfl) (opens_string Try.underlying9) (opensF_c Try.cells9 rfl (fun z => rfl) (opens_string Try.underlying9) (opensF_c Try.cells25 rfl (fun z => rfl) (Try.open25 n) opensF_nil))) (fun z => rfl)).to (fun z => ⟨z.1, z.2.1, z.2.2.1⟩) (fun z => (by first | rfl | (simp only [GAdmit.cs, GVal.css_map]; rfl))) (fun z h => h)
theorem Try.opensl72 (n : Nat) : Opens enc Try.prog w n 72 (fun zs : List GAdmit => [.sl (zs.map GAdmit.cs)]) (fun zs => (∀ z ∈ zs, GAdmit.ok z) ∧ zs.length * 112 ≤ reachBytes) := (opens_sl Try.underlying72 Try.cells81 Try.bytes81 (by decide) (fun z => rfl) (Try.open81 n))
theorem Try.cells79 : Try.prog.cellsOf 79 = 24 := by kernel_rfl
theorem Try.bytes79 : Try.prog.bytesOf 79 = 376 := by kernel_rfl
theorem Try.cells73 : Try.prog.cellsOf 73 = 1 := by kernel_rfl
theorem Try.bytes73 : Try.prog.bytesOf 73 = 24 := by kernel_rfl
theorem Try.cells74 : Try.prog.cellsOf 74 = 1 := by kernel_rfl
theorem Try.bytes74 : Try.prog.bytesOf 74 = 24 := by kernel_rfl
theorem Try.cells248 : Try.prog.cellsOf 248 = 3 := by kernel_rfl
theorem Try.bytes248 : Try.prog.bytesOf 248 = 24 := by kernel_rfl
theorem Try.open248 (n : Nat) : Opens enc Try.prog w n 248 GTimer.cs GTimer.ok := by
  cases n with
  | zero => exact opens_zero
  | succ n => exact (opens_st Try.underlying248 Try.cells248 (opensF_c Try.cells3 rfl (fun z => rfl) (opens_int Try.underlying3) (opensF_c Try.cells3 rfl (fun z => rfl) (opens_int Try.underlying3) (opensF_c Try.cells3 rfl (fun z => rfl) (opens_int Try.underlying3) opensF_nil))) (fun z => rfl)).to (fun z => ⟨z.1, z.2.1, z.2.2.1⟩) (fun z => (by first | rfl | (simp only [GTimer.cs, GVal.css_map]; rfl))) (fun z h => h)
theorem Try.cells75 : Try.prog.cellsOf 75 = 1 := by kernel_rfl
theorem Try.bytes75 : Try.prog.bytesOf 75 = 24 := by kernel_rfl
theorem Try.cells250 : Try.prog.cellsOf 250 = 6 := by kernel_rfl
theorem Try.bytes250 : Try.prog.bytesOf 250 = 72 := by kernel_rfl
theorem Try.open250 (n : Nat) : Opens enc Try.prog w n 250 GKid.cs GKid.ok := by
  cases n with
  | zero => exact opens_zero
  | succ n => exact (opens_st Try.underlying250 Try.cells250 (opensF_c Try.cells3 rfl (fun z => rfl) (opens_int Try.underlying3) (opensF_c Try.cells3 rfl (fun z => rfl) (opens_int Try.underlying3) (opensF_c Try.cells9 rfl (fun z => rfl) (opens_string Try.underlying9) (opensF_c Try.cells9 rfl (fun z => rfl) (opens_string Try.underlying9) (opensF_c Try.cells3 rfl (fun z => rfl) (opens_int Try.underlying3) (opensF_c Try.cells9 rfl (fun z => rfl) (opens_string Try.underlying9) opensF_nil)))))) (fun z => rfl)).to (fun z => ⟨z.1, z.2.1, z.2.2.1, z.2.2.2.1, z.2.2.2.2.1, z.2.2.2.2.2.1⟩) (fun z => (by first | rfl | (simp only [GKid.cs, GVal.css_map]; rfl))) (fun z h => h)
theorem Try.cells76 : Try.prog.cellsOf 76 = 1 := by kernel_rfl
theorem Try.bytes76 : Try.prog.bytesOf 76 = 24 := by kernel_rfl
theorem Try.cells252 : Try.prog.cellsOf 252 = 4 := by kernel_rfl
theorem Try.bytes252 : Try.prog.bytesOf 252 = 48 := by kernel_rfl
theorem Try.open252 (n : Nat) : Opens enc Try.prog w n 252 GSend.cs GSend.ok := by
  cases n with
  | zero => exact opens_zero
  | succ n => exact (opens_st Try.underlying252 Try.cells252 (opensF_c Try.cells3 rfl (fun z => rfl) (opens_int Try.underlying3) (opensF_c Try.cells3 rfl (fun z => rfl) (opens_int Try.underlying3) (opensF_c Try.cells9 rfl (fun z => rfl) (opens_string Try.underlying9) (opensF_c Try.cells9 rfl (fun z => rfl) (opens_string Try.underlying9) opensF_nil)))) (fun z => rfl)).to (fun z => ⟨z.1, z.2.1, z.2.2.1, z.2.2.2.1⟩) (fun z => (by first | rfl | (simp only [GSend.cs, GVal.css_map]; rfl))) (fun z h => h)
theorem Try.cells77 : Try.prog.cellsOf 77 = 1 := by kernel_rfl
theorem Try.bytes77 : Try.prog.bytesOf 77 = 24 := by kernel_rfl
theorem Try.cells179 : Try.prog.cellsOf 179 = 2 := by kernel_rfl
theorem Try.bytes179 : Try.prog.bytesOf 179 = 24 := by kernel_rfl
theorem Try.open179 (n : Nat) : Opens enc Try.prog w n 179 GUpd.cs GUpd.ok := by
  cases n with
  | zero => exact opens_zero
  | succ n => exact (opens_st Try.underlying179 Try.cells179 (opensF_c Try.cells9 rfl (fun z => rfl) (opens_string Try.underlying9) (opensF_c Try.cells4 rfl (fun z => rfl) (opens_bool Try.underlying4) opensF_nil)) (fun z => rfl)).to (fun z => ⟨z.1, z.2.1⟩) (fun z => (by first | rfl | (simp only [GUpd.cs, GVal.css_map]; rfl))) (fun z h => h)
theorem Try.open79 (n : Nat) : Opens enc Try.prog w n 79 GPending.cs GPending.ok := by
  cases n with
  | zero => exact opens_zero
  | succ n => exact (opens_st Try.underlying79 Try.cells79 (opensF_c Try.cells3 rfl (fun z => rfl) (opens_int Try.underlying3) (opensF_c Try.cells3 rfl (fun z => rfl) (opens_int Try.underlying3) (opensF_c Try.cells3 rfl (fun z => rfl) (opens_int Try.underlying3) (opensF_c Try.cells3 rfl (fun z => rfl) (opens_int Try.underlying3) (opensF_c Try.cells3 rfl (fun z => rfl) (opens_int Try.underlying3) (opensF_c Try.cells3 rfl (fun z => rfl) (opens_int Try.underlying3) (opensF_c Try.cells9 rfl (fun z => rfl) (opens_string Try.underlying9) (opensF_c Try.cells25 rfl (fun z => rfl) (Try.open25 n) (opensF_c Try.cells25 rfl (fun z => rfl) (Try.open25 n) (opensF_c Try.cells4 rfl (fun z => rfl) (opens_bool Try.underlying4) (opensF_c Try.cells73 rfl (fun z => rfl) (opens_sl Try.underlying73 Try.cells29 Try.bytes29 (by decide) (fun z => rfl) (Try.open29 n)) (opensF_c Try.cells74 rfl (fun z => rfl) (opens_sl Try.underlying74 Try.cells248 Try.bytes248 (by decide) (fun z => rfl) (Try.open248 n)) (opensF_c Try.cells75 rfl (fun z => rfl) (opens_sl Try.underlying75 Try.cells250 Try.bytes250 (by decide) (fun z => rfl) (Try.open250 n)) (opensF_c Try.cells76 rfl (fun z => rfl) (opens_sl Try.underlying76 Try.cells252 Try.bytes252 (by decide) (fun z => rfl) (Try.open252 n)) (opensF_c Try.cells77 rfl (fun z => rfl) (opens_sl Try.underlying77 Try.cells179 Try.bytes179 (by decide) (fun z => rfl) (Try.open179 n)) (opensF_c Try.cells23 rfl (fun z => rfl) (opens_sl Try.underlying23 Try.cells9 Try.bytes9 (by decide) (fun z => rfl) (opens_string Try.underlying9)) opensF_nil)))))))))))))))) (fun z => rfl)).to (fun z => ⟨z.1, z.2.1, z.2.2.1, z.2.2.2.1, z.2.2.2.2.1, z.2.2.2.2.2.1, z.2.2.2.2.2.2.1, z.2.2.2.2.2.2.2.1, z.2.2.2.2.2.2.2.2.1, z.2.2.2.2.2.2.2.2.2.1, z.2.2.2.2.2.2.2.2.2.2.1, z.2.2.2.2.2.2.2.2.2.2.2.1, z.2.2.2.2.2.2.2.2.2.2.2.2.1, z.2.2.2.2.2.2.2.2.2.2.2.2.2.1, z.2.2.2.2.2.2.2.2.2.2.2.2.2.2.1, z.2.2.2.2.2.2.2.2.2.2.2.2.2.2.2.1⟩) (fun z => (by first | rfl | (simp only [GPending.cs, GVal.css_map]; rfl))) (fun z h => h)
theorem Try.cells88 : Try.prog.cellsOf 88 = 1 := by kernel_rfl
theorem Try.bytes88 : Try.prog.bytesOf 88 = 24 := by kernel_rfl
theorem Try.cells139 : Try.prog.cellsOf 139 = 24 := by kernel_rfl
theorem Try.bytes139 : Try.prog.bytesOf 139 = 272 := by kernel_rfl
theorem Try.open139 (n : Nat) : Opens enc Try.prog w n 139 GEvent.cs GEvent.ok := by
  cases n with
  | zero => exact opens_zero
  | succ n => exact (opens_st Try.underlying139 Try.cells139 (opensF_c Try.cells3 rfl (fun z => rfl) (opens_int Try.underlying3) (opensF_c Try.cells3 rfl (fun z => rfl) (opens_int Try.underlying3) (opensF_c Try.cells3 rfl (fun z => rfl) (opens_int Try.underlying3) (opensF_c Try.cells3 rfl (fun z => rfl) (opens_int Try.underlying3) (opensF_c Try.cells3 rfl (fun z => rfl) (opens_int Try.underlying3) (opensF_c Try.cells3 rfl (fun z => rfl) (opens_int Try.underlying3) (opensF_c Try.cells3 rfl (fun z => rfl) (opens_int Try.underlying3) (opensF_c Try.cells9 rfl (fun z => rfl) (opens_string Try.underlying9) (opensF_c Try.cells9 rfl (fun z => rfl) (opens_string Try.underlying9) (opensF_c Try.cells25 rfl (fun z => rfl) (Try.open25 n) (opensF_c Try.cells27 rfl (fun z => rfl) (Try.open27 n) opensF_nil))))))))))) (fun z => rfl)).to (fun z => ⟨z.1, z.2.1, z.2.2.1, z.2.2.2.1, z.2.2.2.2.1, z.2.2.2.2.2.1, z.2.2.2.2.2.2.1, z.2.2.2.2.2.2.2.1, z.2.2.2.2.2.2.2.2.1, z.2.2.2.2.2.2.2.2.2.1, z.2.2.2.2.2.2.2.2.2.2.1⟩) (fun z => (by first | rfl | (simp only [GEvent.cs, GVal.css_map]; rfl))) (fun z h => h)
theorem Try.opensl88 (n : Nat) : Opens enc Try.prog w n 88 (fun zs : List GEvent => [.sl (zs.map GEvent.cs)]) (fun zs => (∀ z ∈ zs, GEvent.ok z) ∧ zs.length * 272 ≤ reachBytes) := (opens_sl Try.underlying88 Try.cells139 Try.bytes139 (by decide) (fun z => rfl) (Try.open139 n))
theorem Try.cells95 : Try.prog.cellsOf 95 = 1 := by kernel_rfl
theorem Try.bytes95 : Try.prog.bytesOf 95 = 24 := by kernel_rfl
theorem Try.cells99 : Try.prog.cellsOf 99 = 20 := by kernel_rfl
theorem Try.bytes99 : Try.prog.bytesOf 99 = 240 := by kernel_rfl
theorem Try.open99 (n : Nat) : Opens enc Try.prog w n 99 GCommand.cs GCommand.ok := by
  cases n with
  | zero => exact opens_zero
  | succ n => exact (opens_st Try.underlying99 Try.cells99 (opensF_c Try.cells3 rfl (fun z => rfl) (opens_int Try.underlying3) (opensF_c Try.cells3 rfl (fun z => rfl) (opens_int Try.underlying3) (opensF_c Try.cells9 rfl (fun z => rfl) (opens_string Try.underlying9) (opensF_c Try.cells9 rfl (fun z => rfl) (opens_string Try.underlying9) (opensF_c Try.cells3 rfl (fun z => rfl) (opens_int Try.underlying3) (opensF_c Try.cells25 rfl (fun z => rfl) (Try.open25 n) (opensF_c Try.cells27 rfl (fun z => rfl) (Try.open27 n) opensF_nil))))))) (fun z => rfl)).to (fun z => ⟨z.1, z.2.1, z.2.2.1, z.2.2.2.1, z.2.2.2.2.1, z.2.2.2.2.2.1, z.2.2.2.2.2.2.1⟩) (fun z => (by first | rfl | (simp only [GCommand.cs, GVal.css_map]; rfl))) (fun z h => h)
theorem Try.opensl95 (n : Nat) : Opens enc Try.prog w n 95 (fun zs : List GCommand => [.sl (zs.map GCommand.cs)]) (fun zs => (∀ z ∈ zs, GCommand.ok z) ∧ zs.length * 240 ≤ reachBytes) := (opens_sl Try.underlying95 Try.cells99 Try.bytes99 (by decide) (fun z => rfl) (Try.open99 n))
theorem Try.opensl23 (n : Nat) : Opens enc Try.prog w n 23 (fun zs : List ByteArray => [.sl (zs.map strC)]) (fun zs => (∀ z ∈ zs, (fun z : ByteArray => z.size ≤ reachBytes) z) ∧ zs.length * 16 ≤ reachBytes) := (opens_sl Try.underlying23 Try.cells9 Try.bytes9 (by decide) (fun z => rfl) (opens_string Try.underlying9))
theorem Try.cells101 : Try.prog.cellsOf 101 = 1 := by kernel_rfl
theorem Try.bytes101 : Try.prog.bytesOf 101 = 24 := by kernel_rfl
theorem Try.cells118 : Try.prog.cellsOf 118 = 10 := by kernel_rfl
theorem Try.bytes118 : Try.prog.bytesOf 118 = 136 := by kernel_rfl
theorem Try.open118 (n : Nat) : Opens enc Try.prog w n 118 GRule.cs GRule.ok := by
  cases n with
  | zero => exact opens_zero
  | succ n => exact (opens_st Try.underlying118 Try.cells118 (opensF_c Try.cells9 rfl (fun z => rfl) (opens_string Try.underlying9) (opensF_c Try.cells3 rfl (fun z => rfl) (opens_int Try.underlying3) (opensF_c Try.cells9 rfl (fun z => rfl) (opens_string Try.underlying9) (opensF_c Try.cells3 rfl (fun z => rfl) (opens_int Try.underlying3) (opensF_c Try.cells4 rfl (fun z => rfl) (opens_bool Try.underlying4) (opensF_c Try.cells25 rfl (fun z => rfl) (Try.open25 n) opensF_nil)))))) (fun z => rfl)).to (fun z => ⟨z.1, z.2.1, z.2.2.1, z.2.2.2.1, z.2.2.2.2.1, z.2.2.2.2.2.1⟩) (fun z => (by first | rfl | (simp only [GRule.cs, GVal.css_map]; rfl))) (fun z h => h)
theorem Try.opensl101 (n : Nat) : Opens enc Try.prog w n 101 (fun zs : List GRule => [.sl (zs.map GRule.cs)]) (fun zs => (∀ z ∈ zs, GRule.ok z) ∧ zs.length * 136 ≤ reachBytes) := (opens_sl Try.underlying101 Try.cells118 Try.bytes118 (by decide) (fun z => rfl) (Try.open118 n))
theorem Try.cells143 : Try.prog.cellsOf 143 = 1 := by kernel_rfl
theorem Try.bytes143 : Try.prog.bytesOf 143 = 24 := by kernel_rfl
theorem Try.cells158 : Try.prog.cellsOf 158 = 3 := by kernel_rfl
theorem Try.bytes158 : Try.prog.bytesOf 158 = 64 := by kernel_rfl
theorem Try.cells42 : Try.prog.cellsOf 42 = 1 := by kernel_rfl
theorem Try.bytes42 : Try.prog.bytesOf 42 = 24 := by kernel_rfl
theorem Try.open158 (n : Nat) : Opens enc Try.prog w n 158 GChannel.cs GChannel.ok := by
  cases n with
  | zero => exact opens_zero
  | succ n => exact (opens_st Try.underlying158 Try.cells158 (opensF_c Try.cells9 rfl (fun z => rfl) (opens_string Try.underlying9) (opensF_c Try.cells22 rfl (fun z => rfl) (opens_sl Try.underlying22 Try.cells25 Try.bytes25 (by decide) (fun z => rfl) (Try.open25 n)) (opensF_c Try.cells42 rfl (fun z => rfl) (opens_sl Try.underlying42 Try.cells3 Try.bytes3 (by decide) (fun z => rfl) (opens_int Try.underlying3)) opensF_nil))) (fun z => rfl)).to (fun z => ⟨z.1, z.2.1, z.2.2.1⟩) (fun z => (by first | rfl | (simp only [GChannel.cs, GVal.css_map]; rfl))) (fun z h => h)
theorem Try.opensl143 (n : Nat) : Opens enc Try.prog w n 143 (fun zs : List GChannel => [.sl (zs.map GChannel.cs)]) (fun zs => (∀ z ∈ zs, GChannel.ok z) ∧ zs.length * 64 ≤ reachBytes) := (opens_sl Try.underlying143 Try.cells158 Try.bytes158 (by decide) (fun z => rfl) (Try.open158 n))
theorem Try.cells155 : Try.prog.cellsOf 155 = 1 := by kernel_rfl
theorem Try.bytes155 : Try.prog.bytesOf 155 = 24 := by kernel_rfl
theorem Try.opensl155 (n : Nat) : Opens enc Try.prog w n 155 (fun zs : List Bool => [.sl (zs.map boolC)]) (fun zs => (∀ z ∈ zs, (fun _ : Bool => True) z) ∧ zs.length * 1 ≤ reachBytes) := (opens_sl Try.underlying155 Try.cells4 Try.bytes4 (by decide) (fun z => rfl) (opens_bool Try.underlying4))
theorem Try.cells66 : Try.prog.cellsOf 66 = 1 := by kernel_rfl
theorem Try.bytes66 : Try.prog.bytesOf 66 = 24 := by kernel_rfl
theorem Try.cells67 : Try.prog.cellsOf 67 = 1 := by kernel_rfl
theorem Try.bytes67 : Try.prog.bytesOf 67 = 2 := by kernel_rfl
theorem Try.opensl66 (n : Nat) : Opens enc Try.prog w n 66 (fun zs : List Int => [.sl (zs.map u16C)]) (fun zs => (∀ z ∈ zs, (fun m : Int => IntKind.u16.wrap m = m) z) ∧ zs.length * 2 ≤ reachBytes) := (opens_sl Try.underlying66 Try.cells67 Try.bytes67 (by decide) (fun z => rfl) (opens_int Try.underlying67))
theorem Try.opensl42 (n : Nat) : Opens enc Try.prog w n 42 (fun zs : List Int => [.sl (zs.map intC)]) (fun zs => (∀ z ∈ zs, (fun m : Int => IntKind.i64.wrap m = m) z) ∧ zs.length * 8 ≤ reachBytes) := (opens_sl Try.underlying42 Try.cells3 Try.bytes3 (by decide) (fun z => rfl) (opens_int Try.underlying3))
end
attribute [go_sem] Try.ti2 Try.ti3 Try.ti4 Try.ti5 Try.ti6 Try.ti8 Try.ti9 Try.ti10 Try.ti11 Try.ti12 Try.ti14 Try.ti15 Try.ti16 Try.ti17 Try.ti19 Try.ti22 Try.ti23 Try.ti25 Try.ti27 Try.ti29 Try.ti40 Try.ti42 Try.ti44 Try.ti57 Try.ti58 Try.ti66 Try.ti67 Try.ti72 Try.ti73 Try.ti74 Try.ti75 Try.ti76 Try.ti77 Try.ti79 Try.ti81 Try.ti88 Try.ti89 Try.ti91 Try.ti95 Try.ti99 Try.ti101 Try.ti104 Try.ti106 Try.ti108 Try.ti118 Try.ti122 Try.ti125 Try.ti137 Try.ti139 Try.ti143 Try.ti155 Try.ti158 Try.ti164 Try.ti168 Try.ti172 Try.ti175 Try.ti179 Try.ti180 Try.ti182 Try.ti186 Try.ti188 Try.ti208 Try.ti218 Try.ti229 Try.ti231 Try.ti240 Try.z2 Try.z3 Try.z4 Try.z5 Try.z6 Try.z8 Try.z9 Try.z10 Try.z11 Try.z12 Try.z14 Try.z22 Try.z23 Try.z25 Try.z27 Try.z29 Try.z40 Try.z42 Try.z44 Try.z57 Try.z66 Try.z67 Try.z72 Try.z73 Try.z74 Try.z75 Try.z76 Try.z77 Try.z79 Try.z81 Try.z88 Try.z89 Try.z91 Try.z95 Try.z99 Try.z101 Try.z104 Try.z106 Try.z108 Try.z118 Try.z122 Try.z125 Try.z139 Try.z143 Try.z155 Try.z158 Try.z164 Try.z179 Try.z188 Try.z208 Try.z229 Try.z231 Try.z240 Try.in2 Try.in3 Try.in4 Try.in5 Try.in6 Try.in8 Try.in9 Try.in10 Try.in11 Try.in12 Try.in14 Try.in15 Try.in16 Try.in17 Try.in19 Try.in22 Try.in23 Try.in25 Try.in27 Try.in29 Try.in40 Try.in42 Try.in44 Try.in57 Try.in58 Try.in66 Try.in67 Try.in72 Try.in73 Try.in74 Try.in75 Try.in76 Try.in77 Try.in79 Try.in81 Try.in88 Try.in89 Try.in91 Try.in95 Try.in99 Try.in101 Try.in104 Try.in106 Try.in108 Try.in118 Try.in122 Try.in125 Try.in137 Try.in139 Try.in143 Try.in155 Try.in158 Try.in164 Try.in168 Try.in172 Try.in175 Try.in179 Try.in180 Try.in182 Try.in186 Try.in188 Try.in208 Try.in218 Try.in229 Try.in231 Try.in240
end Go.Proofs
