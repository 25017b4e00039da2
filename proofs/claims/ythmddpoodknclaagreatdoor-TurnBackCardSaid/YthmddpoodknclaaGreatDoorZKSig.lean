/- The table of types for the engine; each row is checked by the kernel. -/
import Derived.Test.YthmddpoodknclaaGreatDoorZ1
import Derived.KernelRfl
import Derived.Test.YthmddpoodknclaaGreatDoorProg
set_option linter.unusedSimpArgs false
namespace Go.Proofs.YthmddpoodknclaaGreatDoor
open Go.Vc
def tt : TT := [
  (0, ⟨.other, 1, false, 0, none⟩),
  (3, ⟨.int .i64, 1, false, 8, some [.int .i64 0]⟩),
  (4, ⟨.bool, 1, false, 1, some [.bool false]⟩),
  (5, ⟨.int .u8, 1, false, 1, some [.int .u8 0]⟩),
  (9, ⟨.string, 1, false, 16, some [.string ByteArray.empty]⟩),
  (22, ⟨.slice 9 1, 1, false, 24, some [.slice none 0 0]⟩),
  (23, ⟨.slice 5 1, 1, false, 24, some [.slice none 0 0]⟩),
  (24, ⟨.slice 116 1, 1, false, 24, some [.slice none 0 0]⟩),
  (25, ⟨.slice 27 5, 1, false, 24, some [.slice none 0 0]⟩),
  (27, ⟨.struct [(0, 1, false), (1, 1, false), (2, 1, false), (3, 1, false), (4, 1, false)], 5, true, 32, some [.int .u8 0, .int .u8 0, .int .u8 0, .int .u8 0, .slice none 0 0]⟩),
  (29, ⟨.struct [(0, 1, false), (1, 1, false), (2, 1, false), (3, 1, false), (4, 1, false), (5, 5, true)], 10, true, 128, some [.string ByteArray.empty, .slice none 0 0, .slice none 0 0, .slice none 0 0, .int .u8 0, .int .u8 0, .int .u8 0, .int .u8 0, .int .u8 0, .slice none 0 0]⟩),
  (31, ⟨.struct [(0, 1, false), (1, 1, false), (2, 1, false), (3, 1, false), (4, 1, false)], 5, true, 40, some (List.replicate 5 (.int .i64 0))⟩),
  (33, ⟨.struct [(0, 1, false), (1, 1, false), (2, 1, false), (3, 1, false), (4, 1, false)], 5, true, 24, some [.int .u8 0, .int .u8 0, .int .u8 0, .int .i64 0, .bool false]⟩),
  (44, ⟨.struct [(0, 10, true), (10, 5, true), (15, 5, true), (20, 565, true)], 585, true, 960, some ([.string ByteArray.empty, .slice none 0 0, .slice none 0 0, .slice none 0 0, .int .u8 0, .int .u8 0, .int .u8 0, .int .u8 0, .int .u8 0, .slice none 0 0, .int .i64 0, .int .i64 0, .int .i64 0, .int .i64 0, .int .i64 0, .int .u8 0, .int .u8 0, .int .u8 0, .int .i64 0, .bool false, .string ByteArray.empty] ++ (List.replicate 188 [.int .u8 0, .int .u8 0, .int .u16 0]).flatten)⟩),
  (45, ⟨.slice 99 12, 1, false, 24, some [.slice none 0 0]⟩),
  (46, ⟨.slice 136 160, 1, false, 24, some [.slice none 0 0]⟩),
  (48, ⟨.int .u64, 1, false, 8, some [.int .u64 0]⟩),
  (50, ⟨.struct [(0, 1, false), (1, 1, false), (2, 1, false)], 3, true, 24, some [.int .u8 0, .int .u64 0, .bool false]⟩),
  (51, ⟨.array 4 5 1 false, 4, true, 4, some [.int .u8 0, .int .u8 0, .int .u8 0, .int .u8 0]⟩),
  (54, ⟨.struct [(0, 1, false), (1, 1, false), (2, 3, true), (5, 1, false), (6, 1, false), (7, 4, true)], 11, true, 40, some [.int .u8 0, .int .u8 0, .int .u8 0, .int .u64 0, .bool false, .int .u8 0, .int .u8 0, .int .u8 0, .int .u8 0, .int .u8 0, .int .u8 0]⟩),
  (55, ⟨.array 6 54 11 true, 66, true, 240, some [.int .u8 0, .int .u8 0, .int .u8 0, .int .u64 0, .bool false, .int .u8 0, .int .u8 0, .int .u8 0, .int .u8 0, .int .u8 0, .int .u8 0, .int .u8 0, .int .u8 0, .int .u8 0, .int .u64 0, .bool false, .int .u8 0, .int .u8 0, .int .u8 0, .int .u8 0, .int .u8 0, .int .u8 0, .int .u8 0, .int .u8 0, .int .u8 0, .int .u64 0, .bool false, .int .u8 0, .int .u8 0, .int .u8 0, .int .u8 0, .int .u8 0, .int .u8 0, .int .u8 0, .int .u8 0, .int .u8 0, .int .u64 0, .bool false, .int .u8 0, .int .u8 0, .int .u8 0, .int .u8 0, .int .u8 0, .int .u8 0, .int .u8 0, .int .u8 0, .int .u8 0, .int .u64 0, .bool false, .int .u8 0, .int .u8 0, .int .u8 0, .int .u8 0, .int .u8 0, .int .u8 0, .int .u8 0, .int .u8 0, .int .u8 0, .int .u64 0, .bool false, .int .u8 0, .int .u8 0, .int .u8 0, .int .u8 0, .int .u8 0, .int .u8 0]⟩),
  (56, ⟨.slice 60 11, 1, false, 24, some [.slice none 0 0]⟩),
  (58, ⟨.struct [(0, 1, false), (1, 1, false), (2, 66, true), (68, 1, false)], 69, true, 312, some [.slice none 0 0, .slice none 0 0, .int .u8 0, .int .u8 0, .int .u8 0, .int .u64 0, .bool false, .int .u8 0, .int .u8 0, .int .u8 0, .int .u8 0, .int .u8 0, .int .u8 0, .int .u8 0, .int .u8 0, .int .u8 0, .int .u64 0, .bool false, .int .u8 0, .int .u8 0, .int .u8 0, .int .u8 0, .int .u8 0, .int .u8 0, .int .u8 0, .int .u8 0, .int .u8 0, .int .u64 0, .bool false, .int .u8 0, .int .u8 0, .int .u8 0, .int .u8 0, .int .u8 0, .int .u8 0, .int .u8 0, .int .u8 0, .int .u8 0, .int .u64 0, .bool false, .int .u8 0, .int .u8 0, .int .u8 0, .int .u8 0, .int .u8 0, .int .u8 0, .int .u8 0, .int .u8 0, .int .u8 0, .int .u64 0, .bool false, .int .u8 0, .int .u8 0, .int .u8 0, .int .u8 0, .int .u8 0, .int .u8 0, .int .u8 0, .int .u8 0, .int .u8 0, .int .u64 0, .bool false, .int .u8 0, .int .u8 0, .int .u8 0, .int .u8 0, .int .u8 0, .int .u8 0, .slice none 0 0]⟩),
  (60, ⟨.struct [(0, 1, false), (1, 1, false), (2, 1, false), (3, 1, false), (4, 1, false), (5, 1, false), (6, 1, false), (7, 4, true)], 11, true, 11, some [.int .u8 0, .int .u8 0, .int .u8 0, .int .u8 0, .int .u8 0, .int .u8 0, .bool false, .int .u8 0, .int .u8 0, .int .u8 0, .int .u8 0]⟩),
  (62, ⟨.struct [(0, 1, false), (1, 1, false), (2, 1, false), (3, 11, true)], 14, true, 14, some [.int .u8 0, .int .u8 0, .int .u8 0, .int .u8 0, .int .u8 0, .int .u8 0, .int .u8 0, .int .u8 0, .int .u8 0, .bool false, .int .u8 0, .int .u8 0, .int .u8 0, .int .u8 0]⟩),
  (66, ⟨.struct [(0, 1, false), (1, 4, true), (5, 1, false), (6, 1, false)], 7, true, 7, some (List.replicate 7 (.int .u8 0))⟩),
  (67, ⟨.slice 3 1, 1, false, 24, some [.slice none 0 0]⟩),
  (68, ⟨.other, 1, false, 0, none⟩),
  (71, ⟨.other, 1, false, 8, some [.nilFunc]⟩),
  (72, ⟨.int .i64, 1, false, 8, some [.int .i64 0]⟩),
  (73, ⟨.other, 1, false, 0, none⟩),
  (75, ⟨.other, 1, false, 0, none⟩),
  (78, ⟨.other, 1, false, 0, none⟩),
  (80, ⟨.other, 1, false, 0, none⟩),
  (82, ⟨.other, 1, false, 0, none⟩),
  (84, ⟨.other, 1, false, 0, none⟩),
  (87, ⟨.other, 1, false, 0, none⟩),
  (92, ⟨.map 3 3, 1, false, 8, some [.map none]⟩),
  (93, ⟨.slice 67 1, 1, false, 24, some [.slice none 0 0]⟩),
  (96, ⟨.array 8 5 1 false, 8, true, 8, some (List.replicate 8 (.int .u8 0))⟩),
  (97, ⟨.slice 125 2, 1, false, 24, some [.slice none 0 0]⟩),
  (99, ⟨.struct [(0, 1, false), (1, 8, true), (9, 1, false), (10, 1, false), (11, 1, false)], 12, true, 48, some [.int .u8 0, .int .u8 0, .int .u8 0, .int .u8 0, .int .u8 0, .int .u8 0, .int .u8 0, .int .u8 0, .int .u8 0, .slice none 0 0, .bool false, .bool false]⟩),
  (103, ⟨.other, 1, false, 8, some [.nilFunc]⟩),
  (104, ⟨.other, 1, false, 0, none⟩),
  (108, ⟨.ptr 44, 1, false, 8, some [.pointer none]⟩),
  (111, ⟨.struct [(0, 1, false), (1, 1, false), (2, 4, true)], 6, true, 6, some [.int .u8 0, .bool false, .int .u8 0, .int .u8 0, .int .u8 0, .int .u8 0]⟩),
  (116, ⟨.slice 120 10, 1, false, 24, some [.slice none 0 0]⟩),
  (118, ⟨.struct [(0, 1, false), (1, 1, false)], 2, true, 2, some [.bool false, .int .u8 0]⟩),
  (120, ⟨.struct [(0, 1, false), (1, 1, false), (2, 1, false), (3, 2, true), (5, 2, true), (7, 1, false), (8, 1, false), (9, 1, false)], 10, true, 10, some [.int .u8 0, .int .u8 0, .int .u8 0, .bool false, .int .u8 0, .bool false, .int .u8 0, .int .u8 0, .int .u8 0, .int .u8 0]⟩),
  (125, ⟨.struct [(0, 1, false), (1, 1, false)], 2, true, 2, some [.int .u8 0, .int .u8 0]⟩),
  (133, ⟨.struct [(0, 1, false), (1, 1, false), (2, 4, true), (6, 1, false)], 7, true, 24, some [.int .u8 0, .int .i64 0, .int .u8 0, .int .u8 0, .int .u8 0, .int .u8 0, .int .u8 0]⟩),
  (134, ⟨.array 4 133 7 true, 28, true, 96, some [.int .u8 0, .int .i64 0, .int .u8 0, .int .u8 0, .int .u8 0, .int .u8 0, .int .u8 0, .int .u8 0, .int .i64 0, .int .u8 0, .int .u8 0, .int .u8 0, .int .u8 0, .int .u8 0, .int .u8 0, .int .i64 0, .int .u8 0, .int .u8 0, .int .u8 0, .int .u8 0, .int .u8 0, .int .u8 0, .int .i64 0, .int .u8 0, .int .u8 0, .int .u8 0, .int .u8 0, .int .u8 0]⟩),
  (136, ⟨.struct [(0, 128, true), (128, 28, true), (156, 4, true)], 160, true, 232, some [.int .u8 0, .int .u8 0, .int .i8 0, .bool false, .int .u8 0, .int .u8 0, .int .u8 0, .int .u8 0, .int .u8 0, .int .u8 0, .int .i8 0, .bool false, .int .u8 0, .int .u8 0, .int .u8 0, .int .u8 0, .int .u8 0, .int .u8 0, .int .i8 0, .bool false, .int .u8 0, .int .u8 0, .int .u8 0, .int .u8 0, .int .u8 0, .int .u8 0, .int .i8 0, .bool false, .int .u8 0, .int .u8 0, .int .u8 0, .int .u8 0, .int .u8 0, .int .u8 0, .int .i8 0, .bool false, .int .u8 0, .int .u8 0, .int .u8 0, .int .u8 0, .int .u8 0, .int .u8 0, .int .i8 0, .bool false, .int .u8 0, .int .u8 0, .int .u8 0, .int .u8 0, .int .u8 0, .int .u8 0, .int .i8 0, .bool false, .int .u8 0, .int .u8 0, .int .u8 0, .int .u8 0, .int .u8 0, .int .u8 0, .int .i8 0, .bool false, .int .u8 0, .int .u8 0, .int .u8 0, .int .u8 0, .int .u8 0, .int .u8 0, .int .i8 0, .bool false, .int .u8 0, .int .u8 0, .int .u8 0, .int .u8 0, .int .u8 0, .int .u8 0, .int .i8 0, .bool false, .int .u8 0, .int .u8 0, .int .u8 0, .int .u8 0, .int .u8 0, .int .u8 0, .int .i8 0, .bool false, .int .u8 0, .int .u8 0, .int .u8 0, .int .u8 0, .int .u8 0, .int .u8 0, .int .i8 0, .bool false, .int .u8 0, .int .u8 0, .int .u8 0, .int .u8 0, .int .u8 0, .int .u8 0, .int .i8 0, .bool false, .int .u8 0, .int .u8 0, .int .u8 0, .int .u8 0, .int .u8 0, .int .u8 0, .int .i8 0, .bool false, .int .u8 0, .int .u8 0, .int .u8 0, .int .u8 0, .int .u8 0, .int .u8 0, .int .i8 0, .bool false, .int .u8 0, .int .u8 0, .int .u8 0, .int .u8 0, .int .u8 0, .int .u8 0, .int .i8 0, .bool false, .int .u8 0, .int .u8 0, .int .u8 0, .int .u8 0, .int .u8 0, .int .i64 0, .int .u8 0, .int .u8 0, .int .u8 0, .int .u8 0, .int .u8 0, .int .u8 0, .int .i64 0, .int .u8 0, .int .u8 0, .int .u8 0, .int .u8 0, .int .u8 0, .int .u8 0, .int .i64 0, .int .u8 0, .int .u8 0, .int .u8 0, .int .u8 0, .int .u8 0, .int .u8 0, .int .i64 0, .int .u8 0, .int .u8 0, .int .u8 0, .int .u8 0, .int .u8 0, .int .u8 0, .int .u8 0, .int .u8 0, .int .u8 0]⟩),
  (140, ⟨.other, 1, false, 8, some [.nilFunc]⟩),
  (141, ⟨.other, 1, false, 8, some [.nilFunc]⟩),
  (146, ⟨.other, 1, false, 0, none⟩),
  (149, ⟨.array 9 5 1 false, 9, true, 9, some (List.replicate 9 (.int .u8 0))⟩),
  (151, ⟨.ptr 27, 1, false, 8, some [.pointer none]⟩),
  (152, ⟨.other, 1, false, 8, some [.nilFunc]⟩),
  (154, ⟨.other, 1, false, 8, some [.nilFunc]⟩),
  (158, ⟨.array 5 3 1 false, 5, true, 40, some (List.replicate 5 (.int .i64 0))⟩),
  (162, ⟨.other, 1, false, 8, some [.nilFunc]⟩),
  (164, ⟨.slice 168 2, 1, false, 24, some [.slice none 0 0]⟩),
  (166, ⟨.ptr 29, 1, false, 8, some [.pointer none]⟩),
  (168, ⟨.struct [(0, 1, false), (1, 1, false)], 2, true, 16, some [.int .i64 0, .nilFunc]⟩),
  (169, ⟨.slice 4 1, 1, false, 24, some [.slice none 0 0]⟩),
  (172, ⟨.other, 1, false, 8, some [.nilFunc]⟩),
  (173, ⟨.other, 1, false, 8, some [.nilFunc]⟩),
  (178, ⟨.slice 183 3, 1, false, 24, some [.slice none 0 0]⟩),
  (179, ⟨.other, 1, false, 0, none⟩),
  (181, ⟨.int .u8, 1, false, 1, some [.int .u8 0]⟩),
  (183, ⟨.struct [(0, 1, false), (1, 1, false), (2, 1, false)], 3, true, 32, some [.int .u8 0, .string ByteArray.empty, .int .i64 0]⟩),
  (186, ⟨.struct [(0, 10, true), (10, 1, false), (11, 1, false)], 12, true, 32, some [.int .u8 0, .int .u8 0, .int .u8 0, .bool false, .int .u8 0, .bool false, .int .u8 0, .int .u8 0, .int .u8 0, .int .u8 0, .int .i64 0, .int .i64 0]⟩),
  (187, ⟨.slice 71 1, 1, false, 24, some [.slice none 0 0]⟩),
  (191, ⟨.struct [(0, 1, false), (1, 1, false)], 2, true, 24, some [.string ByteArray.empty, .int .i64 0]⟩),
  (193, ⟨.struct [(0, 2, true), (2, 1, false)], 3, true, 32, some [.string ByteArray.empty, .int .i64 0, .bool false]⟩),
  (194, ⟨.other, 1, false, 8, some [.nilFunc]⟩),
  (195, ⟨.other, 1, false, 8, some [.nilFunc]⟩),
  (200, ⟨.ptr 186, 1, false, 8, some [.pointer none]⟩),
  (203, ⟨.ptr 193, 1, false, 8, some [.pointer none]⟩),
  (204, ⟨.other, 1, false, 8, some [.nilFunc]⟩),
  (205, ⟨.other, 1, false, 0, none⟩),
  (209, ⟨.other, 1, false, 0, none⟩),
  (211, ⟨.ptr 191, 1, false, 8, some [.pointer none]⟩),
  (212, ⟨.other, 1, false, 8, some [.nilFunc]⟩)]
theorem ttOk : TTok Tryz.prog tt :=
  .cons (tiOk (by kernel_rfl) (fun z h => by cases h; done) (by kernel_rfl)) (
  .cons (tiOk (by kernel_rfl) (fun z h => by cases h; kernel_rfl) (by kernel_rfl)) (
  .cons (tiOk (by kernel_rfl) (fun z h => by cases h; kernel_rfl) (by kernel_rfl)) (
  .cons (tiOk (by kernel_rfl) (fun z h => by cases h; kernel_rfl) (by kernel_rfl)) (
  .cons (tiOk (by kernel_rfl) (fun z h => by cases h; kernel_rfl) (by kernel_rfl)) (
  .cons (tiOk (by kernel_rfl) (fun z h => by cases h; kernel_rfl) (by kernel_rfl)) (
  .cons (tiOk (by kernel_rfl) (fun z h => by cases h; kernel_rfl) (by kernel_rfl)) (
  .cons (tiOk (by kernel_rfl) (fun z h => by cases h; kernel_rfl) (by kernel_rfl)) (
  .cons (tiOk (by kernel_rfl) (fun z h => by cases h; kernel_rfl) (by kernel_rfl)) (
  .cons (tiOk (by kernel_rfl) (fun z h => by cases h; kernel_rfl) (by kernel_rfl)) (
  .cons (tiOk (by kernel_rfl) (fun z h => by cases h; kernel_rfl) (by kernel_rfl)) (
  .cons (tiOk (by kernel_rfl) (fun z h => by cases h; kernel_rfl) (by kernel_rfl)) (
  .cons (tiOk (by kernel_rfl) (fun z h => by cases h; kernel_rfl) (by kernel_rfl)) (
  .cons (tiOk (by kernel_rfl) (fun z h => by cases h; kernel_rfl) (by kernel_rfl)) (
  .cons (tiOk (by kernel_rfl) (fun z h => by cases h; kernel_rfl) (by kernel_rfl)) (
  .cons (tiOk (by kernel_rfl) (fun z h => by cases h; kernel_rfl) (by kernel_rfl)) (
  .cons (tiOk (by kernel_rfl) (fun z h => by cases h; kernel_rfl) (by kernel_rfl)) (
  .cons (tiOk (by kernel_rfl) (fun z h => by cases h; kernel_rfl) (by kernel_rfl)) (
  .cons (tiOk (by kernel_rfl) (fun z h => by cases h; kernel_rfl) (by kernel_rfl)) (
  .cons (tiOk (by kernel_rfl) (fun z h => by cases h; kernel_rfl) (by kernel_rfl)) (
  .cons (tiOk (by kernel_rfl) (fun z h => by cases h; kernel_rfl) (by kernel_rfl)) (
  .cons (tiOk (by kernel_rfl) (fun z h => by cases h; kernel_rfl) (by kernel_rfl)) (
  .cons (tiOk (by kernel_rfl) (fun z h => by cases h; kernel_rfl) (by kernel_rfl)) (
  .cons (tiOk (by kernel_rfl) (fun z h => by cases h; kernel_rfl) (by kernel_rfl)) (
  .cons (tiOk (by kernel_rfl) (fun z h => by cases h; kernel_rfl) (by kernel_rfl)) (
  .cons (tiOk (by kernel_rfl) (fun z h => by cases h; kernel_rfl) (by kernel_rfl)) (
  .cons (tiOk (by kernel_rfl) (fun z h => by cases h; kernel_rfl) (by kernel_rfl)) (
  .cons (tiOk (by kernel_rfl) (fun z h => by cases h; done) (by kernel_rfl)) (
  .cons (tiOk (by kernel_rfl) (fun z h => by cases h; kernel_rfl) (by kernel_rfl)) (
  .cons (tiOk (by kernel_rfl) (fun z h => by cases h; kernel_rfl) (by kernel_rfl)) (
  .cons (tiOk (by kernel_rfl) (fun z h => by cases h; done) (by kernel_rfl)) (
  .cons (tiOk (by kernel_rfl) (fun z h => by cases h; done) (by kernel_rfl)) (
  .cons (tiOk (by kernel_rfl) (fun z h => by cases h; done) (by kernel_rfl)) (
  .cons (tiOk (by kernel_rfl) (fun z h => by cases h; done) (by kernel_rfl)) (
  .cons (tiOk (by kernel_rfl) (fun z h => by cases h; done) (by kernel_rfl)) (
  .cons (tiOk (by kernel_rfl) (fun z h => by cases h; done) (by kernel_rfl)) (
  .cons (tiOk (by kernel_rfl) (fun z h => by cases h; done) (by kernel_rfl)) (
  .cons (tiOk (by kernel_rfl) (fun z h => by cases h; kernel_rfl) (by kernel_rfl)) (
  .cons (tiOk (by kernel_rfl) (fun z h => by cases h; kernel_rfl) (by kernel_rfl)) (
  .cons (tiOk (by kernel_rfl) (fun z h => by cases h; kernel_rfl) (by kernel_rfl)) (
  .cons (tiOk (by kernel_rfl) (fun z h => by cases h; kernel_rfl) (by kernel_rfl)) (
  .cons (tiOk (by kernel_rfl) (fun z h => by cases h; kernel_rfl) (by kernel_rfl)) (
  .cons (tiOk (by kernel_rfl) (fun z h => by cases h; kernel_rfl) (by kernel_rfl)) (
  .cons (tiOk (by kernel_rfl) (fun z h => by cases h; done) (by kernel_rfl)) (
  .cons (tiOk (by kernel_rfl) (fun z h => by cases h; kernel_rfl) (by kernel_rfl)) (
  .cons (tiOk (by kernel_rfl) (fun z h => by cases h; kernel_rfl) (by kernel_rfl)) (
  .cons (tiOk (by kernel_rfl) (fun z h => by cases h; kernel_rfl) (by kernel_rfl)) (
  .cons (tiOk (by kernel_rfl) (fun z h => by cases h; kernel_rfl) (by kernel_rfl)) (
  .cons (tiOk (by kernel_rfl) (fun z h => by cases h; kernel_rfl) (by kernel_rfl)) (
  .cons (tiOk (by kernel_rfl) (fun z h => by cases h; kernel_rfl) (by kernel_rfl)) (
  .cons (tiOk (by kernel_rfl) (fun z h => by cases h; kernel_rfl) (by kernel_rfl)) (
  .cons (tiOk (by kernel_rfl) (fun z h => by cases h; kernel_rfl) (by kernel_rfl)) (
  .cons (tiOk (by kernel_rfl) (fun z h => by cases h; kernel_rfl) (by kernel_rfl)) (
  .cons (tiOk (by kernel_rfl) (fun z h => by cases h; kernel_rfl) (by kernel_rfl)) (
  .cons (tiOk (by kernel_rfl) (fun z h => by cases h; kernel_rfl) (by kernel_rfl)) (
  .cons (tiOk (by kernel_rfl) (fun z h => by cases h; done) (by kernel_rfl)) (
  .cons (tiOk (by kernel_rfl) (fun z h => by cases h; kernel_rfl) (by kernel_rfl)) (
  .cons (tiOk (by kernel_rfl) (fun z h => by cases h; kernel_rfl) (by kernel_rfl)) (
  .cons (tiOk (by kernel_rfl) (fun z h => by cases h; kernel_rfl) (by kernel_rfl)) (
  .cons (tiOk (by kernel_rfl) (fun z h => by cases h; kernel_rfl) (by kernel_rfl)) (
  .cons (tiOk (by kernel_rfl) (fun z h => by cases h; kernel_rfl) (by kernel_rfl)) (
  .cons (tiOk (by kernel_rfl) (fun z h => by cases h; kernel_rfl) (by kernel_rfl)) (
  .cons (tiOk (by kernel_rfl) (fun z h => by cases h; kernel_rfl) (by kernel_rfl)) (
  .cons (tiOk (by kernel_rfl) (fun z h => by cases h; kernel_rfl) (by kernel_rfl)) (
  .cons (tiOk (by kernel_rfl) (fun z h => by cases h; kernel_rfl) (by kernel_rfl)) (
  .cons (tiOk (by kernel_rfl) (fun z h => by cases h; kernel_rfl) (by kernel_rfl)) (
  .cons (tiOk (by kernel_rfl) (fun z h => by cases h; kernel_rfl) (by kernel_rfl)) (
  .cons (tiOk (by kernel_rfl) (fun z h => by cases h; kernel_rfl) (by kernel_rfl)) (
  .cons (tiOk (by kernel_rfl) (fun z h => by cases h; kernel_rfl) (by kernel_rfl)) (
  .cons (tiOk (by kernel_rfl) (fun z h => by cases h; done) (by kernel_rfl)) (
  .cons (tiOk (by kernel_rfl) (fun z h => by cases h; kernel_rfl) (by kernel_rfl)) (
  .cons (tiOk (by kernel_rfl) (fun z h => by cases h; kernel_rfl) (by kernel_rfl)) (
  .cons (tiOk (by kernel_rfl) (fun z h => by cases h; kernel_rfl) (by kernel_rfl)) (
  .cons (tiOk (by kernel_rfl) (fun z h => by cases h; kernel_rfl) (by kernel_rfl)) (
  .cons (tiOk (by kernel_rfl) (fun z h => by cases h; kernel_rfl) (by kernel_rfl)) (
  .cons (tiOk (by kernel_rfl) (fun z h => by cases h; kernel_rfl) (by kernel_rfl)) (
  .cons (tiOk (by kernel_rfl) (fun z h => by cases h; kernel_rfl) (by kernel_rfl)) (
  .cons (tiOk (by kernel_rfl) (fun z h => by cases h; kernel_rfl) (by kernel_rfl)) (
  .cons (tiOk (by kernel_rfl) (fun z h => by cases h; kernel_rfl) (by kernel_rfl)) (
  .cons (tiOk (by kernel_rfl) (fun z h => by cases h; kernel_rfl) (by kernel_rfl)) (
  .cons (tiOk (by kernel_rfl) (fun z h => by cases h; kernel_rfl) (by kernel_rfl)) (
  .cons (tiOk (by kernel_rfl) (fun z h => by cases h; done) (by kernel_rfl)) (
  .cons (tiOk (by kernel_rfl) (fun z h => by cases h; done) (by kernel_rfl)) (
  .cons (tiOk (by kernel_rfl) (fun z h => by cases h; kernel_rfl) (by kernel_rfl)) (
  .cons (tiOk (by kernel_rfl) (fun z h => by cases h; kernel_rfl) (by kernel_rfl)) (
  .nil)))))))))))))))))))))))))))))))))))))))))))))))))))))))))))))))))))))))))))))))))))))
theorem called : callB Tryz.prog 3 133 [112, 113, 114, 115, 116, 117, 118, 119, 120, 121, 122, 123, 124, 125, 126, 127, 128, 129, 130, 131] = true := by kernel_rfl
theorem mixed : Tryz.prog.follows .mixedOrders = true := by kernel_rfl
@[reducible] noncomputable def sg (n : Nat) : Sig := ⟨Tryz.prog, tt, n, 3, 133, none, [112, 113, 114, 115, 116, 117, 118, 119, 120, 121, 122, 123, 124, 125, 126, 127, 128, 129, 130, 131]⟩
theorem sgOk (n : Nat) : SigOk (sg n) := ⟨fun t i h => ttOk.get t i h, callOk called, mixed⟩
end Go.Proofs.YthmddpoodknclaaGreatDoor
