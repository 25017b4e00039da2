/- The table of types for the engine; each row is checked by the kernel. -/
import Derived.Test.YtedeohcdcaimhaaGreatDoorZ1
import Derived.KernelRfl
import Derived.Test.YtedeohcdcaimhaaGreatDoorProg
set_option linter.unusedSimpArgs false
namespace Go.Proofs.YtedeohcdcaimhaaGreatDoor
open Go.Vc
def tt : TT := [
  (0, ⟨.other, 1, false, 0, none⟩),
  (1, ⟨.other, 1, false, 8, some [.nilFunc]⟩),
  (3, ⟨.int .i64, 1, false, 8, some [.int .i64 0]⟩),
  (4, ⟨.bool, 1, false, 1, some [.bool false]⟩),
  (5, ⟨.int .u8, 1, false, 1, some [.int .u8 0]⟩),
  (9, ⟨.string, 1, false, 16, some [.string ByteArray.empty]⟩),
  (20, ⟨.other, 1, false, 16, some [.nilIface]⟩),
  (23, ⟨.slice 5 1, 1, false, 24, some [.slice none 0 0]⟩),
  (31, ⟨.struct [(0, 1, false), (1, 1, false), (2, 1, false), (3, 1, false), (4, 1, false)], 5, true, 40, some (List.replicate 5 (.int .i64 0))⟩),
  (33, ⟨.struct [(0, 1, false), (1, 1, false), (2, 1, false), (3, 1, false), (4, 1, false)], 5, true, 24, some [.int .u8 0, .int .u8 0, .int .u8 0, .int .i64 0, .bool false]⟩),
  (44, ⟨.struct [(0, 10, true), (10, 5, true), (15, 5, true), (20, 565, true)], 585, true, 960, some ([.string ByteArray.empty, .slice none 0 0, .slice none 0 0, .slice none 0 0, .int .u8 0, .int .u8 0, .int .u8 0, .int .u8 0, .int .u8 0, .slice none 0 0, .int .i64 0, .int .i64 0, .int .i64 0, .int .i64 0, .int .i64 0, .int .u8 0, .int .u8 0, .int .u8 0, .int .i64 0, .bool false, .string ByteArray.empty] ++ (List.replicate 188 [.int .u8 0, .int .u8 0, .int .u16 0]).flatten)⟩),
  (45, ⟨.slice 66 12, 1, false, 24, some [.slice none 0 0]⟩),
  (46, ⟨.slice 97 160, 1, false, 24, some [.slice none 0 0]⟩),
  (47, ⟨.int .u64, 1, false, 8, some [.int .u64 0]⟩),
  (48, ⟨.int .u64, 1, false, 8, some [.int .u64 0]⟩),
  (50, ⟨.struct [(0, 1, false), (1, 1, false), (2, 1, false)], 3, true, 24, some [.int .u8 0, .int .u64 0, .bool false]⟩),
  (51, ⟨.array 4 5 1 false, 4, true, 4, some [.int .u8 0, .int .u8 0, .int .u8 0, .int .u8 0]⟩),
  (52, ⟨.array 4 5 1 false, 4, true, 4, some [.int .u8 0, .int .u8 0, .int .u8 0, .int .u8 0]⟩),
  (54, ⟨.struct [(0, 1, false), (1, 1, false), (2, 3, true), (5, 1, false), (6, 1, false), (7, 4, true)], 11, true, 40, some [.int .u8 0, .int .u8 0, .int .u8 0, .int .u64 0, .bool false, .int .u8 0, .int .u8 0, .int .u8 0, .int .u8 0, .int .u8 0, .int .u8 0]⟩),
  (55, ⟨.array 6 54 11 true, 66, true, 240, some [.int .u8 0, .int .u8 0, .int .u8 0, .int .u64 0, .bool false, .int .u8 0, .int .u8 0, .int .u8 0, .int .u8 0, .int .u8 0, .int .u8 0, .int .u8 0, .int .u8 0, .int .u8 0, .int .u64 0, .bool false, .int .u8 0, .int .u8 0, .int .u8 0, .int .u8 0, .int .u8 0, .int .u8 0, .int .u8 0, .int .u8 0, .int .u8 0, .int .u64 0, .bool false, .int .u8 0, .int .u8 0, .int .u8 0, .int .u8 0, .int .u8 0, .int .u8 0, .int .u8 0, .int .u8 0, .int .u8 0, .int .u64 0, .bool false, .int .u8 0, .int .u8 0, .int .u8 0, .int .u8 0, .int .u8 0, .int .u8 0, .int .u8 0, .int .u8 0, .int .u8 0, .int .u64 0, .bool false, .int .u8 0, .int .u8 0, .int .u8 0, .int .u8 0, .int .u8 0, .int .u8 0, .int .u8 0, .int .u8 0, .int .u8 0, .int .u64 0, .bool false, .int .u8 0, .int .u8 0, .int .u8 0, .int .u8 0, .int .u8 0, .int .u8 0]⟩),
  (56, ⟨.slice 107 11, 1, false, 24, some [.slice none 0 0]⟩),
  (58, ⟨.struct [(0, 1, false), (1, 1, false), (2, 66, true), (68, 1, false)], 69, true, 312, some [.slice none 0 0, .slice none 0 0, .int .u8 0, .int .u8 0, .int .u8 0, .int .u64 0, .bool false, .int .u8 0, .int .u8 0, .int .u8 0, .int .u8 0, .int .u8 0, .int .u8 0, .int .u8 0, .int .u8 0, .int .u8 0, .int .u64 0, .bool false, .int .u8 0, .int .u8 0, .int .u8 0, .int .u8 0, .int .u8 0, .int .u8 0, .int .u8 0, .int .u8 0, .int .u8 0, .int .u64 0, .bool false, .int .u8 0, .int .u8 0, .int .u8 0, .int .u8 0, .int .u8 0, .int .u8 0, .int .u8 0, .int .u8 0, .int .u8 0, .int .u64 0, .bool false, .int .u8 0, .int .u8 0, .int .u8 0, .int .u8 0, .int .u8 0, .int .u8 0, .int .u8 0, .int .u8 0, .int .u8 0, .int .u64 0, .bool false, .int .u8 0, .int .u8 0, .int .u8 0, .int .u8 0, .int .u8 0, .int .u8 0, .int .u8 0, .int .u8 0, .int .u8 0, .int .u64 0, .bool false, .int .u8 0, .int .u8 0, .int .u8 0, .int .u8 0, .int .u8 0, .int .u8 0, .slice none 0 0]⟩),
  (63, ⟨.array 8 5 1 false, 8, true, 8, some (List.replicate 8 (.int .u8 0))⟩),
  (64, ⟨.slice 132 2, 1, false, 24, some [.slice none 0 0]⟩),
  (66, ⟨.struct [(0, 1, false), (1, 8, true), (9, 1, false), (10, 1, false), (11, 1, false)], 12, true, 48, some [.int .u8 0, .int .u8 0, .int .u8 0, .int .u8 0, .int .u8 0, .int .u8 0, .int .u8 0, .int .u8 0, .int .u8 0, .slice none 0 0, .bool false, .bool false]⟩),
  (70, ⟨.int .i64, 1, false, 8, some [.int .i64 0]⟩),
  (71, ⟨.other, 1, false, 0, none⟩),
  (79, ⟨.struct [(0, 1, false)], 1, true, 24, some [.slice none 0 0]⟩),
  (81, ⟨.struct [(0, 1, true)], 1, true, 24, some [.slice none 0 0]⟩),
  (83, ⟨.ptr 66, 1, false, 8, some [.pointer none]⟩),
  (84, ⟨.other, 1, false, 8, some [.nilFunc]⟩),
  (86, ⟨.int .i8, 1, false, 1, some [.int .i8 0]⟩),
  (88, ⟨.struct [(0, 1, false), (1, 1, false), (2, 1, false), (3, 1, false), (4, 4, true)], 8, true, 8, some [.int .u8 0, .int .u8 0, .int .i8 0, .bool false, .int .u8 0, .int .u8 0, .int .u8 0, .int .u8 0]⟩),
  (89, ⟨.array 4 88 8 true, 32, true, 32, some [.int .u8 0, .int .u8 0, .int .i8 0, .bool false, .int .u8 0, .int .u8 0, .int .u8 0, .int .u8 0, .int .u8 0, .int .u8 0, .int .i8 0, .bool false, .int .u8 0, .int .u8 0, .int .u8 0, .int .u8 0, .int .u8 0, .int .u8 0, .int .i8 0, .bool false, .int .u8 0, .int .u8 0, .int .u8 0, .int .u8 0, .int .u8 0, .int .u8 0, .int .i8 0, .bool false, .int .u8 0, .int .u8 0, .int .u8 0, .int .u8 0]⟩),
  (90, ⟨.array 4 89 32 true, 128, true, 128, some [.int .u8 0, .int .u8 0, .int .i8 0, .bool false, .int .u8 0, .int .u8 0, .int .u8 0, .int .u8 0, .int .u8 0, .int .u8 0, .int .i8 0, .bool false, .int .u8 0, .int .u8 0, .int .u8 0, .int .u8 0, .int .u8 0, .int .u8 0, .int .i8 0, .bool false, .int .u8 0, .int .u8 0, .int .u8 0, .int .u8 0, .int .u8 0, .int .u8 0, .int .i8 0, .bool false, .int .u8 0, .int .u8 0, .int .u8 0, .int .u8 0, .int .u8 0, .int .u8 0, .int .i8 0, .bool false, .int .u8 0, .int .u8 0, .int .u8 0, .int .u8 0, .int .u8 0, .int .u8 0, .int .i8 0, .bool false, .int .u8 0, .int .u8 0, .int .u8 0, .int .u8 0, .int .u8 0, .int .u8 0, .int .i8 0, .bool false, .int .u8 0, .int .u8 0, .int .u8 0, .int .u8 0, .int .u8 0, .int .u8 0, .int .i8 0, .bool false, .int .u8 0, .int .u8 0, .int .u8 0, .int .u8 0, .int .u8 0, .int .u8 0, .int .i8 0, .bool false, .int .u8 0, .int .u8 0, .int .u8 0, .int .u8 0, .int .u8 0, .int .u8 0, .int .i8 0, .bool false, .int .u8 0, .int .u8 0, .int .u8 0, .int .u8 0, .int .u8 0, .int .u8 0, .int .i8 0, .bool false, .int .u8 0, .int .u8 0, .int .u8 0, .int .u8 0, .int .u8 0, .int .u8 0, .int .i8 0, .bool false, .int .u8 0, .int .u8 0, .int .u8 0, .int .u8 0, .int .u8 0, .int .u8 0, .int .i8 0, .bool false, .int .u8 0, .int .u8 0, .int .u8 0, .int .u8 0, .int .u8 0, .int .u8 0, .int .i8 0, .bool false, .int .u8 0, .int .u8 0, .int .u8 0, .int .u8 0, .int .u8 0, .int .u8 0, .int .i8 0, .bool false, .int .u8 0, .int .u8 0, .int .u8 0, .int .u8 0, .int .u8 0, .int .u8 0, .int .i8 0, .bool false, .int .u8 0, .int .u8 0, .int .u8 0, .int .u8 0]⟩),
  (92, ⟨.struct [(0, 1, false), (1, 1, false), (2, 4, true), (6, 1, false)], 7, true, 24, some [.int .u8 0, .int .i64 0, .int .u8 0, .int .u8 0, .int .u8 0, .int .u8 0, .int .u8 0]⟩),
  (93, ⟨.array 4 92 7 true, 28, true, 96, some [.int .u8 0, .int .i64 0, .int .u8 0, .int .u8 0, .int .u8 0, .int .u8 0, .int .u8 0, .int .u8 0, .int .i64 0, .int .u8 0, .int .u8 0, .int .u8 0, .int .u8 0, .int .u8 0, .int .u8 0, .int .i64 0, .int .u8 0, .int .u8 0, .int .u8 0, .int .u8 0, .int .u8 0, .int .u8 0, .int .i64 0, .int .u8 0, .int .u8 0, .int .u8 0, .int .u8 0, .int .u8 0]⟩),
  (95, ⟨.struct [(0, 1, false), (1, 1, false), (2, 1, false), (3, 1, false)], 4, true, 4, some [.int .u8 0, .int .u8 0, .int .u8 0, .int .u8 0]⟩),
  (97, ⟨.struct [(0, 128, true), (128, 28, true), (156, 4, true)], 160, true, 232, some [.int .u8 0, .int .u8 0, .int .i8 0, .bool false, .int .u8 0, .int .u8 0, .int .u8 0, .int .u8 0, .int .u8 0, .int .u8 0, .int .i8 0, .bool false, .int .u8 0, .int .u8 0, .int .u8 0, .int .u8 0, .int .u8 0, .int .u8 0, .int .i8 0, .bool false, .int .u8 0, .int .u8 0, .int .u8 0, .int .u8 0, .int .u8 0, .int .u8 0, .int .i8 0, .bool false, .int .u8 0, .int .u8 0, .int .u8 0, .int .u8 0, .int .u8 0, .int .u8 0, .int .i8 0, .bool false, .int .u8 0, .int .u8 0, .int .u8 0, .int .u8 0, .int .u8 0, .int .u8 0, .int .i8 0, .bool false, .int .u8 0, .int .u8 0, .int .u8 0, .int .u8 0, .int .u8 0, .int .u8 0, .int .i8 0, .bool false, .int .u8 0, .int .u8 0, .int .u8 0, .int .u8 0, .int .u8 0, .int .u8 0, .int .i8 0, .bool false, .int .u8 0, .int .u8 0, .int .u8 0, .int .u8 0, .int .u8 0, .int .u8 0, .int .i8 0, .bool false, .int .u8 0, .int .u8 0, .int .u8 0, .int .u8 0, .int .u8 0, .int .u8 0, .int .i8 0, .bool false, .int .u8 0, .int .u8 0, .int .u8 0, .int .u8 0, .int .u8 0, .int .u8 0, .int .i8 0, .bool false, .int .u8 0, .int .u8 0, .int .u8 0, .int .u8 0, .int .u8 0, .int .u8 0, .int .i8 0, .bool false, .int .u8 0, .int .u8 0, .int .u8 0, .int .u8 0, .int .u8 0, .int .u8 0, .int .i8 0, .bool false, .int .u8 0, .int .u8 0, .int .u8 0, .int .u8 0, .int .u8 0, .int .u8 0, .int .i8 0, .bool false, .int .u8 0, .int .u8 0, .int .u8 0, .int .u8 0, .int .u8 0, .int .u8 0, .int .i8 0, .bool false, .int .u8 0, .int .u8 0, .int .u8 0, .int .u8 0, .int .u8 0, .int .u8 0, .int .i8 0, .bool false, .int .u8 0, .int .u8 0, .int .u8 0, .int .u8 0, .int .u8 0, .int .i64 0, .int .u8 0, .int .u8 0, .int .u8 0, .int .u8 0, .int .u8 0, .int .u8 0, .int .i64 0, .int .u8 0, .int .u8 0, .int .u8 0, .int .u8 0, .int .u8 0, .int .u8 0, .int .i64 0, .int .u8 0, .int .u8 0, .int .u8 0, .int .u8 0, .int .u8 0, .int .u8 0, .int .i64 0, .int .u8 0, .int .u8 0, .int .u8 0, .int .u8 0, .int .u8 0, .int .u8 0, .int .u8 0, .int .u8 0, .int .u8 0]⟩),
  (98, ⟨.ptr 97, 1, false, 8, some [.pointer none]⟩),
  (99, ⟨.other, 1, false, 8, some [.nilFunc]⟩),
  (101, ⟨.slice 54 11, 1, false, 24, some [.slice none 0 0]⟩),
  (102, ⟨.ptr 54, 1, false, 8, some [.pointer none]⟩),
  (103, ⟨.other, 1, false, 8, some [.nilFunc]⟩),
  (107, ⟨.struct [(0, 1, false), (1, 1, false), (2, 1, false), (3, 1, false), (4, 1, false), (5, 1, false), (6, 1, false), (7, 4, true)], 11, true, 11, some [.int .u8 0, .int .u8 0, .int .u8 0, .int .u8 0, .int .u8 0, .int .u8 0, .bool false, .int .u8 0, .int .u8 0, .int .u8 0, .int .u8 0]⟩),
  (108, ⟨.ptr 107, 1, false, 8, some [.pointer none]⟩),
  (109, ⟨.other, 1, false, 8, some [.nilFunc]⟩),
  (122, ⟨.struct [(0, 1, false)], 1, true, 24, some [.slice none 0 0]⟩),
  (124, ⟨.struct [(0, 1, true)], 1, true, 24, some [.slice none 0 0]⟩),
  (126, ⟨.array 5 3 1 false, 5, true, 40, some (List.replicate 5 (.int .i64 0))⟩),
  (127, ⟨.ptr 81, 1, false, 8, some [.pointer none]⟩),
  (132, ⟨.struct [(0, 1, false), (1, 1, false)], 2, true, 2, some [.int .u8 0, .int .u8 0]⟩),
  (133, ⟨.ptr 132, 1, false, 8, some [.pointer none]⟩),
  (134, ⟨.other, 1, false, 8, some [.nilFunc]⟩),
  (136, ⟨.slice 89 32, 1, false, 24, some [.slice none 0 0]⟩),
  (137, ⟨.ptr 89, 1, false, 8, some [.pointer none]⟩),
  (139, ⟨.slice 88 8, 1, false, 24, some [.slice none 0 0]⟩),
  (140, ⟨.ptr 88, 1, false, 8, some [.pointer none]⟩),
  (141, ⟨.other, 1, false, 8, some [.nilFunc]⟩),
  (142, ⟨.other, 1, false, 8, some [.nilFunc]⟩),
  (144, ⟨.slice 92 7, 1, false, 24, some [.slice none 0 0]⟩),
  (145, ⟨.ptr 92, 1, false, 8, some [.pointer none]⟩),
  (146, ⟨.other, 1, false, 8, some [.nilFunc]⟩),
  (147, ⟨.ptr 79, 1, false, 8, some [.pointer none]⟩),
  (148, ⟨.other, 1, false, 0, none⟩),
  (160, ⟨.array 3 5 1 false, 3, true, 3, some [.int .u8 0, .int .u8 0, .int .u8 0]⟩),
  (164, ⟨.other, 1, false, 8, some [.nilFunc]⟩),
  (166, ⟨.ptr 124, 1, false, 8, some [.pointer none]⟩),
  (168, ⟨.ptr 122, 1, false, 8, some [.pointer none]⟩),
  (169, ⟨.array 11 5 1 false, 11, true, 11, some (List.replicate 11 (.int .u8 0))⟩),
  (174, ⟨.slice 56 1, 1, false, 24, some [.slice none 0 0]⟩),
  (180, ⟨.int .u64, 1, false, 8, some [.int .u64 0]⟩),
  (183, ⟨.array 13 5 1 false, 13, true, 13, some (List.replicate 13 (.int .u8 0))⟩)]
theorem ttOk : TTok Tryz.prog tt :=
  .cons (tiOk (by kernel_rfl) (fun z h => by cases h; done) (by kernel_rfl)) (
  .cons (tiOk (by kernel_rfl) (fun z h => by cases h; kernel_rfl) (by kernel_rfl)) (
  .cons (tiOk (by kernel_rfl) (fun z h => by cases h; kernel_rfl) (by kernel_rfl)) (
  .cons (tiOk (by kernel_rfl) (fun z h => by cases h; kernel_rfl) (by kernel_rfl)) (
  .cons (tiOk (by kernel_rfl) (fun z h => by cases h; kernel_rfl) (by kernel_rfl)) (
  .cons (tiOk (by kernel_rfl) (fun z h => by cases h; kernel_rfl) (by kernel_rfl)) (
  .cons (tiOk (by kernel_rfl) (fun z h => by cases h; kernel_rfl) (by kernel_rfl)) (
  .cons (tiOk (by kernel_rfl) (fun z h => by cases h; kernel_rfl) (by kernel_rfl)) (
  .cons (tiOk (by kernel_rfl) (fun z h => by cases h; kernel_rfl) (by kernel_rfl)) (
  .cons (tiOk (by kernel_rfl) (fun z h => by cases h; kernel_rfl) (by kernel_rfl)) (
  .cons (tiOk (by kernel_rfl) (fun z h => by cases h; kernel_rfl) (by kernel_rfl)) (
  .cons (tiOk (by kernel_rfl) (fun z h => by cases h; kernel_rfl) (by kernel_rfl)) (
  .cons (tiOk (by kernel_rfl) (fun z h => by cases h; kernel_rfl) (by kernel_rfl)) (
  .cons (tiOk (by kernel_rfl) (fun z h => by cases h; kernel_rfl) (by kernel_rfl)) (
  .cons (tiOk (by kernel_rfl) (fun z h => by cases h; kernel_rfl) (by kernel_rfl)) (
  .cons (tiOk (by kernel_rfl) (fun z h => by cases h; kernel_rfl) (by kernel_rfl)) (
  .cons (tiOk (by kernel_rfl) (fun z h => by cases h; kernel_rfl) (by kernel_rfl)) (
  .cons (tiOk (by kernel_rfl) (fun z h => by cases h; kernel_rfl) (by kernel_rfl)) (
  .cons (tiOk (by kernel_rfl) (fun z h => by cases h; kernel_rfl) (by kernel_rfl)) (
  .cons (tiOk (by kernel_rfl) (fun z h => by cases h; kernel_rfl) (by kernel_rfl)) (
  .cons (tiOk (by kernel_rfl) (fun z h => by cases h; kernel_rfl) (by kernel_rfl)) (
  .cons (tiOk (by kernel_rfl) (fun z h => by cases h; kernel_rfl) (by kernel_rfl)) (
  .cons (tiOk (by kernel_rfl) (fun z h => by cases h; kernel_rfl) (by kernel_rfl)) (
  .cons (tiOk (by kernel_rfl) (fun z h => by cases h; kernel_rfl) (by kernel_rfl)) (
  .cons (tiOk (by kernel_rfl) (fun z h => by cases h; kernel_rfl) (by kernel_rfl)) (
  .cons (tiOk (by kernel_rfl) (fun z h => by cases h; kernel_rfl) (by kernel_rfl)) (
  .cons (tiOk (by kernel_rfl) (fun z h => by cases h; done) (by kernel_rfl)) (
  .cons (tiOk (by kernel_rfl) (fun z h => by cases h; kernel_rfl) (by kernel_rfl)) (
  .cons (tiOk (by kernel_rfl) (fun z h => by cases h; kernel_rfl) (by kernel_rfl)) (
  .cons (tiOk (by kernel_rfl) (fun z h => by cases h; kernel_rfl) (by kernel_rfl)) (
  .cons (tiOk (by kernel_rfl) (fun z h => by cases h; kernel_rfl) (by kernel_rfl)) (
  .cons (tiOk (by kernel_rfl) (fun z h => by cases h; kernel_rfl) (by kernel_rfl)) (
  .cons (tiOk (by kernel_rfl) (fun z h => by cases h; kernel_rfl) (by kernel_rfl)) (
  .cons (tiOk (by kernel_rfl) (fun z h => by cases h; kernel_rfl) (by kernel_rfl)) (
  .cons (tiOk (by kernel_rfl) (fun z h => by cases h; kernel_rfl) (by kernel_rfl)) (
  .cons (tiOk (by kernel_rfl) (fun z h => by cases h; kernel_rfl) (by kernel_rfl)) (
  .cons (tiOk (by kernel_rfl) (fun z h => by cases h; kernel_rfl) (by kernel_rfl)) (
  .cons (tiOk (by kernel_rfl) (fun z h => by cases h; kernel_rfl) (by kernel_rfl)) (
  .cons (tiOk (by kernel_rfl) (fun z h => by cases h; kernel_rfl) (by kernel_rfl)) (
  .cons (tiOk (by kernel_rfl) (fun z h => by cases h; kernel_rfl) (by kernel_rfl)) (
  .cons (tiOk (by kernel_rfl) (fun z h => by cases h; kernel_rfl) (by kernel_rfl)) (
  .cons (tiOk (by kernel_rfl) (fun z h => by cases h; kernel_rfl) (by kernel_rfl)) (
  .cons (tiOk (by kernel_rfl) (fun z h => by cases h; kernel_rfl) (by kernel_rfl)) (
  .cons (tiOk (by kernel_rfl) (fun z h => by cases h; kernel_rfl) (by kernel_rfl)) (
  .cons (tiOk (by kernel_rfl) (fun z h => by cases h; kernel_rfl) (by kernel_rfl)) (
  .cons (tiOk (by kernel_rfl) (fun z h => by cases h; kernel_rfl) (by kernel_rfl)) (
  .cons (tiOk (by kernel_rfl) (fun z h => by cases h; kernel_rfl) (by kernel_rfl)) (
  .cons (tiOk (by kernel_rfl) (fun z h => by cases h; kernel_rfl) (by kernel_rfl)) (
  .cons (tiOk (by kernel_rfl) (fun z h => by cases h; kernel_rfl) (by kernel_rfl)) (
  .cons (tiOk (by kernel_rfl) (fun z h => by cases h; kernel_rfl) (by kernel_rfl)) (
  .cons (tiOk (by kernel_rfl) (fun z h => by cases h; kernel_rfl) (by kernel_rfl)) (
  .cons (tiOk (by kernel_rfl) (fun z h => by cases h; kernel_rfl) (by kernel_rfl)) (
  .cons (tiOk (by kernel_rfl) (fun z h => by cases h; kernel_rfl) (by kernel_rfl)) (
  .cons (tiOk (by kernel_rfl) (fun z h => by cases h; kernel_rfl) (by kernel_rfl)) (
  .cons (tiOk (by kernel_rfl) (fun z h => by cases h; kernel_rfl) (by kernel_rfl)) (
  .cons (tiOk (by kernel_rfl) (fun z h => by cases h; kernel_rfl) (by kernel_rfl)) (
  .cons (tiOk (by kernel_rfl) (fun z h => by cases h; kernel_rfl) (by kernel_rfl)) (
  .cons (tiOk (by kernel_rfl) (fun z h => by cases h; kernel_rfl) (by kernel_rfl)) (
  .cons (tiOk (by kernel_rfl) (fun z h => by cases h; kernel_rfl) (by kernel_rfl)) (
  .cons (tiOk (by kernel_rfl) (fun z h => by cases h; kernel_rfl) (by kernel_rfl)) (
  .cons (tiOk (by kernel_rfl) (fun z h => by cases h; kernel_rfl) (by kernel_rfl)) (
  .cons (tiOk (by kernel_rfl) (fun z h => by cases h; kernel_rfl) (by kernel_rfl)) (
  .cons (tiOk (by kernel_rfl) (fun z h => by cases h; kernel_rfl) (by kernel_rfl)) (
  .cons (tiOk (by kernel_rfl) (fun z h => by cases h; kernel_rfl) (by kernel_rfl)) (
  .cons (tiOk (by kernel_rfl) (fun z h => by cases h; done) (by kernel_rfl)) (
  .cons (tiOk (by kernel_rfl) (fun z h => by cases h; kernel_rfl) (by kernel_rfl)) (
  .cons (tiOk (by kernel_rfl) (fun z h => by cases h; kernel_rfl) (by kernel_rfl)) (
  .cons (tiOk (by kernel_rfl) (fun z h => by cases h; kernel_rfl) (by kernel_rfl)) (
  .cons (tiOk (by kernel_rfl) (fun z h => by cases h; kernel_rfl) (by kernel_rfl)) (
  .cons (tiOk (by kernel_rfl) (fun z h => by cases h; kernel_rfl) (by kernel_rfl)) (
  .cons (tiOk (by kernel_rfl) (fun z h => by cases h; kernel_rfl) (by kernel_rfl)) (
  .cons (tiOk (by kernel_rfl) (fun z h => by cases h; kernel_rfl) (by kernel_rfl)) (
  .cons (tiOk (by kernel_rfl) (fun z h => by cases h; kernel_rfl) (by kernel_rfl)) (
  .nil)))))))))))))))))))))))))))))))))))))))))))))))))))))))))))))))))))))))))
theorem called : callB Tryz.prog 3 136 [115, 116, 117, 118, 119, 120, 121, 122, 123, 124, 125, 126, 127, 128, 129, 130, 131, 132, 133, 134] = true := by kernel_rfl
theorem mixed : Tryz.prog.follows .mixedOrders = true := by kernel_rfl
@[reducible] noncomputable def sg (n : Nat) : Sig := ⟨Tryz.prog, tt, n, 3, 136, none, [115, 116, 117, 118, 119, 120, 121, 122, 123, 124, 125, 126, 127, 128, 129, 130, 131, 132, 133, 134]⟩
theorem sgOk (n : Nat) : SigOk (sg n) := ⟨fun t i h => ttOk.get t i h, callOk called, mixed⟩
end Go.Proofs.YtedeohcdcaimhaaGreatDoor
