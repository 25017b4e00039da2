/- The table of types for the engine; each row is checked by the kernel. -/
import Derived.Test.YthmddpoodknclaaDoorZ1
import Derived.KernelRfl
import Derived.Test.YthmddpoodknclaaDoorProg
set_option linter.unusedSimpArgs false
namespace Go.Proofs.YthmddpoodknclaaDoor
open Go.Vc
def tt : TT := [
  (0, ⟨.other, 1, false, 0, none⟩),
  (3, ⟨.int .i64, 1, false, 8, some [.int .i64 0]⟩),
  (4, ⟨.bool, 1, false, 1, some [.bool false]⟩),
  (5, ⟨.int .u8, 1, false, 1, some [.int .u8 0]⟩),
  (9, ⟨.string, 1, false, 16, some [.string ByteArray.empty]⟩),
  (22, ⟨.slice 9 1, 1, false, 24, some [.slice none 0 0]⟩),
  (23, ⟨.slice 5 1, 1, false, 24, some [.slice none 0 0]⟩),
  (24, ⟨.slice 121 1, 1, false, 24, some [.slice none 0 0]⟩),
  (25, ⟨.slice 27 5, 1, false, 24, some [.slice none 0 0]⟩),
  (27, ⟨.struct [(0, 1, false), (1, 1, false), (2, 1, false), (3, 1, false), (4, 1, false)], 5, true, 32, some [.int .u8 0, .int .u8 0, .int .u8 0, .int .u8 0, .slice none 0 0]⟩),
  (29, ⟨.struct [(0, 1, false), (1, 1, false), (2, 1, false), (3, 1, false), (4, 1, false), (5, 5, true)], 10, true, 128, some [.string ByteArray.empty, .slice none 0 0, .slice none 0 0, .slice none 0 0, .int .u8 0, .int .u8 0, .int .u8 0, .int .u8 0, .int .u8 0, .slice none 0 0]⟩),
  (31, ⟨.struct [(0, 1, false), (1, 1, false), (2, 1, false), (3, 1, false), (4, 1, false)], 5, true, 40, some (List.replicate 5 (.int .i64 0))⟩),
  (33, ⟨.struct [(0, 1, false), (1, 1, false), (2, 1, false), (3, 1, false), (4, 1, false)], 5, true, 24, some [.int .u8 0, .int .u8 0, .int .u8 0, .int .i64 0, .bool false]⟩),
  (44, ⟨.struct [(0, 10, true), (10, 5, true), (15, 5, true), (20, 565, true)], 585, true, 960, some ([.string ByteArray.empty, .slice none 0 0, .slice none 0 0, .slice none 0 0, .int .u8 0, .int .u8 0, .int .u8 0, .int .u8 0, .int .u8 0, .slice none 0 0, .int .i64 0, .int .i64 0, .int .i64 0, .int .i64 0, .int .i64 0, .int .u8 0, .int .u8 0, .int .u8 0, .int .i64 0, .bool false, .string ByteArray.empty] ++ (List.replicate 188 [.int .u8 0, .int .u8 0, .int .u16 0]).flatten)⟩),
  (45, ⟨.slice 3 1, 1, false, 24, some [.slice none 0 0]⟩),
  (46, ⟨.other, 1, false, 0, none⟩),
  (49, ⟨.other, 1, false, 8, some [.nilFunc]⟩),
  (50, ⟨.slice 45 1, 1, false, 24, some [.slice none 0 0]⟩),
  (52, ⟨.int .i64, 1, false, 8, some [.int .i64 0]⟩),
  (53, ⟨.other, 1, false, 0, none⟩),
  (58, ⟨.slice 113 12, 1, false, 24, some [.slice none 0 0]⟩),
  (59, ⟨.slice 141 160, 1, false, 24, some [.slice none 0 0]⟩),
  (60, ⟨.int .u64, 1, false, 8, some [.int .u64 0]⟩),
  (61, ⟨.int .u64, 1, false, 8, some [.int .u64 0]⟩),
  (63, ⟨.struct [(0, 1, false), (1, 1, false), (2, 1, false)], 3, true, 24, some [.int .u8 0, .int .u64 0, .bool false]⟩),
  (64, ⟨.array 4 5 1 false, 4, true, 4, some [.int .u8 0, .int .u8 0, .int .u8 0, .int .u8 0]⟩),
  (67, ⟨.struct [(0, 1, false), (1, 1, false), (2, 3, true), (5, 1, false), (6, 1, false), (7, 4, true)], 11, true, 40, some [.int .u8 0, .int .u8 0, .int .u8 0, .int .u64 0, .bool false, .int .u8 0, .int .u8 0, .int .u8 0, .int .u8 0, .int .u8 0, .int .u8 0]⟩),
  (68, ⟨.array 6 67 11 true, 66, true, 240, some [.int .u8 0, .int .u8 0, .int .u8 0, .int .u64 0, .bool false, .int .u8 0, .int .u8 0, .int .u8 0, .int .u8 0, .int .u8 0, .int .u8 0, .int .u8 0, .int .u8 0, .int .u8 0, .int .u64 0, .bool false, .int .u8 0, .int .u8 0, .int .u8 0, .int .u8 0, .int .u8 0, .int .u8 0, .int .u8 0, .int .u8 0, .int .u8 0, .int .u64 0, .bool false, .int .u8 0, .int .u8 0, .int .u8 0, .int .u8 0, .int .u8 0, .int .u8 0, .int .u8 0, .int .u8 0, .int .u8 0, .int .u64 0, .bool false, .int .u8 0, .int .u8 0, .int .u8 0, .int .u8 0, .int .u8 0, .int .u8 0, .int .u8 0, .int .u8 0, .int .u8 0, .int .u64 0, .bool false, .int .u8 0, .int .u8 0, .int .u8 0, .int .u8 0, .int .u8 0, .int .u8 0, .int .u8 0, .int .u8 0, .int .u8 0, .int .u64 0, .bool false, .int .u8 0, .int .u8 0, .int .u8 0, .int .u8 0, .int .u8 0, .int .u8 0]⟩),
  (69, ⟨.slice 73 11, 1, false, 24, some [.slice none 0 0]⟩),
  (71, ⟨.struct [(0, 1, false), (1, 1, false), (2, 66, true), (68, 1, false)], 69, true, 312, some [.slice none 0 0, .slice none 0 0, .int .u8 0, .int .u8 0, .int .u8 0, .int .u64 0, .bool false, .int .u8 0, .int .u8 0, .int .u8 0, .int .u8 0, .int .u8 0, .int .u8 0, .int .u8 0, .int .u8 0, .int .u8 0, .int .u64 0, .bool false, .int .u8 0, .int .u8 0, .int .u8 0, .int .u8 0, .int .u8 0, .int .u8 0, .int .u8 0, .int .u8 0, .int .u8 0, .int .u64 0, .bool false, .int .u8 0, .int .u8 0, .int .u8 0, .int .u8 0, .int .u8 0, .int .u8 0, .int .u8 0, .int .u8 0, .int .u8 0, .int .u64 0, .bool false, .int .u8 0, .int .u8 0, .int .u8 0, .int .u8 0, .int .u8 0, .int .u8 0, .int .u8 0, .int .u8 0, .int .u8 0, .int .u64 0, .bool false, .int .u8 0, .int .u8 0, .int .u8 0, .int .u8 0, .int .u8 0, .int .u8 0, .int .u8 0, .int .u8 0, .int .u8 0, .int .u64 0, .bool false, .int .u8 0, .int .u8 0, .int .u8 0, .int .u8 0, .int .u8 0, .int .u8 0, .slice none 0 0]⟩),
  (73, ⟨.struct [(0, 1, false), (1, 1, false), (2, 1, false), (3, 1, false), (4, 1, false), (5, 1, false), (6, 1, false), (7, 4, true)], 11, true, 11, some [.int .u8 0, .int .u8 0, .int .u8 0, .int .u8 0, .int .u8 0, .int .u8 0, .bool false, .int .u8 0, .int .u8 0, .int .u8 0, .int .u8 0]⟩),
  (75, ⟨.other, 1, false, 0, none⟩),
  (77, ⟨.other, 1, false, 0, none⟩),
  (79, ⟨.other, 1, false, 0, none⟩),
  (82, ⟨.other, 1, false, 0, none⟩),
  (92, ⟨.struct [(0, 1, false), (1, 4, true), (5, 1, false), (6, 1, false)], 7, true, 7, some (List.replicate 7 (.int .u8 0))⟩),
  (93, ⟨.other, 1, false, 0, none⟩),
  (95, ⟨.other, 1, false, 8, some [.nilFunc]⟩),
  (100, ⟨.ptr 44, 1, false, 8, some [.pointer none]⟩),
  (103, ⟨.other, 1, false, 8, some [.nilFunc]⟩),
  (104, ⟨.other, 1, false, 8, some [.nilFunc]⟩),
  (107, ⟨.other, 1, false, 8, some [.nilFunc]⟩),
  (110, ⟨.array 8 5 1 false, 8, true, 8, some (List.replicate 8 (.int .u8 0))⟩),
  (111, ⟨.slice 130 2, 1, false, 24, some [.slice none 0 0]⟩),
  (113, ⟨.struct [(0, 1, false), (1, 8, true), (9, 1, false), (10, 1, false), (11, 1, false)], 12, true, 48, some [.int .u8 0, .int .u8 0, .int .u8 0, .int .u8 0, .int .u8 0, .int .u8 0, .int .u8 0, .int .u8 0, .int .u8 0, .slice none 0 0, .bool false, .bool false]⟩),
  (114, ⟨.other, 1, false, 0, none⟩),
  (117, ⟨.struct [(0, 1, false), (1, 1, false), (2, 4, true)], 6, true, 6, some [.int .u8 0, .bool false, .int .u8 0, .int .u8 0, .int .u8 0, .int .u8 0]⟩),
  (121, ⟨.slice 125 10, 1, false, 24, some [.slice none 0 0]⟩),
  (123, ⟨.struct [(0, 1, false), (1, 1, false)], 2, true, 2, some [.bool false, .int .u8 0]⟩),
  (125, ⟨.struct [(0, 1, false), (1, 1, false), (2, 1, false), (3, 2, true), (5, 2, true), (7, 1, false), (8, 1, false), (9, 1, false)], 10, true, 10, some [.int .u8 0, .int .u8 0, .int .u8 0, .bool false, .int .u8 0, .bool false, .int .u8 0, .int .u8 0, .int .u8 0, .int .u8 0]⟩),
  (130, ⟨.struct [(0, 1, false), (1, 1, false)], 2, true, 2, some [.int .u8 0, .int .u8 0]⟩),
  (138, ⟨.struct [(0, 1, false), (1, 1, false), (2, 4, true), (6, 1, false)], 7, true, 24, some [.int .u8 0, .int .i64 0, .int .u8 0, .int .u8 0, .int .u8 0, .int .u8 0, .int .u8 0]⟩),
  (139, ⟨.array 4 138 7 true, 28, true, 96, some [.int .u8 0, .int .i64 0, .int .u8 0, .int .u8 0, .int .u8 0, .int .u8 0, .int .u8 0, .int .u8 0, .int .i64 0, .int .u8 0, .int .u8 0, .int .u8 0, .int .u8 0, .int .u8 0, .int .u8 0, .int .i64 0, .int .u8 0, .int .u8 0, .int .u8 0, .int .u8 0, .int .u8 0, .int .u8 0, .int .i64 0, .int .u8 0, .int .u8 0, .int .u8 0, .int .u8 0, .int .u8 0]⟩),
  (141, ⟨.struct [(0, 128, true), (128, 28, true), (156, 4, true)], 160, true, 232, some [.int .u8 0, .int .u8 0, .int .i8 0, .bool false, .int .u8 0, .int .u8 0, .int .u8 0, .int .u8 0, .int .u8 0, .int .u8 0, .int .i8 0, .bool false, .int .u8 0, .int .u8 0, .int .u8 0, .int .u8 0, .int .u8 0, .int .u8 0, .int .i8 0, .bool false, .int .u8 0, .int .u8 0, .int .u8 0, .int .u8 0, .int .u8 0, .int .u8 0, .int .i8 0, .bool false, .int .u8 0, .int .u8 0, .int .u8 0, .int .u8 0, .int .u8 0, .int .u8 0, .int .i8 0, .bool false, .int .u8 0, .int .u8 0, .int .u8 0, .int .u8 0, .int .u8 0, .int .u8 0, .int .i8 0, .bool false, .int .u8 0, .int .u8 0, .int .u8 0, .int .u8 0, .int .u8 0, .int .u8 0, .int .i8 0, .bool false, .int .u8 0, .int .u8 0, .int .u8 0, .int .u8 0, .int .u8 0, .int .u8 0, .int .i8 0, .bool false, .int .u8 0, .int .u8 0, .int .u8 0, .int .u8 0, .int .u8 0, .int .u8 0, .int .i8 0, .bool false, .int .u8 0, .int .u8 0, .int .u8 0, .int .u8 0, .int .u8 0, .int .u8 0, .int .i8 0, .bool false, .int .u8 0, .int .u8 0, .int .u8 0, .int .u8 0, .int .u8 0, .int .u8 0, .int .i8 0, .bool false, .int .u8 0, .int .u8 0, .int .u8 0, .int .u8 0, .int .u8 0, .int .u8 0, .int .i8 0, .bool false, .int .u8 0, .int .u8 0, .int .u8 0, .int .u8 0, .int .u8 0, .int .u8 0, .int .i8 0, .bool false, .int .u8 0, .int .u8 0, .int .u8 0, .int .u8 0, .int .u8 0, .int .u8 0, .int .i8 0, .bool false, .int .u8 0, .int .u8 0, .int .u8 0, .int .u8 0, .int .u8 0, .int .u8 0, .int .i8 0, .bool false, .int .u8 0, .int .u8 0, .int .u8 0, .int .u8 0, .int .u8 0, .int .u8 0, .int .i8 0, .bool false, .int .u8 0, .int .u8 0, .int .u8 0, .int .u8 0, .int .u8 0, .int .i64 0, .int .u8 0, .int .u8 0, .int .u8 0, .int .u8 0, .int .u8 0, .int .u8 0, .int .i64 0, .int .u8 0, .int .u8 0, .int .u8 0, .int .u8 0, .int .u8 0, .int .u8 0, .int .i64 0, .int .u8 0, .int .u8 0, .int .u8 0, .int .u8 0, .int .u8 0, .int .u8 0, .int .i64 0, .int .u8 0, .int .u8 0, .int .u8 0, .int .u8 0, .int .u8 0, .int .u8 0, .int .u8 0, .int .u8 0, .int .u8 0]⟩),
  (145, ⟨.other, 1, false, 8, some [.nilFunc]⟩),
  (147, ⟨.other, 1, false, 8, some [.nilFunc]⟩),
  (148, ⟨.other, 1, false, 0, none⟩),
  (149, ⟨.map 5 147, 1, false, 8, some [.map none]⟩),
  (152, ⟨.struct [(0, 3, true)], 3, true, 24, some [.int .u8 0, .int .u64 0, .bool false]⟩),
  (155, ⟨.other, 1, false, 8, some [.nilFunc]⟩),
  (156, ⟨.other, 1, false, 8, some [.nilFunc]⟩),
  (161, ⟨.other, 1, false, 8, some [.nilFunc]⟩),
  (163, ⟨.ptr 27, 1, false, 8, some [.pointer none]⟩),
  (164, ⟨.other, 1, false, 0, none⟩),
  (167, ⟨.array 9 5 1 false, 9, true, 9, some (List.replicate 9 (.int .u8 0))⟩),
  (169, ⟨.other, 1, false, 8, some [.nilFunc]⟩),
  (171, ⟨.other, 1, false, 8, some [.nilFunc]⟩),
  (175, ⟨.array 5 3 1 false, 5, true, 40, some (List.replicate 5 (.int .i64 0))⟩),
  (178, ⟨.int .u64, 1, false, 8, some [.int .u64 0]⟩),
  (179, ⟨.slice 183 2, 1, false, 24, some [.slice none 0 0]⟩),
  (181, ⟨.ptr 29, 1, false, 8, some [.pointer none]⟩),
  (183, ⟨.struct [(0, 1, false), (1, 1, false)], 2, true, 16, some [.int .i64 0, .nilFunc]⟩),
  (185, ⟨.slice 4 1, 1, false, 24, some [.slice none 0 0]⟩),
  (187, ⟨.array 64 5 1 false, 64, true, 64, some (List.replicate 64 (.int .u8 0))⟩),
  (188, ⟨.other, 1, false, 8, some [.nilFunc]⟩),
  (189, ⟨.other, 1, false, 8, some [.nilFunc]⟩),
  (194, ⟨.slice 199 3, 1, false, 24, some [.slice none 0 0]⟩),
  (195, ⟨.other, 1, false, 0, none⟩),
  (197, ⟨.int .u8, 1, false, 1, some [.int .u8 0]⟩),
  (199, ⟨.struct [(0, 1, false), (1, 1, false), (2, 1, false)], 3, true, 32, some [.int .u8 0, .string ByteArray.empty, .int .i64 0]⟩),
  (202, ⟨.struct [(0, 10, true), (10, 1, false), (11, 1, false)], 12, true, 32, some [.int .u8 0, .int .u8 0, .int .u8 0, .bool false, .int .u8 0, .bool false, .int .u8 0, .int .u8 0, .int .u8 0, .int .u8 0, .int .i64 0, .int .i64 0]⟩),
  (203, ⟨.slice 49 1, 1, false, 24, some [.slice none 0 0]⟩),
  (207, ⟨.struct [(0, 1, false), (1, 1, false)], 2, true, 24, some [.string ByteArray.empty, .int .i64 0]⟩),
  (209, ⟨.struct [(0, 2, true), (2, 1, false)], 3, true, 32, some [.string ByteArray.empty, .int .i64 0, .bool false]⟩),
  (210, ⟨.other, 1, false, 8, some [.nilFunc]⟩),
  (211, ⟨.other, 1, false, 8, some [.nilFunc]⟩),
  (215, ⟨.ptr 202, 1, false, 8, some [.pointer none]⟩),
  (218, ⟨.ptr 209, 1, false, 8, some [.pointer none]⟩),
  (219, ⟨.other, 1, false, 8, some [.nilFunc]⟩),
  (220, ⟨.other, 1, false, 0, none⟩),
  (224, ⟨.other, 1, false, 0, none⟩),
  (226, ⟨.ptr 207, 1, false, 8, some [.pointer none]⟩),
  (227, ⟨.other, 1, false, 8, some [.nilFunc]⟩)]
theorem ttOk : TTok Tryd.prog tt :=
  .cons (tiOk (by kernel_rfl) (fun z h => by cases h; done) (by kernel_rfl)) (
  .cons (tiOk (by kernel_rfl) (fun z h => by cases h; kernel_rfl) (by kernel_rfl)) (
  .cons (tiOk (by kernel_rfl) (fun z h => by cases h; kernel_rfl) (by kernel_rfl)) (
  .cons (tiOk (by kernel_rfl) (fun z h => by cases h; kernel_rfl) (by kernel_rfl)) (
  .cons (tiOk (by kernel_rfl) (fun z h => by cases h; kernel_rfl) (by kernel_rfl)) (
  .cons (tiOk (by kernel_rfl) (fun z h => by cases h; kernel_rfl) (by kernel_rfl)) (
  .cons (tiOk (by kernel_rfl) (fun z h => by cases h; kernel_rfl) (by kernel_rfl)) (
  .cons (tiOk (by kernel_rfl) (fun z h => by cases h; kernel_rfl) (by kernel_rfl)) (
  .cons (tiOk (by kernel_rfl) (fun z h => by cases h; kernel_rfl) (by kernel_rfl)) (
  .cons (tiOk (by kernel_rfl) (fun z h => by cases h; kernel_rfl) (by kernel_rfl)) (
  .cons (tiOk (by kernel_rfl) (fun z h => by cases h; kernel_rfl) (by kernel_rfl)) (
  .cons (tiOk (by kernel_rfl) (fun z h => by cases h; kernel_rfl) (by kernel_rfl)) (
  .cons (tiOk (by kernel_rfl) (fun z h => by cases h; kernel_rfl) (by kernel_rfl)) (
  .cons (tiOk (by kernel_rfl) (fun z h => by cases h; kernel_rfl) (by kernel_rfl)) (
  .cons (tiOk (by kernel_rfl) (fun z h => by cases h; kernel_rfl) (by kernel_rfl)) (
  .cons (tiOk (by kernel_rfl) (fun z h => by cases h; done) (by kernel_rfl)) (
  .cons (tiOk (by kernel_rfl) (fun z h => by cases h; kernel_rfl) (by kernel_rfl)) (
  .cons (tiOk (by kernel_rfl) (fun z h => by cases h; kernel_rfl) (by kernel_rfl)) (
  .cons (tiOk (by kernel_rfl) (fun z h => by cases h; kernel_rfl) (by kernel_rfl)) (
  .cons (tiOk (by kernel_rfl) (fun z h => by cases h; done) (by kernel_rfl)) (
  .cons (tiOk (by kernel_rfl) (fun z h => by cases h; kernel_rfl) (by kernel_rfl)) (
  .cons (tiOk (by kernel_rfl) (fun z h => by cases h; kernel_rfl) (by kernel_rfl)) (
  .cons (tiOk (by kernel_rfl) (fun z h => by cases h; kernel_rfl) (by kernel_rfl)) (
  .cons (tiOk (by kernel_rfl) (fun z h => by cases h; kernel_rfl) (by kernel_rfl)) (
  .cons (tiOk (by kernel_rfl) (fun z h => by cases h; kernel_rfl) (by kernel_rfl)) (
  .cons (tiOk (by kernel_rfl) (fun z h => by cases h; kernel_rfl) (by kernel_rfl)) (
  .cons (tiOk (by kernel_rfl) (fun z h => by cases h; kernel_rfl) (by kernel_rfl)) (
  .cons (tiOk (by kernel_rfl) (fun z h => by cases h; kernel_rfl) (by kernel_rfl)) (
  .cons (tiOk (by kernel_rfl) (fun z h => by cases h; kernel_rfl) (by kernel_rfl)) (
  .cons (tiOk (by kernel_rfl) (fun z h => by cases h; kernel_rfl) (by kernel_rfl)) (
  .cons (tiOk (by kernel_rfl) (fun z h => by cases h; kernel_rfl) (by kernel_rfl)) (
  .cons (tiOk (by kernel_rfl) (fun z h => by cases h; done) (by kernel_rfl)) (
  .cons (tiOk (by kernel_rfl) (fun z h => by cases h; done) (by kernel_rfl)) (
  .cons (tiOk (by kernel_rfl) (fun z h => by cases h; done) (by kernel_rfl)) (
  .cons (tiOk (by kernel_rfl) (fun z h => by cases h; done) (by kernel_rfl)) (
  .cons (tiOk (by kernel_rfl) (fun z h => by cases h; kernel_rfl) (by kernel_rfl)) (
  .cons (tiOk (by kernel_rfl) (fun z h => by cases h; done) (by kernel_rfl)) (
  .cons (tiOk (by kernel_rfl) (fun z h => by cases h; kernel_rfl) (by kernel_rfl)) (
  .cons (tiOk (by kernel_rfl) (fun z h => by cases h; kernel_rfl) (by kernel_rfl)) (
  .cons (tiOk (by kernel_rfl) (fun z h => by cases h; kernel_rfl) (by kernel_rfl)) (
  .cons (tiOk (by kernel_rfl) (fun z h => by cases h; kernel_rfl) (by kernel_rfl)) (
  .cons (tiOk (by kernel_rfl) (fun z h => by cases h; kernel_rfl) (by kernel_rfl)) (
  .cons (tiOk (by kernel_rfl) (fun z h => by cases h; kernel_rfl) (by kernel_rfl)) (
  .cons (tiOk (by kernel_rfl) (fun z h => by cases h; kernel_rfl) (by kernel_rfl)) (
  .cons (tiOk (by kernel_rfl) (fun z h => by cases h; kernel_rfl) (by kernel_rfl)) (
  .cons (tiOk (by kernel_rfl) (fun z h => by cases h; done) (by kernel_rfl)) (
  .cons (tiOk (by kernel_rfl) (fun z h => by cases h; kernel_rfl) (by kernel_rfl)) (
  .cons (tiOk (by kernel_rfl) (fun z h => by cases h; kernel_rfl) (by kernel_rfl)) (
  .cons (tiOk (by kernel_rfl) (fun z h => by cases h; kernel_rfl) (by kernel_rfl)) (
  .cons (tiOk (by kernel_rfl) (fun z h => by cases h; kernel_rfl) (by kernel_rfl)) (
  .cons (tiOk (by kernel_rfl) (fun z h => by cases h; kernel_rfl) (by kernel_rfl)) (
  .cons (tiOk (by kernel_rfl) (fun z h => by cases h; kernel_rfl) (by kernel_rfl)) (
  .cons (tiOk (by kernel_rfl) (fun z h => by cases h; kernel_rfl) (by kernel_rfl)) (
  .cons (tiOk (by kernel_rfl) (fun z h => by cases h; kernel_rfl) (by kernel_rfl)) (
  .cons (tiOk (by kernel_rfl) (fun z h => by cases h; kernel_rfl) (by kernel_rfl)) (
  .cons (tiOk (by kernel_rfl) (fun z h => by cases h; kernel_rfl) (by kernel_rfl)) (
  .cons (tiOk (by kernel_rfl) (fun z h => by cases h; done) (by kernel_rfl)) (
  .cons (tiOk (by kernel_rfl) (fun z h => by cases h; kernel_rfl) (by kernel_rfl)) (
  .cons (tiOk (by kernel_rfl) (fun z h => by cases h; kernel_rfl) (by kernel_rfl)) (
  .cons (tiOk (by kernel_rfl) (fun z h => by cases h; kernel_rfl) (by kernel_rfl)) (
  .cons (tiOk (by kernel_rfl) (fun z h => by cases h; kernel_rfl) (by kernel_rfl)) (
  .cons (tiOk (by kernel_rfl) (fun z h => by cases h; kernel_rfl) (by kernel_rfl)) (
  .cons (tiOk (by kernel_rfl) (fun z h => by cases h; kernel_rfl) (by kernel_rfl)) (
  .cons (tiOk (by kernel_rfl) (fun z h => by cases h; done) (by kernel_rfl)) (
  .cons (tiOk (by kernel_rfl) (fun z h => by cases h; kernel_rfl) (by kernel_rfl)) (
  .cons (tiOk (by kernel_rfl) (fun z h => by cases h; kernel_rfl) (by kernel_rfl)) (
  .cons (tiOk (by kernel_rfl) (fun z h => by cases h; kernel_rfl) (by kernel_rfl)) (
  .cons (tiOk (by kernel_rfl) (fun z h => by cases h; kernel_rfl) (by kernel_rfl)) (
  .cons (tiOk (by kernel_rfl) (fun z h => by cases h; kernel_rfl) (by kernel_rfl)) (
  .cons (tiOk (by kernel_rfl) (fun z h => by cases h; kernel_rfl) (by kernel_rfl)) (
  .cons (tiOk (by kernel_rfl) (fun z h => by cases h; kernel_rfl) (by kernel_rfl)) (
  .cons (tiOk (by kernel_rfl) (fun z h => by cases h; kernel_rfl) (by kernel_rfl)) (
  .cons (tiOk (by kernel_rfl) (fun z h => by cases h; kernel_rfl) (by kernel_rfl)) (
  .cons (tiOk (by kernel_rfl) (fun z h => by cases h; kernel_rfl) (by kernel_rfl)) (
  .cons (tiOk (by kernel_rfl) (fun z h => by cases h; kernel_rfl) (by kernel_rfl)) (
  .cons (tiOk (by kernel_rfl) (fun z h => by cases h; kernel_rfl) (by kernel_rfl)) (
  .cons (tiOk (by kernel_rfl) (fun z h => by cases h; kernel_rfl) (by kernel_rfl)) (
  .cons (tiOk (by kernel_rfl) (fun z h => by cases h; done) (by kernel_rfl)) (
  .cons (tiOk (by kernel_rfl) (fun z h => by cases h; kernel_rfl) (by kernel_rfl)) (
  .cons (tiOk (by kernel_rfl) (fun z h => by cases h; kernel_rfl) (by kernel_rfl)) (
  .cons (tiOk (by kernel_rfl) (fun z h => by cases h; kernel_rfl) (by kernel_rfl)) (
  .cons (tiOk (by kernel_rfl) (fun z h => by cases h; kernel_rfl) (by kernel_rfl)) (
  .cons (tiOk (by kernel_rfl) (fun z h => by cases h; kernel_rfl) (by kernel_rfl)) (
  .cons (tiOk (by kernel_rfl) (fun z h => by cases h; kernel_rfl) (by kernel_rfl)) (
  .cons (tiOk (by kernel_rfl) (fun z h => by cases h; kernel_rfl) (by kernel_rfl)) (
  .cons (tiOk (by kernel_rfl) (fun z h => by cases h; kernel_rfl) (by kernel_rfl)) (
  .cons (tiOk (by kernel_rfl) (fun z h => by cases h; kernel_rfl) (by kernel_rfl)) (
  .cons (tiOk (by kernel_rfl) (fun z h => by cases h; kernel_rfl) (by kernel_rfl)) (
  .cons (tiOk (by kernel_rfl) (fun z h => by cases h; kernel_rfl) (by kernel_rfl)) (
  .cons (tiOk (by kernel_rfl) (fun z h => by cases h; done) (by kernel_rfl)) (
  .cons (tiOk (by kernel_rfl) (fun z h => by cases h; done) (by kernel_rfl)) (
  .cons (tiOk (by kernel_rfl) (fun z h => by cases h; kernel_rfl) (by kernel_rfl)) (
  .cons (tiOk (by kernel_rfl) (fun z h => by cases h; kernel_rfl) (by kernel_rfl)) (
  .nil)))))))))))))))))))))))))))))))))))))))))))))))))))))))))))))))))))))))))))))))))))))))))))))
theorem called : callB Tryd.prog 3 150 [128, 129, 130, 131, 132, 133, 134, 135, 136, 137, 138, 139, 140, 141, 142, 143, 144, 145, 146, 147, 148] = true := by kernel_rfl
theorem mixed : Tryd.prog.follows .mixedOrders = true := by kernel_rfl
@[reducible] noncomputable def sg (n : Nat) : Sig := ⟨Tryd.prog, tt, n, 3, 150, none, [128, 129, 130, 131, 132, 133, 134, 135, 136, 137, 138, 139, 140, 141, 142, 143, 144, 145, 146, 147, 148]⟩
theorem sgOk (n : Nat) : SigOk (sg n) := ⟨fun t i h => ttOk.get t i h, callOk called, mixed⟩
end Go.Proofs.YthmddpoodknclaaDoor
