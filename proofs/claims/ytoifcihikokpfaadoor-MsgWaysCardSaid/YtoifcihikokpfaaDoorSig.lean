/- The table of types for the engine; each row is checked by the kernel. -/
import Derived.Test.YtoifcihikokpfaaDoorVcG
import Derived.KernelRfl
import Derived.Test.YtoifcihikokpfaaDoorProg
namespace Go.Proofs.YtoifcihikokpfaaDoor
open Go.Vc
def tt : TT := [
  (0, ⟨.other, 1, false, 0, none⟩),
  (2, ⟨.int .i64, 1, false, 8, some [.int .i64 0]⟩),
  (3, ⟨.int .i64, 1, false, 8, some [.int .i64 0]⟩),
  (4, ⟨.bool, 1, false, 1, some [.bool false]⟩),
  (5, ⟨.int .u8, 1, false, 1, some [.int .u8 0]⟩),
  (9, ⟨.string, 1, false, 16, some [.string ByteArray.empty]⟩),
  (20, ⟨.other, 1, false, 16, some [.nilIface]⟩),
  (21, ⟨.int .i32, 1, false, 4, some [.int .i32 0]⟩),
  (22, ⟨.slice 5 1, 1, false, 24, some [.slice none 0 0]⟩),
  (25, ⟨.array 4 5 1 false, 4, true, 4, some [.int .u8 0, .int .u8 0, .int .u8 0, .int .u8 0]⟩),
  (27, ⟨.struct [(0, 1, false), (1, 1, false), (2, 1, false), (3, 1, false), (4, 1, false), (5, 1, false), (6, 1, false), (7, 4, true)], 11, true, 11, some [.int .u8 0, .int .u8 0, .int .u8 0, .int .u8 0, .int .u8 0, .int .u8 0, .bool false, .int .u8 0, .int .u8 0, .int .u8 0, .int .u8 0]⟩),
  (28, ⟨.other, 1, false, 0, none⟩),
  (30, ⟨.int .i64, 1, false, 8, some [.int .i64 0]⟩),
  (31, ⟨.other, 1, false, 0, none⟩),
  (39, ⟨.struct [(0, 1, false), (1, 1, false), (2, 1, false), (3, 1, false), (4, 1, false)], 5, true, 40, some (List.replicate 5 (.int .i64 0))⟩),
  (47, ⟨.slice 9 1, 1, false, 24, some [.slice none 0 0]⟩),
  (49, ⟨.array 11 5 1 false, 11, true, 11, some (List.replicate 11 (.int .u8 0))⟩),
  (52, ⟨.other, 1, false, 8, some [.nilFunc]⟩),
  (53, ⟨.array 13 9 1 false, 13, true, 208, some (List.replicate 13 (.string ByteArray.empty))⟩),
  (56, ⟨.array 13 5 1 false, 13, true, 13, some (List.replicate 13 (.int .u8 0))⟩),
  (58, ⟨.struct [(0, 11, true), (11, 5, true), (16, 1, false)], 17, true, 64, some [.int .u8 0, .int .u8 0, .int .u8 0, .int .u8 0, .int .u8 0, .int .u8 0, .bool false, .int .u8 0, .int .u8 0, .int .u8 0, .int .u8 0, .int .i64 0, .int .i64 0, .int .i64 0, .int .i64 0, .int .i64 0, .int .u8 0]⟩),
  (60, ⟨.struct [(0, 5, true)], 5, true, 40, some (List.replicate 5 (.int .i64 0))⟩),
  (61, ⟨.other, 1, false, 0, none⟩),
  (63, ⟨.array 5 3 1 false, 5, true, 40, some (List.replicate 5 (.int .i64 0))⟩),
  (64, ⟨.other, 1, false, 8, some [.nilFunc]⟩),
  (66, ⟨.other, 1, false, 8, some [.nilFunc]⟩),
  (67, ⟨.int .u64, 1, false, 8, some [.int .u64 0]⟩),
  (69, ⟨.other, 1, false, 16, some [.nilIface]⟩),
  (70, ⟨.other, 1, false, 0, none⟩),
  (72, ⟨.other, 1, false, 8, some [.nilFunc]⟩),
  (73, ⟨.other, 1, false, 8, some [.nilFunc]⟩),
  (74, ⟨.other, 1, false, 0, none⟩),
  (77, ⟨.ptr 79, 1, false, 8, some [.pointer none]⟩),
  (79, ⟨.struct [(0, 1, false), (1, 1, false)], 2, true, 32, some [.pointer none, .slice none 0 0]⟩),
  (81, ⟨.other, 1, false, 0, none⟩),
  (88, ⟨.ptr 5, 1, false, 8, some [.pointer none]⟩),
  (89, ⟨.int .i64, 1, false, 8, some [.int .i64 0]⟩),
  (90, ⟨.int .u64, 1, false, 8, some [.int .u64 0]⟩),
  (91, ⟨.ptr 108, 1, false, 8, some [.pointer none]⟩),
  (95, ⟨.other, 1, false, 0, none⟩),
  (98, ⟨.array 24 5 1 false, 24, true, 24, some (List.replicate 24 (.int .u8 0))⟩),
  (101, ⟨.other, 1, false, 0, none⟩),
  (103, ⟨.other, 1, false, 8, some [.pointer none]⟩),
  (108, ⟨.struct [(0, 1, false), (1, 1, false), (2, 1, false)], 3, true, 48, some [.string ByteArray.empty, .string ByteArray.empty, .nilIface]⟩),
  (112, ⟨.array 20 67 1 false, 20, true, 160, some (List.replicate 20 (.int .u64 0))⟩),
  (113, ⟨.int .u32, 1, false, 4, some [.int .u32 0]⟩),
  (114, ⟨.array 65 5 1 false, 65, true, 65, some (List.replicate 65 (.int .u8 0))⟩),
  (117, ⟨.ptr 119, 1, false, 8, some [.pointer none]⟩),
  (119, ⟨.struct [(0, 1, false)], 1, true, 16, some [.string ByteArray.empty]⟩),
  (120, ⟨.other, 1, false, 0, none⟩),
  (122, ⟨.array 256 5 1 false, 256, true, 256, some (List.replicate 256 (.int .u8 0))⟩),
  (124, ⟨.struct [(0, 1, false), (1, 1, false)], 2, true, 2, some [.int .u8 0, .int .u8 0]⟩),
  (125, ⟨.array 16 124 2 true, 32, true, 32, some (List.replicate 32 (.int .u8 0))⟩),
  (127, ⟨.array 32 5 1 false, 32, true, 32, some (List.replicate 32 (.int .u8 0))⟩),
  (128, ⟨.array 64 5 1 false, 64, true, 64, some (List.replicate 64 (.int .u8 0))⟩)]
theorem ttOk : TTok Tryd.prog tt :=
  .cons (tiOk (by kernel_rfl) (fun z h => by cases h; done) (by kernel_rfl)) (
  .cons (tiOk (by kernel_rfl) (fun z h => by cases h; kernel_rfl) (by kernel_rfl)) (
  .cons (tiOk (by kernel_rfl) (fun z h => by cases h; kernel_rfl) (by kernel_rfl)) (
  .cons (tiOk (by kernel_rfl) (fun z h => by cases h; kernel_rfl) (by kernel_rfl)) (
  .cons (tiOk (by kernel_rfl) (fun z h => by cases h; kernel_rfl) (by kernel_rfl)) (
  .cons (tiOk (by kernel_rfl) (fun z h => by cases h; kernel_rfl) (by kernel_rfl)) (
  .cons (tiOk (by kernel_rfl) (fun z h => by cases h; kernel_rfl) (by kernel_rfl)) (
  .cons (tiOk (by kernel_rfl) (fun z h => by cases h; kernel_rfl) (by kernel_rfl)) (
  .cons (tiOk (by kernel_rfl) (fun z h => by cases h; kernel_rfl) (by kernel_rfl)) (
  .cons (tiOk (by kernel_rfl) (fun z h => by cases h; kernel_rfl) (by kernel_rfl)) (
  .cons (tiOk (by kernel_rfl) (fun z h => by cases h; kernel_rfl) (by kernel_rfl)) (
  .cons (tiOk (by kernel_rfl) (fun z h => by cases h; done) (by kernel_rfl)) (
  .cons (tiOk (by kernel_rfl) (fun z h => by cases h; kernel_rfl) (by kernel_rfl)) (
  .cons (tiOk (by kernel_rfl) (fun z h => by cases h; done) (by kernel_rfl)) (
  .cons (tiOk (by kernel_rfl) (fun z h => by cases h; kernel_rfl) (by kernel_rfl)) (
  .cons (tiOk (by kernel_rfl) (fun z h => by cases h; kernel_rfl) (by kernel_rfl)) (
  .cons (tiOk (by kernel_rfl) (fun z h => by cases h; kernel_rfl) (by kernel_rfl)) (
  .cons (tiOk (by kernel_rfl) (fun z h => by cases h; kernel_rfl) (by kernel_rfl)) (
  .cons (tiOk (by kernel_rfl) (fun z h => by cases h; kernel_rfl) (by kernel_rfl)) (
  .cons (tiOk (by kernel_rfl) (fun z h => by cases h; kernel_rfl) (by kernel_rfl)) (
  .cons (tiOk (by kernel_rfl) (fun z h => by cases h; kernel_rfl) (by kernel_rfl)) (
  .cons (tiOk (by kernel_rfl) (fun z h => by cases h; kernel_rfl) (by kernel_rfl)) (
  .cons (tiOk (by kernel_rfl) (fun z h => by cases h; done) (by kernel_rfl)) (
  .cons (tiOk (by kernel_rfl) (fun z h => by cases h; kernel_rfl) (by kernel_rfl)) (
  .cons (tiOk (by kernel_rfl) (fun z h => by cases h; kernel_rfl) (by kernel_rfl)) (
  .cons (tiOk (by kernel_rfl) (fun z h => by cases h; kernel_rfl) (by kernel_rfl)) (
  .cons (tiOk (by kernel_rfl) (fun z h => by cases h; kernel_rfl) (by kernel_rfl)) (
  .cons (tiOk (by kernel_rfl) (fun z h => by cases h; kernel_rfl) (by kernel_rfl)) (
  .cons (tiOk (by kernel_rfl) (fun z h => by cases h; done) (by kernel_rfl)) (
  .cons (tiOk (by kernel_rfl) (fun z h => by cases h; kernel_rfl) (by kernel_rfl)) (
  .cons (tiOk (by kernel_rfl) (fun z h => by cases h; kernel_rfl) (by kernel_rfl)) (
  .cons (tiOk (by kernel_rfl) (fun z h => by cases h; done) (by kernel_rfl)) (
  .cons (tiOk (by kernel_rfl) (fun z h => by cases h; kernel_rfl) (by kernel_rfl)) (
  .cons (tiOk (by kernel_rfl) (fun z h => by cases h; kernel_rfl) (by kernel_rfl)) (
  .cons (tiOk (by kernel_rfl) (fun z h => by cases h; done) (by kernel_rfl)) (
  .cons (tiOk (by kernel_rfl) (fun z h => by cases h; kernel_rfl) (by kernel_rfl)) (
  .cons (tiOk (by kernel_rfl) (fun z h => by cases h; kernel_rfl) (by kernel_rfl)) (
  .cons (tiOk (by kernel_rfl) (fun z h => by cases h; kernel_rfl) (by kernel_rfl)) (
  .cons (tiOk (by kernel_rfl) (fun z h => by cases h; kernel_rfl) (by kernel_rfl)) (
  .cons (tiOk (by kernel_rfl) (fun z h => by cases h; done) (by kernel_rfl)) (
  .cons (tiOk (by kernel_rfl) (fun z h => by cases h; kernel_rfl) (by kernel_rfl)) (
  .cons (tiOk (by kernel_rfl) (fun z h => by cases h; done) (by kernel_rfl)) (
  .cons (tiOk (by kernel_rfl) (fun z h => by cases h; kernel_rfl) (by kernel_rfl)) (
  .cons (tiOk (by kernel_rfl) (fun z h => by cases h; kernel_rfl) (by kernel_rfl)) (
  .cons (tiOk (by kernel_rfl) (fun z h => by cases h; kernel_rfl) (by kernel_rfl)) (
  .cons (tiOk (by kernel_rfl) (fun z h => by cases h; kernel_rfl) (by kernel_rfl)) (
  .cons (tiOk (by kernel_rfl) (fun z h => by cases h; kernel_rfl) (by kernel_rfl)) (
  .cons (tiOk (by kernel_rfl) (fun z h => by cases h; kernel_rfl) (by kernel_rfl)) (
  .cons (tiOk (by kernel_rfl) (fun z h => by cases h; kernel_rfl) (by kernel_rfl)) (
  .cons (tiOk (by kernel_rfl) (fun z h => by cases h; done) (by kernel_rfl)) (
  .cons (tiOk (by kernel_rfl) (fun z h => by cases h; kernel_rfl) (by kernel_rfl)) (
  .cons (tiOk (by kernel_rfl) (fun z h => by cases h; kernel_rfl) (by kernel_rfl)) (
  .cons (tiOk (by kernel_rfl) (fun z h => by cases h; kernel_rfl) (by kernel_rfl)) (
  .cons (tiOk (by kernel_rfl) (fun z h => by cases h; kernel_rfl) (by kernel_rfl)) (
  .cons (tiOk (by kernel_rfl) (fun z h => by cases h; kernel_rfl) (by kernel_rfl)) (
  .nil)))))))))))))))))))))))))))))))))))))))))))))))))))))))
theorem called : callB Tryd.prog 3 67 = true := by kernel_rfl
theorem mixed : Tryd.prog.follows .mixedOrders = true := by kernel_rfl
@[reducible] noncomputable def sg (n : Nat) : Sig := ⟨Tryd.prog, tt, n, 3, 67, none⟩
theorem sgOk (n : Nat) : SigOk (sg n) := ⟨fun t i h => ttOk.get t i h, callOk called, mixed⟩
end Go.Proofs.YtoifcihikokpfaaDoor
