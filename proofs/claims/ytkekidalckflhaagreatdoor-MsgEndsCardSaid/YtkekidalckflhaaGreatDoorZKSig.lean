/- The table of types for the engine; each row is checked by the kernel. -/
import Derived.Test.YtkekidalckflhaaGreatDoorZ1
import Derived.KernelRfl
import Derived.Test.YtkekidalckflhaaGreatDoorProg
namespace Go.Proofs.YtkekidalckflhaaGreatDoor
open Go.Vc
def tt : TT := [
  (0, ⟨.other, 1, false, 0, none⟩),
  (2, ⟨.int .i64, 1, false, 8, some [.int .i64 0]⟩),
  (3, ⟨.int .i64, 1, false, 8, some [.int .i64 0]⟩),
  (4, ⟨.bool, 1, false, 1, some [.bool false]⟩),
  (5, ⟨.int .u8, 1, false, 1, some [.int .u8 0]⟩),
  (9, ⟨.string, 1, false, 16, some [.string ByteArray.empty]⟩),
  (20, ⟨.other, 1, false, 16, some [.nilIface]⟩),
  (21, ⟨.int .i32, 1, false, 4, some [.int .i32 0]⟩),
  (23, ⟨.struct [(0, 1, false), (1, 1, false), (2, 1, false), (3, 1, false), (4, 1, false)], 5, true, 40, some (List.replicate 5 (.int .i64 0))⟩),
  (25, ⟨.array 4 5 1 false, 4, true, 4, some [.int .u8 0, .int .u8 0, .int .u8 0, .int .u8 0]⟩),
  (27, ⟨.struct [(0, 1, false), (1, 1, false), (2, 1, false), (3, 1, false), (4, 1, false), (5, 1, false), (6, 1, false), (7, 4, true)], 11, true, 11, some [.int .u8 0, .int .u8 0, .int .u8 0, .int .u8 0, .int .u8 0, .int .u8 0, .bool false, .int .u8 0, .int .u8 0, .int .u8 0, .int .u8 0]⟩),
  (33, ⟨.slice 5 1, 1, false, 24, some [.slice none 0 0]⟩),
  (36, ⟨.slice 9 1, 1, false, 24, some [.slice none 0 0]⟩),
  (38, ⟨.int .i64, 1, false, 8, some [.int .i64 0]⟩),
  (39, ⟨.other, 1, false, 0, none⟩),
  (42, ⟨.array 13 5 1 false, 13, true, 13, some (List.replicate 13 (.int .u8 0))⟩),
  (45, ⟨.struct [(0, 11, true), (11, 5, true), (16, 1, false)], 17, true, 64, some [.int .u8 0, .int .u8 0, .int .u8 0, .int .u8 0, .int .u8 0, .int .u8 0, .bool false, .int .u8 0, .int .u8 0, .int .u8 0, .int .u8 0, .int .i64 0, .int .i64 0, .int .i64 0, .int .i64 0, .int .i64 0, .int .u8 0]⟩),
  (48, ⟨.array 11 5 1 false, 11, true, 11, some (List.replicate 11 (.int .u8 0))⟩),
  (51, ⟨.other, 1, false, 8, some [.nilFunc]⟩),
  (52, ⟨.array 13 9 1 false, 13, true, 208, some (List.replicate 13 (.string ByteArray.empty))⟩),
  (55, ⟨.other, 1, false, 0, none⟩),
  (59, ⟨.array 5 3 1 false, 5, true, 40, some (List.replicate 5 (.int .i64 0))⟩),
  (61, ⟨.struct [(0, 5, true)], 5, true, 40, some (List.replicate 5 (.int .i64 0))⟩),
  (62, ⟨.other, 1, false, 0, none⟩),
  (64, ⟨.other, 1, false, 8, some [.nilFunc]⟩),
  (67, ⟨.ptr 69, 1, false, 8, some [.pointer none]⟩),
  (69, ⟨.struct [(0, 1, false), (1, 1, false)], 2, true, 32, some [.pointer none, .slice none 0 0]⟩),
  (72, ⟨.other, 1, false, 16, some [.nilIface]⟩),
  (73, ⟨.other, 1, false, 0, none⟩),
  (75, ⟨.other, 1, false, 8, some [.nilFunc]⟩),
  (77, ⟨.other, 1, false, 8, some [.nilFunc]⟩),
  (78, ⟨.int .u64, 1, false, 8, some [.int .u64 0]⟩),
  (79, ⟨.other, 1, false, 0, none⟩),
  (81, ⟨.other, 1, false, 8, some [.nilFunc]⟩),
  (82, ⟨.other, 1, false, 0, none⟩),
  (87, ⟨.ptr 5, 1, false, 8, some [.pointer none]⟩),
  (91, ⟨.array 24 5 1 false, 24, true, 24, some (List.replicate 24 (.int .u8 0))⟩),
  (94, ⟨.other, 1, false, 0, none⟩),
  (96, ⟨.other, 1, false, 8, some [.pointer none]⟩),
  (99, ⟨.int .i64, 1, false, 8, some [.int .i64 0]⟩),
  (100, ⟨.int .u64, 1, false, 8, some [.int .u64 0]⟩),
  (101, ⟨.ptr 117, 1, false, 8, some [.pointer none]⟩),
  (105, ⟨.other, 1, false, 0, none⟩),
  (110, ⟨.array 20 78 1 false, 20, true, 160, some (List.replicate 20 (.int .u64 0))⟩),
  (111, ⟨.int .u32, 1, false, 4, some [.int .u32 0]⟩),
  (112, ⟨.array 65 5 1 false, 65, true, 65, some (List.replicate 65 (.int .u8 0))⟩),
  (117, ⟨.struct [(0, 1, false), (1, 1, false), (2, 1, false)], 3, true, 48, some [.string ByteArray.empty, .string ByteArray.empty, .nilIface]⟩),
  (120, ⟨.ptr 122, 1, false, 8, some [.pointer none]⟩),
  (122, ⟨.struct [(0, 1, false)], 1, true, 16, some [.string ByteArray.empty]⟩),
  (123, ⟨.other, 1, false, 0, none⟩),
  (125, ⟨.array 256 5 1 false, 256, true, 256, some (List.replicate 256 (.int .u8 0))⟩),
  (127, ⟨.struct [(0, 1, false), (1, 1, false)], 2, true, 2, some [.int .u8 0, .int .u8 0]⟩),
  (128, ⟨.array 16 127 2 true, 32, true, 32, some (List.replicate 32 (.int .u8 0))⟩),
  (129, ⟨.array 32 5 1 false, 32, true, 32, some (List.replicate 32 (.int .u8 0))⟩),
  (130, ⟨.array 64 5 1 false, 64, true, 64, some (List.replicate 64 (.int .u8 0))⟩)]
theorem ttOk : TTok Tryz.prog tt :=
  .cons (tiOk (by kernel_rfl) (fun z h => by cases h; done) (by kernel_rfl)) (
  .cons (tiOk (by kernel_rfl) (fun z h => by cases h; kernel_rfl) (by kernel_rfl)) (
  .cons (tiOk (by kernel_rfl) (fun z h => by cases h; kernel_rfl) (by kernel_rfl)) (
  .cons (tiOk (by kernel_rfl) (fun z h => by cases h; kernel_rfl) (by kernel_rfl)) (
  .cons (tiOk (by kernel_rfl) (fun z h => by cases h; kernel_rfl) (by kernel_rfl)) (
  .cons (tiOk (by kernel_rfl) (fun z h => by cases h; kernel_rfl) (by kernel_rfl)) (
  .cons (tiOk (by kernel_rfl) (fun z h => by cases h; kernel_rfl) (by kernel_rfl)) (
  .cons (tiOk (by kernel_rfl) (fun z h => by cases h; kernel_rfl) (by kernel_rfl)) (
  .cons (tiOk (by kernel_rfl) (fun z h => by cases h; kernel_rfl) (by kernel_rfl)) (
  .cons (tiOk (by kernel_rfl) (fun z h => by cases h; kernel_rfl) (by kernel_rfl)) (
  .cons (tiOk (by kernel_rfl) (fun z h => by cases h; kernel_rfl) (by kernel_rfl)) (
  .cons (tiOk (by kernel_rfl) (fun z h => by cases h; kernel_rfl) (by kernel_rfl)) (
  .cons (tiOk (by kernel_rfl) (fun z h => by cases h; kernel_rfl) (by kernel_rfl)) (
  .cons (tiOk (by kernel_rfl) (fun z h => by cases h; kernel_rfl) (by kernel_rfl)) (
  .cons (tiOk (by kernel_rfl) (fun z h => by cases h; done) (by kernel_rfl)) (
  .cons (tiOk (by kernel_rfl) (fun z h => by cases h; kernel_rfl) (by kernel_rfl)) (
  .cons (tiOk (by kernel_rfl) (fun z h => by cases h; kernel_rfl) (by kernel_rfl)) (
  .cons (tiOk (by kernel_rfl) (fun z h => by cases h; kernel_rfl) (by kernel_rfl)) (
  .cons (tiOk (by kernel_rfl) (fun z h => by cases h; kernel_rfl) (by kernel_rfl)) (
  .cons (tiOk (by kernel_rfl) (fun z h => by cases h; kernel_rfl) (by kernel_rfl)) (
  .cons (tiOk (by kernel_rfl) (fun z h => by cases h; done) (by kernel_rfl)) (
  .cons (tiOk (by kernel_rfl) (fun z h => by cases h; kernel_rfl) (by kernel_rfl)) (
  .cons (tiOk (by kernel_rfl) (fun z h => by cases h; kernel_rfl) (by kernel_rfl)) (
  .cons (tiOk (by kernel_rfl) (fun z h => by cases h; done) (by kernel_rfl)) (
  .cons (tiOk (by kernel_rfl) (fun z h => by cases h; kernel_rfl) (by kernel_rfl)) (
  .cons (tiOk (by kernel_rfl) (fun z h => by cases h; kernel_rfl) (by kernel_rfl)) (
  .cons (tiOk (by kernel_rfl) (fun z h => by cases h; kernel_rfl) (by kernel_rfl)) (
  .cons (tiOk (by kernel_rfl) (fun z h => by cases h; kernel_rfl) (by kernel_rfl)) (
  .cons (tiOk (by kernel_rfl) (fun z h => by cases h; done) (by kernel_rfl)) (
  .cons (tiOk (by kernel_rfl) (fun z h => by cases h; kernel_rfl) (by kernel_rfl)) (
  .cons (tiOk (by kernel_rfl) (fun z h => by cases h; kernel_rfl) (by kernel_rfl)) (
  .cons (tiOk (by kernel_rfl) (fun z h => by cases h; kernel_rfl) (by kernel_rfl)) (
  .cons (tiOk (by kernel_rfl) (fun z h => by cases h; done) (by kernel_rfl)) (
  .cons (tiOk (by kernel_rfl) (fun z h => by cases h; kernel_rfl) (by kernel_rfl)) (
  .cons (tiOk (by kernel_rfl) (fun z h => by cases h; done) (by kernel_rfl)) (
  .cons (tiOk (by kernel_rfl) (fun z h => by cases h; kernel_rfl) (by kernel_rfl)) (
  .cons (tiOk (by kernel_rfl) (fun z h => by cases h; kernel_rfl) (by kernel_rfl)) (
  .cons (tiOk (by kernel_rfl) (fun z h => by cases h; done) (by kernel_rfl)) (
  .cons (tiOk (by kernel_rfl) (fun z h => by cases h; kernel_rfl) (by kernel_rfl)) (
  .cons (tiOk (by kernel_rfl) (fun z h => by cases h; kernel_rfl) (by kernel_rfl)) (
  .cons (tiOk (by kernel_rfl) (fun z h => by cases h; kernel_rfl) (by kernel_rfl)) (
  .cons (tiOk (by kernel_rfl) (fun z h => by cases h; kernel_rfl) (by kernel_rfl)) (
  .cons (tiOk (by kernel_rfl) (fun z h => by cases h; done) (by kernel_rfl)) (
  .cons (tiOk (by kernel_rfl) (fun z h => by cases h; kernel_rfl) (by kernel_rfl)) (
  .cons (tiOk (by kernel_rfl) (fun z h => by cases h; kernel_rfl) (by kernel_rfl)) (
  .cons (tiOk (by kernel_rfl) (fun z h => by cases h; kernel_rfl) (by kernel_rfl)) (
  .cons (tiOk (by kernel_rfl) (fun z h => by cases h; kernel_rfl) (by kernel_rfl)) (
  .cons (tiOk (by kernel_rfl) (fun z h => by cases h; kernel_rfl) (by kernel_rfl)) (
  .cons (tiOk (by kernel_rfl) (fun z h => by cases h; kernel_rfl) (by kernel_rfl)) (
  .cons (tiOk (by kernel_rfl) (fun z h => by cases h; done) (by kernel_rfl)) (
  .cons (tiOk (by kernel_rfl) (fun z h => by cases h; kernel_rfl) (by kernel_rfl)) (
  .cons (tiOk (by kernel_rfl) (fun z h => by cases h; kernel_rfl) (by kernel_rfl)) (
  .cons (tiOk (by kernel_rfl) (fun z h => by cases h; kernel_rfl) (by kernel_rfl)) (
  .cons (tiOk (by kernel_rfl) (fun z h => by cases h; kernel_rfl) (by kernel_rfl)) (
  .cons (tiOk (by kernel_rfl) (fun z h => by cases h; kernel_rfl) (by kernel_rfl)) (
  .nil)))))))))))))))))))))))))))))))))))))))))))))))))))))))
theorem called : callB Tryz.prog 3 136 [74, 75, 85, 94, 100, 102, 103, 104, 105, 106, 107, 108, 109, 110, 111, 112, 113, 114, 115, 116, 117, 118, 119, 120, 121, 122, 123, 124, 125, 126, 127, 128, 129, 130, 131, 132, 133, 134] = true := by kernel_rfl
theorem mixed : Tryz.prog.follows .mixedOrders = true := by kernel_rfl
@[reducible] noncomputable def sg (n : Nat) : Sig := ⟨Tryz.prog, tt, n, 3, 136, none, [74, 75, 85, 94, 100, 102, 103, 104, 105, 106, 107, 108, 109, 110, 111, 112, 113, 114, 115, 116, 117, 118, 119, 120, 121, 122, 123, 124, 125, 126, 127, 128, 129, 130, 131, 132, 133, 134]⟩
theorem sgOk (n : Nat) : SigOk (sg n) := ⟨fun t i h => ttOk.get t i h, callOk called, mixed⟩
end Go.Proofs.YtkekidalckflhaaGreatDoor
