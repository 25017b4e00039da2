/- The table of types for the engine; each row is checked by the kernel. -/
import Derived.Test.YtkekidalckflhaaDoorZ1
import Derived.KernelRfl
import Derived.Test.YtkekidalckflhaaDoorProg
namespace Go.Proofs.YtkekidalckflhaaDoor
open Go.Vc
def tt : TT := [
  (0, ⟨.other, 1, false, 0, none⟩),
  (2, ⟨.int .i64, 1, false, 8, some [.int .i64 0]⟩),
  (3, ⟨.int .i64, 1, false, 8, some [.int .i64 0]⟩),
  (4, ⟨.bool, 1, false, 1, some [.bool false]⟩),
  (5, ⟨.int .u8, 1, false, 1, some [.int .u8 0]⟩),
  (9, ⟨.string, 1, false, 16, some [.string ByteArray.empty]⟩),
  (20, ⟨.other, 1, false, 16, some [.nilIface]⟩),
  (21, ⟨.int .i32, 1, false, 4, some [.int .i32 0]⟩),
  (22, ⟨.slice 5 1, 1, false, 24, some [.slice none 0 0]⟩),
  (26, ⟨.struct [(0, 1, false), (1, 1, false), (2, 1, false), (3, 1, false), (4, 1, false)], 5, true, 40, some (List.replicate 5 (.int .i64 0))⟩),
  (28, ⟨.array 4 5 1 false, 4, true, 4, some [.int .u8 0, .int .u8 0, .int .u8 0, .int .u8 0]⟩),
  (30, ⟨.struct [(0, 1, false), (1, 1, false), (2, 1, false), (3, 1, false), (4, 1, false), (5, 1, false), (6, 1, false), (7, 4, true)], 11, true, 11, some [.int .u8 0, .int .u8 0, .int .u8 0, .int .u8 0, .int .u8 0, .int .u8 0, .bool false, .int .u8 0, .int .u8 0, .int .u8 0, .int .u8 0]⟩),
  (34, ⟨.int .i64, 1, false, 8, some [.int .i64 0]⟩),
  (35, ⟨.other, 1, false, 0, none⟩),
  (39, ⟨.other, 1, false, 0, none⟩),
  (42, ⟨.array 11 5 1 false, 11, true, 11, some (List.replicate 11 (.int .u8 0))⟩),
  (46, ⟨.slice 9 1, 1, false, 24, some [.slice none 0 0]⟩),
  (49, ⟨.other, 1, false, 8, some [.nilFunc]⟩),
  (50, ⟨.array 13 9 1 false, 13, true, 208, some (List.replicate 13 (.string ByteArray.empty))⟩),
  (53, ⟨.other, 1, false, 8, some [.nilFunc]⟩),
  (56, ⟨.array 13 5 1 false, 13, true, 13, some (List.replicate 13 (.int .u8 0))⟩),
  (59, ⟨.struct [(0, 11, true), (11, 5, true), (16, 1, false)], 17, true, 64, some [.int .u8 0, .int .u8 0, .int .u8 0, .int .u8 0, .int .u8 0, .int .u8 0, .bool false, .int .u8 0, .int .u8 0, .int .u8 0, .int .u8 0, .int .i64 0, .int .i64 0, .int .i64 0, .int .i64 0, .int .i64 0, .int .u8 0]⟩),
  (63, ⟨.other, 1, false, 8, some [.nilFunc]⟩),
  (64, ⟨.int .u64, 1, false, 8, some [.int .u64 0]⟩),
  (66, ⟨.other, 1, false, 16, some [.nilIface]⟩),
  (67, ⟨.other, 1, false, 0, none⟩),
  (69, ⟨.other, 1, false, 8, some [.nilFunc]⟩),
  (70, ⟨.other, 1, false, 0, none⟩),
  (73, ⟨.ptr 75, 1, false, 8, some [.pointer none]⟩),
  (75, ⟨.struct [(0, 1, false), (1, 1, false)], 2, true, 32, some [.pointer none, .slice none 0 0]⟩),
  (77, ⟨.other, 1, false, 0, none⟩),
  (79, ⟨.array 5 3 1 false, 5, true, 40, some (List.replicate 5 (.int .i64 0))⟩),
  (81, ⟨.struct [(0, 5, true)], 5, true, 40, some (List.replicate 5 (.int .i64 0))⟩),
  (82, ⟨.other, 1, false, 0, none⟩),
  (84, ⟨.other, 1, false, 8, some [.nilFunc]⟩),
  (91, ⟨.ptr 5, 1, false, 8, some [.pointer none]⟩),
  (93, ⟨.int .i64, 1, false, 8, some [.int .i64 0]⟩),
  (94, ⟨.int .u64, 1, false, 8, some [.int .u64 0]⟩),
  (95, ⟨.ptr 112, 1, false, 8, some [.pointer none]⟩),
  (99, ⟨.other, 1, false, 0, none⟩),
  (102, ⟨.array 24 5 1 false, 24, true, 24, some (List.replicate 24 (.int .u8 0))⟩),
  (105, ⟨.other, 1, false, 0, none⟩),
  (107, ⟨.other, 1, false, 8, some [.pointer none]⟩),
  (112, ⟨.struct [(0, 1, false), (1, 1, false), (2, 1, false)], 3, true, 48, some [.string ByteArray.empty, .string ByteArray.empty, .nilIface]⟩),
  (116, ⟨.array 20 64 1 false, 20, true, 160, some (List.replicate 20 (.int .u64 0))⟩),
  (117, ⟨.int .u32, 1, false, 4, some [.int .u32 0]⟩),
  (118, ⟨.array 65 5 1 false, 65, true, 65, some (List.replicate 65 (.int .u8 0))⟩),
  (121, ⟨.ptr 123, 1, false, 8, some [.pointer none]⟩),
  (123, ⟨.struct [(0, 1, false)], 1, true, 16, some [.string ByteArray.empty]⟩),
  (124, ⟨.other, 1, false, 0, none⟩),
  (126, ⟨.array 256 5 1 false, 256, true, 256, some (List.replicate 256 (.int .u8 0))⟩),
  (128, ⟨.struct [(0, 1, false), (1, 1, false)], 2, true, 2, some [.int .u8 0, .int .u8 0]⟩),
  (129, ⟨.array 16 128 2 true, 32, true, 32, some (List.replicate 32 (.int .u8 0))⟩),
  (131, ⟨.array 32 5 1 false, 32, true, 32, some (List.replicate 32 (.int .u8 0))⟩),
  (132, ⟨.array 64 5 1 false, 64, true, 64, some (List.replicate 64 (.int .u8 0))⟩)]
theorem ttOk : TTok Tryd.prog tt :=
  .cons (tiOk (by kernel_rfl) (fun z h => by cases h; done) (by kernel_rfl)) (
  .cons (tiOk (by kernel_rfl) (fun z h => by cases h; kernel_rfl) (by kernel_rfl)) (
  .cons (tiOk (by kernel_rfl) (fun z h => by cases h; kernel_rfl) (by kernel_rfl)) (
  .cons (tiOk (by kernel_rfl) (fun z h => by cases h; kernel_rfl) (by kernel_rfl)) (
  .cons (tiOk (by kernel_rfl) (fun z h => by cases h; kernel_rfl) (by kernel_rfl)) (
  .cons (tiOk (by kernel_rfl) (fun z h => by cases h; kernel_rfl) (by kernel_rfl)) (
  .cons (tiOk (by kernel_rfl) (fun z h => by cases h; kernel_rfl) (by kernel_rfl)) (
  .cons (tiOk (by kernel_rfl) (fun z h => by cases h; kernel_rfl) (by kernel_rfl)) (
  .cons (tiOk (by kernel_rfl) (fun z h => by cases h; kernel_rfl) (by kernel_rfl)) (
  .cons (tiOk (by kernel_rfl) (fun z h => by cases h; kernel_rfl) (by kernel_rfl)) (
  .cons (tiOk (by kernel_rfl) (fun z h => by cases h; kernel_rfl) (by kernel_rfl)) (
  .cons (tiOk (by kernel_rfl) (fun z h => by cases h; kernel_rfl) (by kernel_rfl)) (
  .cons (tiOk (by kernel_rfl) (fun z h => by cases h; kernel_rfl) (by kernel_rfl)) (
  .cons (tiOk (by kernel_rfl) (fun z h => by cases h; done) (by kernel_rfl)) (
  .cons (tiOk (by kernel_rfl) (fun z h => by cases h; done) (by kernel_rfl)) (
  .cons (tiOk (by kernel_rfl) (fun z h => by cases h; kernel_rfl) (by kernel_rfl)) (
  .cons (tiOk (by kernel_rfl) (fun z h => by cases h; kernel_rfl) (by kernel_rfl)) (
  .cons (tiOk (by kernel_rfl) (fun z h => by cases h; kernel_rfl) (by kernel_rfl)) (
  .cons (tiOk (by kernel_rfl) (fun z h => by cases h; kernel_rfl) (by kernel_rfl)) (
  .cons (tiOk (by kernel_rfl) (fun z h => by cases h; kernel_rfl) (by kernel_rfl)) (
  .cons (tiOk (by kernel_rfl) (fun z h => by cases h; kernel_rfl) (by kernel_rfl)) (
  .cons (tiOk (by kernel_rfl) (fun z h => by cases h; kernel_rfl) (by kernel_rfl)) (
  .cons (tiOk (by kernel_rfl) (fun z h => by cases h; kernel_rfl) (by kernel_rfl)) (
  .cons (tiOk (by kernel_rfl) (fun z h => by cases h; kernel_rfl) (by kernel_rfl)) (
  .cons (tiOk (by kernel_rfl) (fun z h => by cases h; kernel_rfl) (by kernel_rfl)) (
  .cons (tiOk (by kernel_rfl) (fun z h => by cases h; done) (by kernel_rfl)) (
  .cons (tiOk (by kernel_rfl) (fun z h => by cases h; kernel_rfl) (by kernel_rfl)) (
  .cons (tiOk (by kernel_rfl) (fun z h => by cases h; done) (by kernel_rfl)) (
  .cons (tiOk (by kernel_rfl) (fun z h => by cases h; kernel_rfl) (by kernel_rfl)) (
  .cons (tiOk (by kernel_rfl) (fun z h => by cases h; kernel_rfl) (by kernel_rfl)) (
  .cons (tiOk (by kernel_rfl) (fun z h => by cases h; done) (by kernel_rfl)) (
  .cons (tiOk (by kernel_rfl) (fun z h => by cases h; kernel_rfl) (by kernel_rfl)) (
  .cons (tiOk (by kernel_rfl) (fun z h => by cases h; kernel_rfl) (by kernel_rfl)) (
  .cons (tiOk (by kernel_rfl) (fun z h => by cases h; done) (by kernel_rfl)) (
  .cons (tiOk (by kernel_rfl) (fun z h => by cases h; kernel_rfl) (by kernel_rfl)) (
  .cons (tiOk (by kernel_rfl) (fun z h => by cases h; kernel_rfl) (by kernel_rfl)) (
  .cons (tiOk (by kernel_rfl) (fun z h => by cases h; kernel_rfl) (by kernel_rfl)) (
  .cons (tiOk (by kernel_rfl) (fun z h => by cases h; kernel_rfl) (by kernel_rfl)) (
  .cons (tiOk (by kernel_rfl) (fun z h => by cases h; kernel_rfl) (by kernel_rfl)) (
  .cons (tiOk (by kernel_rfl) (fun z h => by cases h; done) (by kernel_rfl)) (
  .cons (tiOk (by kernel_rfl) (fun z h => by cases h; kernel_rfl) (by kernel_rfl)) (
  .cons (tiOk (by kernel_rfl) (fun z h => by cases h; done) (by kernel_rfl)) (
  .cons (tiOk (by kernel_rfl) (fun z h => by cases h; kernel_rfl) (by kernel_rfl)) (
  .cons (tiOk (by kernel_rfl) (fun z h => by cases h; kernel_rfl) (by kernel_rfl)) (
  .cons (tiOk (by kernel_rfl) (fun z h => by cases h; kernel_rfl) (by kernel_rfl)) (
  .cons (tiOk (by kernel_rfl) (fun z h => by cases h; kernel_rfl) (by kernel_rfl)) (
  .cons (tiOk (by kernel_rfl) (fun z h => by cases h; kernel_rfl) (by kernel_rfl)) (
  .cons (tiOk (by kernel_rfl) (fun z h => by cases h; kernel_rfl) (by kernel_rfl)) (
  .cons (tiOk (by kernel_rfl) (fun z h => by cases h; kernel_rfl) (by kernel_rfl)) (
  .cons (tiOk (by kernel_rfl) (fun z h => by cases h; done) (by kernel_rfl)) (
  .cons (tiOk (by kernel_rfl) (fun z h => by cases h; kernel_rfl) (by kernel_rfl)) (
  .cons (tiOk (by kernel_rfl) (fun z h => by cases h; kernel_rfl) (by kernel_rfl)) (
  .cons (tiOk (by kernel_rfl) (fun z h => by cases h; kernel_rfl) (by kernel_rfl)) (
  .cons (tiOk (by kernel_rfl) (fun z h => by cases h; kernel_rfl) (by kernel_rfl)) (
  .cons (tiOk (by kernel_rfl) (fun z h => by cases h; kernel_rfl) (by kernel_rfl)) (
  .nil)))))))))))))))))))))))))))))))))))))))))))))))))))))))
theorem called : callB Tryd.prog 3 140 [82, 87, 88, 93, 102, 106, 107, 108, 109, 110, 111, 112, 113, 114, 115, 116, 117, 118, 119, 120, 121, 122, 123, 124, 125, 126, 127, 128, 129, 130, 131, 132, 133, 134, 135, 136, 137, 138] = true := by kernel_rfl
theorem mixed : Tryd.prog.follows .mixedOrders = true := by kernel_rfl
@[reducible] noncomputable def sg (n : Nat) : Sig := ⟨Tryd.prog, tt, n, 3, 140, none, [82, 87, 88, 93, 102, 106, 107, 108, 109, 110, 111, 112, 113, 114, 115, 116, 117, 118, 119, 120, 121, 122, 123, 124, 125, 126, 127, 128, 129, 130, 131, 132, 133, 134, 135, 136, 137, 138]⟩
theorem sgOk (n : Nat) : SigOk (sg n) := ⟨fun t i h => ttOk.get t i h, callOk called, mixed⟩
end Go.Proofs.YtkekidalckflhaaDoor
