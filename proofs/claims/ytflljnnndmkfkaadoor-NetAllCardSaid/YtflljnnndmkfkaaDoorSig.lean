/- The table of types for the engine; each row is checked by the kernel. -/
import Derived.Test.YtflljnnndmkfkaaDoorVcG
import Derived.KernelRfl
import Derived.Test.YtflljnnndmkfkaaDoorProg
namespace Go.Proofs.YtflljnnndmkfkaaDoor
open Go.Vc
def tt : TT := [
  (0, ⟨.other, 1, false, 0, none⟩),
  (3, ⟨.int .i64, 1, false, 8, some [.int .i64 0]⟩),
  (4, ⟨.bool, 1, false, 1, some [.bool false]⟩),
  (5, ⟨.int .u8, 1, false, 1, some [.int .u8 0]⟩),
  (9, ⟨.string, 1, false, 16, some [.string ByteArray.empty]⟩),
  (20, ⟨.other, 1, false, 16, some [.nilIface]⟩),
  (22, ⟨.slice 30 11, 1, false, 24, some [.slice none 0 0]⟩),
  (24, ⟨.slice 3 1, 1, false, 24, some [.slice none 0 0]⟩),
  (28, ⟨.array 4 5 1 false, 4, true, 4, some [.int .u8 0, .int .u8 0, .int .u8 0, .int .u8 0]⟩),
  (30, ⟨.struct [(0, 1, false), (1, 1, false), (2, 1, false), (3, 1, false), (4, 1, false), (5, 1, false), (6, 1, false), (7, 4, true)], 11, true, 11, some [.int .u8 0, .int .u8 0, .int .u8 0, .int .u8 0, .int .u8 0, .int .u8 0, .bool false, .int .u8 0, .int .u8 0, .int .u8 0, .int .u8 0]⟩),
  (35, ⟨.int .i64, 1, false, 8, some [.int .i64 0]⟩),
  (36, ⟨.other, 1, false, 0, none⟩),
  (45, ⟨.other, 1, false, 8, some [.nilFunc]⟩),
  (46, ⟨.other, 1, false, 8, some [.nilFunc]⟩),
  (50, ⟨.array 3 5 1 false, 3, true, 3, some [.int .u8 0, .int .u8 0, .int .u8 0]⟩),
  (53, ⟨.slice 5 1, 1, false, 24, some [.slice none 0 0]⟩),
  (55, ⟨.other, 1, false, 8, some [.nilFunc]⟩),
  (56, ⟨.other, 1, false, 8, some [.nilFunc]⟩),
  (57, ⟨.map 50 3, 1, false, 8, some [.map none]⟩),
  (58, ⟨.slice 22 1, 1, false, 24, some [.slice none 0 0]⟩),
  (63, ⟨.array 11 5 1 false, 11, true, 11, some (List.replicate 11 (.int .u8 0))⟩),
  (67, ⟨.array 13 5 1 false, 13, true, 13, some (List.replicate 13 (.int .u8 0))⟩),
  (68, ⟨.int .u64, 1, false, 8, some [.int .u64 0]⟩)]
theorem ttOk : TTok Tryd.prog tt :=
  .cons (tiOk (by kernel_rfl) (fun z h => by cases h; done) (by kernel_rfl)) (
  .cons (tiOk (by kernel_rfl) (fun z h => by cases h; kernel_rfl) (by kernel_rfl)) (
  .cons (tiOk (by kernel_rfl) (fun z h => by cases h; kernel_rfl) (by kernel_rfl)) (
  .cons (tiOk (by kernel_rfl) (fun z h => by cases h; kernel_rfl) (by kernel_rfl)) (
  .cons (tiOk (by kernel_rfl) (fun z h => by cases h; kernel_rfl) (by kernel_rfl)) (
  .cons (tiOk (by kernel_rfl) (fun z h => by cases h; kernel_rfl) (by kernel_rfl)) (
  .cons (tiOk (by kernel_rfl) (fun z h => by cases h; kernel_rfl) (by kernel_rfl)) (
  .cons (tiOk (by kernel_rfl) (fun z h => by cases h; kernel_rfl) (by kernel_rfl)) (
  .cons (tiOk (by kernel_rfl) (fun z h => by cases h; kernel_rfl) (by kernel_rfl)) (
  .cons (tiOk (by kernel_rfl) (fun z h => by cases h; kernel_rfl) (by kernel_rfl)) (
  .cons (tiOk (by kernel_rfl) (fun z h => by cases h; kernel_rfl) (by kernel_rfl)) (
  .cons (tiOk (by kernel_rfl) (fun z h => by cases h; done) (by kernel_rfl)) (
  .cons (tiOk (by kernel_rfl) (fun z h => by cases h; kernel_rfl) (by kernel_rfl)) (
  .cons (tiOk (by kernel_rfl) (fun z h => by cases h; kernel_rfl) (by kernel_rfl)) (
  .cons (tiOk (by kernel_rfl) (fun z h => by cases h; kernel_rfl) (by kernel_rfl)) (
  .cons (tiOk (by kernel_rfl) (fun z h => by cases h; kernel_rfl) (by kernel_rfl)) (
  .cons (tiOk (by kernel_rfl) (fun z h => by cases h; kernel_rfl) (by kernel_rfl)) (
  .cons (tiOk (by kernel_rfl) (fun z h => by cases h; kernel_rfl) (by kernel_rfl)) (
  .cons (tiOk (by kernel_rfl) (fun z h => by cases h; kernel_rfl) (by kernel_rfl)) (
  .cons (tiOk (by kernel_rfl) (fun z h => by cases h; kernel_rfl) (by kernel_rfl)) (
  .cons (tiOk (by kernel_rfl) (fun z h => by cases h; kernel_rfl) (by kernel_rfl)) (
  .cons (tiOk (by kernel_rfl) (fun z h => by cases h; kernel_rfl) (by kernel_rfl)) (
  .cons (tiOk (by kernel_rfl) (fun z h => by cases h; kernel_rfl) (by kernel_rfl)) (
  .nil)))))))))))))))))))))))
theorem called : callB Tryd.prog 3 38 = true := by kernel_rfl
theorem mixed : Tryd.prog.follows .mixedOrders = true := by kernel_rfl
@[reducible] noncomputable def sg (n : Nat) : Sig := ⟨Tryd.prog, tt, n, 3, 38, none⟩
theorem sgOk (n : Nat) : SigOk (sg n) := ⟨fun t i h => ttOk.get t i h, callOk called, mixed⟩
end Go.Proofs.YtflljnnndmkfkaaDoor
