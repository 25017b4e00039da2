/- Contracts: msg.Less. Messages as data: the table of classes in memory. Contracts: known, Class, queue. Plain: the order of byte strings, and the order of messages by a key. Contracts: the comparison of a sort of messages (Sort$1). Plain: the messages that may be delivered next. Plain: what the law NetNext rests upon. Plain: the canonical order of messages, and when two lists have the same one. A slice of messages of the call's own, from a lower bound on. Contracts: Sort, Same, Count at messages. Law22: Bytes, Key, Same. Law22: Key, Same. Plain: the least key of all that differ by a permutation that keeps the program. Contracts: the least key. Contracts: the law of the least key. Law23: readings opened: the parts of any reading, and the sizes. Law23: readings opened: worlds. Law23: the condition of a row gives what the walks need of a world; a world that meets it. -/
import Derived.Test.YthgmcegmgjoafaaGreatDoorY6
import Derived.Test.YthgmcegmgjoafaaGreatDoorY2
import Derived.Test.YthgmcegmgjoafaaGreatDoorY1
import Derived.Test.YthgmcegmgjoafaaGreatDoorYKSig
import Derived.Test.YthgmcegmgjoafaaGreatDoorY5
import Derived.Test.YthgmcegmgjoafaaGreatDoorY4
import Derived.Test.YthgmcegmgjoafaaGreatDoorRows
import Derived.ProofKit
import Derived.OpenShut
import Derived.LaidLaws
import Derived.Below
import Derived.HandedShaped
import Derived.KernelRfl
import Derived.WalkKit
import Derived.ChangeOld
import Derived.SevenTiedAt
import Derived.LaidHandle
import Derived.Stop.LaidErr
import Derived.Lib.LaidTab
import Derived.SizedLaws
set_option linter.unusedSimpArgs false
set_option linter.unusedVariables false
namespace Go.Proofs.YthgmcegmgjoafaaGreatDoor
open Go.Vc Go.RowKit Go.Sei
theorem Less_c (a b : Msg) (w : World) : Calls Tryz.prog 104 #[a.val, b.val] w fun e w' => e = .returned (.bool (decide (cmpL (codeOf a) (codeOf b) < 0))) ∧ Below w.heap.size w w' := by
  refine calls_of_M (S := sg 15) (sgOk _) (args := [a.val, b.val]) (.s .p (.c .p .p)) Tryz.func104 rfl rfl (Nat.le_of_ble_eq_true rfl) rfl ?_
  have hb1 : Below w.heap.size w ((w.alloc (.cells a.val.cells 53)).alloc (.cells b.val.cells 53)) := ((Below.refl _ _).alloc (Nat.le_refl _) _).alloc (by simp) _
  have c1 := cells_block (hold (.cells b.val.cells 53) (hnew w (.cells a.val.cells 53)))
  have c2 := cells_block (hnew (w.alloc (.cells a.val.cells 53)) (.cells b.val.cells 53))
  refine ⟨Nat × Nat, fun s => ⟨[(5, .pointer (some ⟨s.1, 0, none⟩)), (6, .pointer (some ⟨s.2, 0, none⟩))], []⟩,
    fun s V => V.heap[s.1]? = some (.cells ((codeOf a).map u8).toArray 260 (0, 0)) ∧ V.heap[s.2]? = some (.cells ((codeOf b).map u8).toArray 260 (0, 0)) ∧ Below w.heap.size w V, ?_, ?_⟩
  rotate_left
  · rintro ⟨g, k⟩ V ⟨f1, f2, hb⟩
    have hb' := hb.drew
    have f1' := hdr f1
    have f2' := hdr f2
    refine DrawE.ord [] [0, 1, 2, 3, 4] (by kernel_rfl) ?_
    refine Calls.mono (CompareL_c _ _ _ _ (codeOf a) (codeOf b) _ (bytes_row f1') (bytes_row f2') (Nat.le_of_ble_eq_true rfl)) ?_
    rintro _ _ ⟨rfl, rfl⟩
    refine ⟨Below.refl _ _, ?_⟩
    exact And.intro rfl hb'
  refine DrawE.tree [6, 7] (.op 0 (.op 2 (.alt (.op 1 (.alt (.op 3 (.alt (.op 4 (.op 5 (.op 6 (.op 7 (.nil))))) (.op 5 (.op 4 (.op 6 (.op 7 (.nil))))))) (.alt (.op 4 (.alt (.op 3 (.op 5 (.op 6 (.op 7 (.nil))))) (.op 5 (.op 3 (.op 6 (.op 7 (.nil))))))) (.op 5 (.alt (.op 3 (.op 4 (.op 6 (.op 7 (.nil))))) (.op 4 (.op 3 (.op 6 (.op 7 (.nil)))))))))) (.alt (.op 4 (.alt (.op 1 (.alt (.op 3 (.op 5 (.op 6 (.op 7 (.nil))))) (.op 5 (.op 3 (.op 6 (.op 7 (.nil))))))) (.op 5 (.op 1 (.op 3 (.op 6 (.op 7 (.nil)))))))) (.op 5 (.alt (.op 1 (.alt (.op 3 (.op 4 (.op 6 (.op 7 (.nil))))) (.op 4 (.op 3 (.op 6 (.op 7 (.nil))))))) (.op 4 (.op 1 (.op 3 (.op 6 (.op 7 (.nil)))))))))))) (by kernel_rfl) ?_
  obtain ⟨W, hW⟩ : ∃ W, W = ((w.alloc (.cells a.val.cells 53)).alloc (.cells b.val.cells 53)).drew := ⟨_, rfl⟩
  have hbW : Below w.heap.size w W := hW ▸ hb1.drew
  rw [← hW]
  refine ⟨a.enc, rfl, by rw [hW]; exact c1, by rw [hW]; simp [World.drew]; omega, ?_⟩
  refine ⟨b.enc, rfl, by rw [hW]; exact c2, by rw [hW]; simp [World.drew], ?_⟩
  clear hW c1 c2 hb1
  refine And.intro ?_ ?_
  · refine Calls.mono (code_c a _) ?_
    rintro _ V1 ⟨rfl, hb1⟩
    refine ⟨hb1, ?_⟩
    have hw1 := hbW.trans (hb1.mono hbW.size)
    refine And.intro ?_ ?_
    · refine Calls.mono (code_c b _) ?_
      rintro _ V2 ⟨rfl, hb2⟩
      refine ⟨hb2, ?_⟩
      have hw2 := hw1.trans (hb2.mono hw1.size)
      refine And.intro ?_ ?_
      · have hb3 : Below V2.heap.size V2 (V2.alloc (.cells #[.int .u8 0, .int .u8 0, .int .u8 0, .int .u8 0, .int .u8 0, .int .u8 0, .int .u8 0, .int .u8 0, .int .u8 0, .int .u8 0, .int .u8 0] 260)) := (Below.refl _ _).alloc (Nat.le_refl _) _
        refine ⟨hb3, ?_⟩
        have hw3 := hw2.trans (hb3.mono hw2.size)
        have hx3 := hnew V2 (.cells #[.int .u8 0, .int .u8 0, .int .u8 0, .int .u8 0, .int .u8 0, .int .u8 0, .int .u8 0, .int .u8 0, .int .u8 0, .int .u8 0, .int .u8 0] 260)
        have lhx := hw2.size
        have hb4 : Below (V2.alloc (.cells #[.int .u8 0, .int .u8 0, .int .u8 0, .int .u8 0, .int .u8 0, .int .u8 0, .int .u8 0, .int .u8 0, .int .u8 0, .int .u8 0, .int .u8 0] 260)).heap.size (V2.alloc (.cells #[.int .u8 0, .int .u8 0, .int .u8 0, .int .u8 0, .int .u8 0, .int .u8 0, .int .u8 0, .int .u8 0, .int .u8 0, .int .u8 0, .int .u8 0] 260)) ((V2.alloc (.cells #[.int .u8 0, .int .u8 0, .int .u8 0, .int .u8 0, .int .u8 0, .int .u8 0, .int .u8 0, .int .u8 0, .int .u8 0, .int .u8 0, .int .u8 0] 260)).alloc (.cells #[.int .u8 0, .int .u8 0, .int .u8 0, .int .u8 0, .int .u8 0, .int .u8 0, .int .u8 0, .int .u8 0, .int .u8 0, .int .u8 0, .int .u8 0] 260)) := (Below.refl _ _).alloc (Nat.le_refl _) _
        refine ⟨hb4, ?_⟩
        have hw4 := hw3.trans (hb4.mono hw3.size)
        have hlt12 : V2.heap.size < (V2.alloc (.cells #[.int .u8 0, .int .u8 0, .int .u8 0, .int .u8 0, .int .u8 0, .int .u8 0, .int .u8 0, .int .u8 0, .int .u8 0, .int .u8 0, .int .u8 0] 260)).heap.size := hlt hx3
        have hx4 := block_below hb4 hx3
        have hy4 := hnew (V2.alloc (.cells #[.int .u8 0, .int .u8 0, .int .u8 0, .int .u8 0, .int .u8 0, .int .u8 0, .int .u8 0, .int .u8 0, .int .u8 0, .int .u8 0, .int .u8 0] 260)) (.cells #[.int .u8 0, .int .u8 0, .int .u8 0, .int .u8 0, .int .u8 0, .int .u8 0, .int .u8 0, .int .u8 0, .int .u8 0, .int .u8 0, .int .u8 0] 260)
        have lhy := hw3.size
        have hne : V2.heap.size ≠ (V2.alloc (.cells #[.int .u8 0, .int .u8 0, .int .u8 0, .int .u8 0, .int .u8 0, .int .u8 0, .int .u8 0, .int .u8 0, .int .u8 0, .int .u8 0, .int .u8 0] 260)).heap.size := Nat.ne_of_lt hlt12
        refine store_box (v := .agg ((codeOf a).map u8).toArray) (ttOk.get 260 _ rfl) hx4 (by rfl) rfl (by rfl) ?_
        refine store_box (v := .agg ((codeOf b).map u8).toArray) (ttOk.get 260 _ rfl) ((setRow_old (Ne.symm hne)).trans hy4) (by rfl) rfl (by rfl) ?_
        refine ⟨(V2.heap.size, (V2.alloc (.cells #[.int .u8 0, .int .u8 0, .int .u8 0, .int .u8 0, .int .u8 0, .int .u8 0, .int .u8 0, .int .u8 0, .int .u8 0, .int .u8 0, .int .u8 0] 260)).heap.size), ⟨.cons rfl (.cons rfl .nil), rfl⟩, (setRow_old hne).trans (setRow_new hx4), setRow_new ((setRow_old (Ne.symm hne)).trans hy4), ?_⟩
        exact below_setRow (below_setRow hw4 lhx _) lhy _
      · have hb3 : Below V2.heap.size V2 (V2.alloc (.cells #[.int .u8 0, .int .u8 0, .int .u8 0, .int .u8 0, .int .u8 0, .int .u8 0, .int .u8 0, .int .u8 0, .int .u8 0, .int .u8 0, .int .u8 0] 260)) := (Below.refl _ _).alloc (Nat.le_refl _) _
        refine ⟨hb3, ?_⟩
        have hw3 := hw2.trans (hb3.mono hw2.size)
        have hy3 := hnew V2 (.cells #[.int .u8 0, .int .u8 0, .int .u8 0, .int .u8 0, .int .u8 0, .int .u8 0, .int .u8 0, .int .u8 0, .int .u8 0, .int .u8 0, .int .u8 0] 260)
        have lhy := hw2.size
        have hb4 : Below (V2.alloc (.cells #[.int .u8 0, .int .u8 0, .int .u8 0, .int .u8 0, .int .u8 0, .int .u8 0, .int .u8 0, .int .u8 0, .int .u8 0, .int .u8 0, .int .u8 0] 260)).heap.size (V2.alloc (.cells #[.int .u8 0, .int .u8 0, .int .u8 0, .int .u8 0, .int .u8 0, .int .u8 0, .int .u8 0, .int .u8 0, .int .u8 0, .int .u8 0, .int .u8 0] 260)) ((V2.alloc (.cells #[.int .u8 0, .int .u8 0, .int .u8 0, .int .u8 0, .int .u8 0, .int .u8 0, .int .u8 0, .int .u8 0, .int .u8 0, .int .u8 0, .int .u8 0] 260)).alloc (.cells #[.int .u8 0, .int .u8 0, .int .u8 0, .int .u8 0, .int .u8 0, .int .u8 0, .int .u8 0, .int .u8 0, .int .u8 0, .int .u8 0, .int .u8 0] 260)) := (Below.refl _ _).alloc (Nat.le_refl _) _
        refine ⟨hb4, ?_⟩
        have hw4 := hw3.trans (hb4.mono hw3.size)
        have hlt12 : V2.heap.size < (V2.alloc (.cells #[.int .u8 0, .int .u8 0, .int .u8 0, .int .u8 0, .int .u8 0, .int .u8 0, .int .u8 0, .int .u8 0, .int .u8 0, .int .u8 0, .int .u8 0] 260)).heap.size := hlt hy3
        have hy4 := block_below hb4 hy3
        have hx4 := hnew (V2.alloc (.cells #[.int .u8 0, .int .u8 0, .int .u8 0, .int .u8 0, .int .u8 0, .int .u8 0, .int .u8 0, .int .u8 0, .int .u8 0, .int .u8 0, .int .u8 0] 260)) (.cells #[.int .u8 0, .int .u8 0, .int .u8 0, .int .u8 0, .int .u8 0, .int .u8 0, .int .u8 0, .int .u8 0, .int .u8 0, .int .u8 0, .int .u8 0] 260)
        have lhx := hw3.size
        have hne : (V2.alloc (.cells #[.int .u8 0, .int .u8 0, .int .u8 0, .int .u8 0, .int .u8 0, .int .u8 0, .int .u8 0, .int .u8 0, .int .u8 0, .int .u8 0, .int .u8 0] 260)).heap.size ≠ V2.heap.size := (Nat.ne_of_lt hlt12).symm
        refine store_box (v := .agg ((codeOf a).map u8).toArray) (ttOk.get 260 _ rfl) hx4 (by rfl) rfl (by rfl) ?_
        refine store_box (v := .agg ((codeOf b).map u8).toArray) (ttOk.get 260 _ rfl) ((setRow_old (Ne.symm hne)).trans hy4) (by rfl) rfl (by rfl) ?_
        refine ⟨((V2.alloc (.cells #[.int .u8 0, .int .u8 0, .int .u8 0, .int .u8 0, .int .u8 0, .int .u8 0, .int .u8 0, .int .u8 0, .int .u8 0, .int .u8 0, .int .u8 0] 260)).heap.size, V2.heap.size), ⟨.cons rfl (.cons rfl .nil), rfl⟩, (setRow_old hne).trans (setRow_new hx4), setRow_new ((setRow_old (Ne.symm hne)).trans hy4), ?_⟩
        exact below_setRow (below_setRow hw4 lhx _) lhy _
    · refine And.intro ?_ ?_
      · have hb2 : Below V1.heap.size V1 (V1.alloc (.cells #[.int .u8 0, .int .u8 0, .int .u8 0, .int .u8 0, .int .u8 0, .int .u8 0, .int .u8 0, .int .u8 0, .int .u8 0, .int .u8 0, .int .u8 0] 260)) := (Below.refl _ _).alloc (Nat.le_refl _) _
        refine ⟨hb2, ?_⟩
        have hw2 := hw1.trans (hb2.mono hw1.size)
        have hx2 := hnew V1 (.cells #[.int .u8 0, .int .u8 0, .int .u8 0, .int .u8 0, .int .u8 0, .int .u8 0, .int .u8 0, .int .u8 0, .int .u8 0, .int .u8 0, .int .u8 0] 260)
        have lhx := hw1.size
        refine And.intro ?_ ?_
        · refine Calls.mono (code_c b _) ?_
          rintro _ V3 ⟨rfl, hb3⟩
          refine ⟨hb3, ?_⟩
          have hw3 := hw2.trans (hb3.mono hw2.size)
          have hx3 := block_below hb3 hx2
          have hb4 : Below V3.heap.size V3 (V3.alloc (.cells #[.int .u8 0, .int .u8 0, .int .u8 0, .int .u8 0, .int .u8 0, .int .u8 0, .int .u8 0, .int .u8 0, .int .u8 0, .int .u8 0, .int .u8 0] 260)) := (Below.refl _ _).alloc (Nat.le_refl _) _
          refine ⟨hb4, ?_⟩
          have hw4 := hw3.trans (hb4.mono hw3.size)
          have hlt12 : V1.heap.size < V3.heap.size := hlt hx3
          have hx4 := block_below hb4 hx3
          have hy4 := hnew V3 (.cells #[.int .u8 0, .int .u8 0, .int .u8 0, .int .u8 0, .int .u8 0, .int .u8 0, .int .u8 0, .int .u8 0, .int .u8 0, .int .u8 0, .int .u8 0] 260)
          have lhy := hw3.size
          have hne : V1.heap.size ≠ V3.heap.size := Nat.ne_of_lt hlt12
          refine store_box (v := .agg ((codeOf a).map u8).toArray) (ttOk.get 260 _ rfl) hx4 (by rfl) rfl (by rfl) ?_
          refine store_box (v := .agg ((codeOf b).map u8).toArray) (ttOk.get 260 _ rfl) ((setRow_old (Ne.symm hne)).trans hy4) (by rfl) rfl (by rfl) ?_
          refine ⟨(V1.heap.size, V3.heap.size), ⟨.cons rfl (.cons rfl .nil), rfl⟩, (setRow_old hne).trans (setRow_new hx4), setRow_new ((setRow_old (Ne.symm hne)).trans hy4), ?_⟩
          exact below_setRow (below_setRow hw4 lhx _) lhy _
        · have hb3 : Below (V1.alloc (.cells #[.int .u8 0, .int .u8 0, .int .u8 0, .int .u8 0, .int .u8 0, .int .u8 0, .int .u8 0, .int .u8 0, .int .u8 0, .int .u8 0, .int .u8 0] 260)).heap.size (V1.alloc (.cells #[.int .u8 0, .int .u8 0, .int .u8 0, .int .u8 0, .int .u8 0, .int .u8 0, .int .u8 0, .int .u8 0, .int .u8 0, .int .u8 0, .int .u8 0] 260)) ((V1.alloc (.cells #[.int .u8 0, .int .u8 0, .int .u8 0, .int .u8 0, .int .u8 0, .int .u8 0, .int .u8 0, .int .u8 0, .int .u8 0, .int .u8 0, .int .u8 0] 260)).alloc (.cells #[.int .u8 0, .int .u8 0, .int .u8 0, .int .u8 0, .int .u8 0, .int .u8 0, .int .u8 0, .int .u8 0, .int .u8 0, .int .u8 0, .int .u8 0] 260)) := (Below.refl _ _).alloc (Nat.le_refl _) _
          refine ⟨hb3, ?_⟩
          have hw3 := hw2.trans (hb3.mono hw2.size)
          have hlt12 : V1.heap.size < (V1.alloc (.cells #[.int .u8 0, .int .u8 0, .int .u8 0, .int .u8 0, .int .u8 0, .int .u8 0, .int .u8 0, .int .u8 0, .int .u8 0, .int .u8 0, .int .u8 0] 260)).heap.size := hlt hx2
          have hx3 := block_below hb3 hx2
          have hy3 := hnew (V1.alloc (.cells #[.int .u8 0, .int .u8 0, .int .u8 0, .int .u8 0, .int .u8 0, .int .u8 0, .int .u8 0, .int .u8 0, .int .u8 0, .int .u8 0, .int .u8 0] 260)) (.cells #[.int .u8 0, .int .u8 0, .int .u8 0, .int .u8 0, .int .u8 0, .int .u8 0, .int .u8 0, .int .u8 0, .int .u8 0, .int .u8 0, .int .u8 0] 260)
          have lhy := hw2.size
          refine Calls.mono (code_c b _) ?_
          rintro _ V4 ⟨rfl, hb4⟩
          refine ⟨hb4, ?_⟩
          have hw4 := hw3.trans (hb4.mono hw3.size)
          have hx4 := block_below hb4 hx3
          have hy4 := block_below hb4 hy3
          have hne : V1.heap.size ≠ (V1.alloc (.cells #[.int .u8 0, .int .u8 0, .int .u8 0, .int .u8 0, .int .u8 0, .int .u8 0, .int .u8 0, .int .u8 0, .int .u8 0, .int .u8 0, .int .u8 0] 260)).heap.size := Nat.ne_of_lt hlt12
          refine store_box (v := .agg ((codeOf a).map u8).toArray) (ttOk.get 260 _ rfl) hx4 (by rfl) rfl (by rfl) ?_
          refine store_box (v := .agg ((codeOf b).map u8).toArray) (ttOk.get 260 _ rfl) ((setRow_old (Ne.symm hne)).trans hy4) (by rfl) rfl (by rfl) ?_
          refine ⟨(V1.heap.size, (V1.alloc (.cells #[.int .u8 0, .int .u8 0, .int .u8 0, .int .u8 0, .int .u8 0, .int .u8 0, .int .u8 0, .int .u8 0, .int .u8 0, .int .u8 0, .int .u8 0] 260)).heap.size), ⟨.cons rfl (.cons rfl .nil), rfl⟩, (setRow_old hne).trans (setRow_new hx4), setRow_new ((setRow_old (Ne.symm hne)).trans hy4), ?_⟩
          exact below_setRow (below_setRow hw4 lhx _) lhy _
      · have hb2 : Below V1.heap.size V1 (V1.alloc (.cells #[.int .u8 0, .int .u8 0, .int .u8 0, .int .u8 0, .int .u8 0, .int .u8 0, .int .u8 0, .int .u8 0, .int .u8 0, .int .u8 0, .int .u8 0] 260)) := (Below.refl _ _).alloc (Nat.le_refl _) _
        refine ⟨hb2, ?_⟩
        have hw2 := hw1.trans (hb2.mono hw1.size)
        have hy2 := hnew V1 (.cells #[.int .u8 0, .int .u8 0, .int .u8 0, .int .u8 0, .int .u8 0, .int .u8 0, .int .u8 0, .int .u8 0, .int .u8 0, .int .u8 0, .int .u8 0] 260)
        have lhy := hw1.size
        refine And.intro ?_ ?_
        · refine Calls.mono (code_c b _) ?_
          rintro _ V3 ⟨rfl, hb3⟩
          refine ⟨hb3, ?_⟩
          have hw3 := hw2.trans (hb3.mono hw2.size)
          have hy3 := block_below hb3 hy2
          have hb4 : Below V3.heap.size V3 (V3.alloc (.cells #[.int .u8 0, .int .u8 0, .int .u8 0, .int .u8 0, .int .u8 0, .int .u8 0, .int .u8 0, .int .u8 0, .int .u8 0, .int .u8 0, .int .u8 0] 260)) := (Below.refl _ _).alloc (Nat.le_refl _) _
          refine ⟨hb4, ?_⟩
          have hw4 := hw3.trans (hb4.mono hw3.size)
          have hlt12 : V1.heap.size < V3.heap.size := hlt hy3
          have hy4 := block_below hb4 hy3
          have hx4 := hnew V3 (.cells #[.int .u8 0, .int .u8 0, .int .u8 0, .int .u8 0, .int .u8 0, .int .u8 0, .int .u8 0, .int .u8 0, .int .u8 0, .int .u8 0, .int .u8 0] 260)
          have lhx := hw3.size
          have hne : V3.heap.size ≠ V1.heap.size := (Nat.ne_of_lt hlt12).symm
          refine store_box (v := .agg ((codeOf a).map u8).toArray) (ttOk.get 260 _ rfl) hx4 (by rfl) rfl (by rfl) ?_
          refine store_box (v := .agg ((codeOf b).map u8).toArray) (ttOk.get 260 _ rfl) ((setRow_old (Ne.symm hne)).trans hy4) (by rfl) rfl (by rfl) ?_
          refine ⟨(V3.heap.size, V1.heap.size), ⟨.cons rfl (.cons rfl .nil), rfl⟩, (setRow_old hne).trans (setRow_new hx4), setRow_new ((setRow_old (Ne.symm hne)).trans hy4), ?_⟩
          exact below_setRow (below_setRow hw4 lhx _) lhy _
        · have hb3 : Below (V1.alloc (.cells #[.int .u8 0, .int .u8 0, .int .u8 0, .int .u8 0, .int .u8 0, .int .u8 0, .int .u8 0, .int .u8 0, .int .u8 0, .int .u8 0, .int .u8 0] 260)).heap.size (V1.alloc (.cells #[.int .u8 0, .int .u8 0, .int .u8 0, .int .u8 0, .int .u8 0, .int .u8 0, .int .u8 0, .int .u8 0, .int .u8 0, .int .u8 0, .int .u8 0] 260)) ((V1.alloc (.cells #[.int .u8 0, .int .u8 0, .int .u8 0, .int .u8 0, .int .u8 0, .int .u8 0, .int .u8 0, .int .u8 0, .int .u8 0, .int .u8 0, .int .u8 0] 260)).alloc (.cells #[.int .u8 0, .int .u8 0, .int .u8 0, .int .u8 0, .int .u8 0, .int .u8 0, .int .u8 0, .int .u8 0, .int .u8 0, .int .u8 0, .int .u8 0] 260)) := (Below.refl _ _).alloc (Nat.le_refl _) _
          refine ⟨hb3, ?_⟩
          have hw3 := hw2.trans (hb3.mono hw2.size)
          have hlt12 : V1.heap.size < (V1.alloc (.cells #[.int .u8 0, .int .u8 0, .int .u8 0, .int .u8 0, .int .u8 0, .int .u8 0, .int .u8 0, .int .u8 0, .int .u8 0, .int .u8 0, .int .u8 0] 260)).heap.size := hlt hy2
          have hy3 := block_below hb3 hy2
          have hx3 := hnew (V1.alloc (.cells #[.int .u8 0, .int .u8 0, .int .u8 0, .int .u8 0, .int .u8 0, .int .u8 0, .int .u8 0, .int .u8 0, .int .u8 0, .int .u8 0, .int .u8 0] 260)) (.cells #[.int .u8 0, .int .u8 0, .int .u8 0, .int .u8 0, .int .u8 0, .int .u8 0, .int .u8 0, .int .u8 0, .int .u8 0, .int .u8 0, .int .u8 0] 260)
          have lhx := hw2.size
          refine Calls.mono (code_c b _) ?_
          rintro _ V4 ⟨rfl, hb4⟩
          refine ⟨hb4, ?_⟩
          have hw4 := hw3.trans (hb4.mono hw3.size)
          have hy4 := block_below hb4 hy3
          have hx4 := block_below hb4 hx3
          have hne : (V1.alloc (.cells #[.int .u8 0, .int .u8 0, .int .u8 0, .int .u8 0, .int .u8 0, .int .u8 0, .int .u8 0, .int .u8 0, .int .u8 0, .int .u8 0, .int .u8 0] 260)).heap.size ≠ V1.heap.size := (Nat.ne_of_lt hlt12).symm
          refine store_box (v := .agg ((codeOf a).map u8).toArray) (ttOk.get 260 _ rfl) hx4 (by rfl) rfl (by rfl) ?_
          refine store_box (v := .agg ((codeOf b).map u8).toArray) (ttOk.get 260 _ rfl) ((setRow_old (Ne.symm hne)).trans hy4) (by rfl) rfl (by rfl) ?_
          refine ⟨((V1.alloc (.cells #[.int .u8 0, .int .u8 0, .int .u8 0, .int .u8 0, .int .u8 0, .int .u8 0, .int .u8 0, .int .u8 0, .int .u8 0, .int .u8 0, .int .u8 0] 260)).heap.size, V1.heap.size), ⟨.cons rfl (.cons rfl .nil), rfl⟩, (setRow_old hne).trans (setRow_new hx4), setRow_new ((setRow_old (Ne.symm hne)).trans hy4), ?_⟩
          exact below_setRow (below_setRow hw4 lhx _) lhy _
  · refine And.intro ?_ ?_
    · have hb1 : Below W.heap.size W (W.alloc (.cells #[.int .u8 0, .int .u8 0, .int .u8 0, .int .u8 0, .int .u8 0, .int .u8 0, .int .u8 0, .int .u8 0, .int .u8 0, .int .u8 0, .int .u8 0] 260)) := (Below.refl _ _).alloc (Nat.le_refl _) _
      refine ⟨hb1, ?_⟩
      have hw1 := hbW.trans (hb1.mono hbW.size)
      have hx1 := hnew W (.cells #[.int .u8 0, .int .u8 0, .int .u8 0, .int .u8 0, .int .u8 0, .int .u8 0, .int .u8 0, .int .u8 0, .int .u8 0, .int .u8 0, .int .u8 0] 260)
      have lhx := hbW.size
      refine And.intro ?_ ?_
      · refine Calls.mono (code_c a _) ?_
        rintro _ V2 ⟨rfl, hb2⟩
        refine ⟨hb2, ?_⟩
        have hw2 := hw1.trans (hb2.mono hw1.size)
        have hx2 := block_below hb2 hx1
        refine And.intro ?_ ?_
        · refine Calls.mono (code_c b _) ?_
          rintro _ V3 ⟨rfl, hb3⟩
          refine ⟨hb3, ?_⟩
          have hw3 := hw2.trans (hb3.mono hw2.size)
          have hx3 := block_below hb3 hx2
          have hb4 : Below V3.heap.size V3 (V3.alloc (.cells #[.int .u8 0, .int .u8 0, .int .u8 0, .int .u8 0, .int .u8 0, .int .u8 0, .int .u8 0, .int .u8 0, .int .u8 0, .int .u8 0, .int .u8 0] 260)) := (Below.refl _ _).alloc (Nat.le_refl _) _
          refine ⟨hb4, ?_⟩
          have hw4 := hw3.trans (hb4.mono hw3.size)
          have hlt12 : W.heap.size < V3.heap.size := hlt hx3
          have hx4 := block_below hb4 hx3
          have hy4 := hnew V3 (.cells #[.int .u8 0, .int .u8 0, .int .u8 0, .int .u8 0, .int .u8 0, .int .u8 0, .int .u8 0, .int .u8 0, .int .u8 0, .int .u8 0, .int .u8 0] 260)
          have lhy := hw3.size
          have hne : W.heap.size ≠ V3.heap.size := Nat.ne_of_lt hlt12
          refine store_box (v := .agg ((codeOf a).map u8).toArray) (ttOk.get 260 _ rfl) hx4 (by rfl) rfl (by rfl) ?_
          refine store_box (v := .agg ((codeOf b).map u8).toArray) (ttOk.get 260 _ rfl) ((setRow_old (Ne.symm hne)).trans hy4) (by rfl) rfl (by rfl) ?_
          refine ⟨(W.heap.size, V3.heap.size), ⟨.cons rfl (.cons rfl .nil), rfl⟩, (setRow_old hne).trans (setRow_new hx4), setRow_new ((setRow_old (Ne.symm hne)).trans hy4), ?_⟩
          exact below_setRow (below_setRow hw4 lhx _) lhy _
        · have hb3 : Below V2.heap.size V2 (V2.alloc (.cells #[.int .u8 0, .int .u8 0, .int .u8 0, .int .u8 0, .int .u8 0, .int .u8 0, .int .u8 0, .int .u8 0, .int .u8 0, .int .u8 0, .int .u8 0] 260)) := (Below.refl _ _).alloc (Nat.le_refl _) _
          refine ⟨hb3, ?_⟩
          have hw3 := hw2.trans (hb3.mono hw2.size)
          have hlt12 : W.heap.size < V2.heap.size := hlt hx2
          have hx3 := block_below hb3 hx2
          have hy3 := hnew V2 (.cells #[.int .u8 0, .int .u8 0, .int .u8 0, .int .u8 0, .int .u8 0, .int .u8 0, .int .u8 0, .int .u8 0, .int .u8 0, .int .u8 0, .int .u8 0] 260)
          have lhy := hw2.size
          refine Calls.mono (code_c b _) ?_
          rintro _ V4 ⟨rfl, hb4⟩
          refine ⟨hb4, ?_⟩
          have hw4 := hw3.trans (hb4.mono hw3.size)
          have hx4 := block_below hb4 hx3
          have hy4 := block_below hb4 hy3
          have hne : W.heap.size ≠ V2.heap.size := Nat.ne_of_lt hlt12
          refine store_box (v := .agg ((codeOf a).map u8).toArray) (ttOk.get 260 _ rfl) hx4 (by rfl) rfl (by rfl) ?_
          refine store_box (v := .agg ((codeOf b).map u8).toArray) (ttOk.get 260 _ rfl) ((setRow_old (Ne.symm hne)).trans hy4) (by rfl) rfl (by rfl) ?_
          refine ⟨(W.heap.size, V2.heap.size), ⟨.cons rfl (.cons rfl .nil), rfl⟩, (setRow_old hne).trans (setRow_new hx4), setRow_new ((setRow_old (Ne.symm hne)).trans hy4), ?_⟩
          exact below_setRow (below_setRow hw4 lhx _) lhy _
      · have hb2 : Below (W.alloc (.cells #[.int .u8 0, .int .u8 0, .int .u8 0, .int .u8 0, .int .u8 0, .int .u8 0, .int .u8 0, .int .u8 0, .int .u8 0, .int .u8 0, .int .u8 0] 260)).heap.size (W.alloc (.cells #[.int .u8 0, .int .u8 0, .int .u8 0, .int .u8 0, .int .u8 0, .int .u8 0, .int .u8 0, .int .u8 0, .int .u8 0, .int .u8 0, .int .u8 0] 260)) ((W.alloc (.cells #[.int .u8 0, .int .u8 0, .int .u8 0, .int .u8 0, .int .u8 0, .int .u8 0, .int .u8 0, .int .u8 0, .int .u8 0, .int .u8 0, .int .u8 0] 260)).alloc (.cells #[.int .u8 0, .int .u8 0, .int .u8 0, .int .u8 0, .int .u8 0, .int .u8 0, .int .u8 0, .int .u8 0, .int .u8 0, .int .u8 0, .int .u8 0] 260)) := (Below.refl _ _).alloc (Nat.le_refl _) _
        refine ⟨hb2, ?_⟩
        have hw2 := hw1.trans (hb2.mono hw1.size)
        have hlt12 : W.heap.size < (W.alloc (.cells #[.int .u8 0, .int .u8 0, .int .u8 0, .int .u8 0, .int .u8 0, .int .u8 0, .int .u8 0, .int .u8 0, .int .u8 0, .int .u8 0, .int .u8 0] 260)).heap.size := hlt hx1
        have hx2 := block_below hb2 hx1
        have hy2 := hnew (W.alloc (.cells #[.int .u8 0, .int .u8 0, .int .u8 0, .int .u8 0, .int .u8 0, .int .u8 0, .int .u8 0, .int .u8 0, .int .u8 0, .int .u8 0, .int .u8 0] 260)) (.cells #[.int .u8 0, .int .u8 0, .int .u8 0, .int .u8 0, .int .u8 0, .int .u8 0, .int .u8 0, .int .u8 0, .int .u8 0, .int .u8 0, .int .u8 0] 260)
        have lhy := hw1.size
        refine Calls.mono (code_c a _) ?_
        rintro _ V3 ⟨rfl, hb3⟩
        refine ⟨hb3, ?_⟩
        have hw3 := hw2.trans (hb3.mono hw2.size)
        have hx3 := block_below hb3 hx2
        have hy3 := block_below hb3 hy2
        refine Calls.mono (code_c b _) ?_
        rintro _ V4 ⟨rfl, hb4⟩
        refine ⟨hb4, ?_⟩
        have hw4 := hw3.trans (hb4.mono hw3.size)
        have hx4 := block_below hb4 hx3
        have hy4 := block_below hb4 hy3
        have hne : W.heap.size ≠ (W.alloc (.cells #[.int .u8 0, .int .u8 0, .int .u8 0, .int .u8 0, .int .u8 0, .int .u8 0, .int .u8 0, .int .u8 0, .int .u8 0, .int .u8 0, .int .u8 0] 260)).heap.size := Nat.ne_of_lt hlt12
        refine store_box (v := .agg ((codeOf a).map u8).toArray) (ttOk.get 260 _ rfl) hx4 (by rfl) rfl (by rfl) ?_
        refine store_box (v := .agg ((codeOf b).map u8).toArray) (ttOk.get 260 _ rfl) ((setRow_old (Ne.symm hne)).trans hy4) (by rfl) rfl (by rfl) ?_
        refine ⟨(W.heap.size, (W.alloc (.cells #[.int .u8 0, .int .u8 0, .int .u8 0, .int .u8 0, .int .u8 0, .int .u8 0, .int .u8 0, .int .u8 0, .int .u8 0, .int .u8 0, .int .u8 0] 260)).heap.size), ⟨.cons rfl (.cons rfl .nil), rfl⟩, (setRow_old hne).trans (setRow_new hx4), setRow_new ((setRow_old (Ne.symm hne)).trans hy4), ?_⟩
        exact below_setRow (below_setRow hw4 lhx _) lhy _
    · have hb1 : Below W.heap.size W (W.alloc (.cells #[.int .u8 0, .int .u8 0, .int .u8 0, .int .u8 0, .int .u8 0, .int .u8 0, .int .u8 0, .int .u8 0, .int .u8 0, .int .u8 0, .int .u8 0] 260)) := (Below.refl _ _).alloc (Nat.le_refl _) _
      refine ⟨hb1, ?_⟩
      have hw1 := hbW.trans (hb1.mono hbW.size)
      have hy1 := hnew W (.cells #[.int .u8 0, .int .u8 0, .int .u8 0, .int .u8 0, .int .u8 0, .int .u8 0, .int .u8 0, .int .u8 0, .int .u8 0, .int .u8 0, .int .u8 0] 260)
      have lhy := hbW.size
      refine And.intro ?_ ?_
      · refine Calls.mono (code_c a _) ?_
        rintro _ V2 ⟨rfl, hb2⟩
        refine ⟨hb2, ?_⟩
        have hw2 := hw1.trans (hb2.mono hw1.size)
        have hy2 := block_below hb2 hy1
        refine And.intro ?_ ?_
        · refine Calls.mono (code_c b _) ?_
          rintro _ V3 ⟨rfl, hb3⟩
          refine ⟨hb3, ?_⟩
          have hw3 := hw2.trans (hb3.mono hw2.size)
          have hy3 := block_below hb3 hy2
          have hb4 : Below V3.heap.size V3 (V3.alloc (.cells #[.int .u8 0, .int .u8 0, .int .u8 0, .int .u8 0, .int .u8 0, .int .u8 0, .int .u8 0, .int .u8 0, .int .u8 0, .int .u8 0, .int .u8 0] 260)) := (Below.refl _ _).alloc (Nat.le_refl _) _
          refine ⟨hb4, ?_⟩
          have hw4 := hw3.trans (hb4.mono hw3.size)
          have hlt12 : W.heap.size < V3.heap.size := hlt hy3
          have hy4 := block_below hb4 hy3
          have hx4 := hnew V3 (.cells #[.int .u8 0, .int .u8 0, .int .u8 0, .int .u8 0, .int .u8 0, .int .u8 0, .int .u8 0, .int .u8 0, .int .u8 0, .int .u8 0, .int .u8 0] 260)
          have lhx := hw3.size
          have hne : V3.heap.size ≠ W.heap.size := (Nat.ne_of_lt hlt12).symm
          refine store_box (v := .agg ((codeOf a).map u8).toArray) (ttOk.get 260 _ rfl) hx4 (by rfl) rfl (by rfl) ?_
          refine store_box (v := .agg ((codeOf b).map u8).toArray) (ttOk.get 260 _ rfl) ((setRow_old (Ne.symm hne)).trans hy4) (by rfl) rfl (by rfl) ?_
          refine ⟨(V3.heap.size, W.heap.size), ⟨.cons rfl (.cons rfl .nil), rfl⟩, (setRow_old hne).trans (setRow_new hx4), setRow_new ((setRow_old (Ne.symm hne)).trans hy4), ?_⟩
          exact below_setRow (below_setRow hw4 lhx _) lhy _
        · have hb3 : Below V2.heap.size V2 (V2.alloc (.cells #[.int .u8 0, .int .u8 0, .int .u8 0, .int .u8 0, .int .u8 0, .int .u8 0, .int .u8 0, .int .u8 0, .int .u8 0, .int .u8 0, .int .u8 0] 260)) := (Below.refl _ _).alloc (Nat.le_refl _) _
          refine ⟨hb3, ?_⟩
          have hw3 := hw2.trans (hb3.mono hw2.size)
          have hlt12 : W.heap.size < V2.heap.size := hlt hy2
          have hy3 := block_below hb3 hy2
          have hx3 := hnew V2 (.cells #[.int .u8 0, .int .u8 0, .int .u8 0, .int .u8 0, .int .u8 0, .int .u8 0, .int .u8 0, .int .u8 0, .int .u8 0, .int .u8 0, .int .u8 0] 260)
          have lhx := hw2.size
          refine Calls.mono (code_c b _) ?_
          rintro _ V4 ⟨rfl, hb4⟩
          refine ⟨hb4, ?_⟩
          have hw4 := hw3.trans (hb4.mono hw3.size)
          have hy4 := block_below hb4 hy3
          have hx4 := block_below hb4 hx3
          have hne : V2.heap.size ≠ W.heap.size := (Nat.ne_of_lt hlt12).symm
          refine store_box (v := .agg ((codeOf a).map u8).toArray) (ttOk.get 260 _ rfl) hx4 (by rfl) rfl (by rfl) ?_
          refine store_box (v := .agg ((codeOf b).map u8).toArray) (ttOk.get 260 _ rfl) ((setRow_old (Ne.symm hne)).trans hy4) (by rfl) rfl (by rfl) ?_
          refine ⟨(V2.heap.size, W.heap.size), ⟨.cons rfl (.cons rfl .nil), rfl⟩, (setRow_old hne).trans (setRow_new hx4), setRow_new ((setRow_old (Ne.symm hne)).trans hy4), ?_⟩
          exact below_setRow (below_setRow hw4 lhx _) lhy _
      · have hb2 : Below (W.alloc (.cells #[.int .u8 0, .int .u8 0, .int .u8 0, .int .u8 0, .int .u8 0, .int .u8 0, .int .u8 0, .int .u8 0, .int .u8 0, .int .u8 0, .int .u8 0] 260)).heap.size (W.alloc (.cells #[.int .u8 0, .int .u8 0, .int .u8 0, .int .u8 0, .int .u8 0, .int .u8 0, .int .u8 0, .int .u8 0, .int .u8 0, .int .u8 0, .int .u8 0] 260)) ((W.alloc (.cells #[.int .u8 0, .int .u8 0, .int .u8 0, .int .u8 0, .int .u8 0, .int .u8 0, .int .u8 0, .int .u8 0, .int .u8 0, .int .u8 0, .int .u8 0] 260)).alloc (.cells #[.int .u8 0, .int .u8 0, .int .u8 0, .int .u8 0, .int .u8 0, .int .u8 0, .int .u8 0, .int .u8 0, .int .u8 0, .int .u8 0, .int .u8 0] 260)) := (Below.refl _ _).alloc (Nat.le_refl _) _
        refine ⟨hb2, ?_⟩
        have hw2 := hw1.trans (hb2.mono hw1.size)
        have hlt12 : W.heap.size < (W.alloc (.cells #[.int .u8 0, .int .u8 0, .int .u8 0, .int .u8 0, .int .u8 0, .int .u8 0, .int .u8 0, .int .u8 0, .int .u8 0, .int .u8 0, .int .u8 0] 260)).heap.size := hlt hy1
        have hy2 := block_below hb2 hy1
        have hx2 := hnew (W.alloc (.cells #[.int .u8 0, .int .u8 0, .int .u8 0, .int .u8 0, .int .u8 0, .int .u8 0, .int .u8 0, .int .u8 0, .int .u8 0, .int .u8 0, .int .u8 0] 260)) (.cells #[.int .u8 0, .int .u8 0, .int .u8 0, .int .u8 0, .int .u8 0, .int .u8 0, .int .u8 0, .int .u8 0, .int .u8 0, .int .u8 0, .int .u8 0] 260)
        have lhx := hw1.size
        refine Calls.mono (code_c a _) ?_
        rintro _ V3 ⟨rfl, hb3⟩
        refine ⟨hb3, ?_⟩
        have hw3 := hw2.trans (hb3.mono hw2.size)
        have hy3 := block_below hb3 hy2
        have hx3 := block_below hb3 hx2
        refine Calls.mono (code_c b _) ?_
        rintro _ V4 ⟨rfl, hb4⟩
        refine ⟨hb4, ?_⟩
        have hw4 := hw3.trans (hb4.mono hw3.size)
        have hy4 := block_below hb4 hy3
        have hx4 := block_below hb4 hx3
        have hne : (W.alloc (.cells #[.int .u8 0, .int .u8 0, .int .u8 0, .int .u8 0, .int .u8 0, .int .u8 0, .int .u8 0, .int .u8 0, .int .u8 0, .int .u8 0, .int .u8 0] 260)).heap.size ≠ W.heap.size := (Nat.ne_of_lt hlt12).symm
        refine store_box (v := .agg ((codeOf a).map u8).toArray) (ttOk.get 260 _ rfl) hx4 (by rfl) rfl (by rfl) ?_
        refine store_box (v := .agg ((codeOf b).map u8).toArray) (ttOk.get 260 _ rfl) ((setRow_old (Ne.symm hne)).trans hy4) (by rfl) rfl (by rfl) ?_
        refine ⟨((W.alloc (.cells #[.int .u8 0, .int .u8 0, .int .u8 0, .int .u8 0, .int .u8 0, .int .u8 0, .int .u8 0, .int .u8 0, .int .u8 0, .int .u8 0, .int .u8 0] 260)).heap.size, W.heap.size), ⟨.cons rfl (.cons rfl .nil), rfl⟩, (setRow_old hne).trans (setRow_new hx4), setRow_new ((setRow_old (Ne.symm hne)).trans hy4), ?_⟩
        exact below_setRow (below_setRow hw4 lhx _) lhy _
end Go.Proofs.YthgmcegmgjoafaaGreatDoor
namespace Go.Sei
open Go.Vc
def Glob (w : World) : Prop := Cells w ⟨1, 0, none⟩ (classes.map u8)
theorem Glob.below {w w2 : World} (h : Glob w) (hb : Go.RowKit.Below w.heap.size w w2) : Glob w2 := cells_below hb h
end Go.Sei
namespace Go.Proofs.YthgmcegmgjoafaaGreatDoor
open Go.Vc Go.RowKit Go.Sei
theorem known_c (m : UInt8) (w : World) : Calls Tryz.prog 54 #[u8 m] w fun e w' => e = .returned (.bool (knownB m)) ∧ w = w' := by
  refine calls_of_E (S := sg 9) (sgOk _) (args := [u8 m]) Tryz.func54 rfl rfl (Nat.le_of_ble_eq_true rfl) rfl ?_
  refine And.intro (fun h => ?_) (fun h => ?_)
  · exact And.intro (rb (by unfold knownB; rw [h]; rfl)) rfl
  · exact And.intro (rb (by unfold knownB; rw [h]; rfl)) rfl
theorem Class_c (k : UInt8) (w : World) (hg : Glob w) : Calls Tryz.prog 11 #[u8 k] w fun e w' => e = .returned (u8 (classOf k)) ∧ w = w' := by
  refine calls_of_E (S := sg 9) (sgOk _) (args := [u8 k]) Tryz.func11 rfl rfl (Nat.le_of_ble_eq_true rfl) rfl ?_
  refine ⟨_, wrap_u8_i64 k, ?_⟩
  refine And.intro (fun h => ?_) (fun h => ?_)
  · have h := of_decide_eq_true h
    refine And.intro ?_ rfl
    have : classOf k = 0 := by
      unfold classOf
      rw [List.getD_eq_getElem?_getD, List.getElem?_eq_none (by simp only [classes, List.length_cons, List.length_nil]; omega)]; rfl
    rw [this]; rfl
  · have h := of_decide_eq_false h
    refine ⟨k.toNat, rfl, by omega, ?_⟩
    have hk : (classes.map u8)[k.toNat]? = some (u8 (classOf k)) := by
      have hl : k.toNat < classes.length := by simp only [classes, List.length_cons, List.length_nil]; omega
      rw [List.getElem?_map, List.getElem?_eq_getElem hl]
      simp only [classOf, List.getD_eq_getElem?_getD, List.getElem?_eq_getElem hl, Option.map_some, Option.getD_some]
    have := cells_at hg hk
    refine ⟨_, by rw [Nat.mul_one]; exact this, ?_⟩
    exact And.intro rfl rfl
theorem queue_c (m : Msg) (mode : UInt8) (w : World) (hg : Glob w) : Calls Tryz.prog 99 #[m.val, u8 mode] w fun e w' => e = .returned (.agg (qcells (queue m mode)).toArray) ∧ Below w.heap.size w w' := by
  refine calls_of_E (S := sg 20) (sgOk _) (args := [m.val, u8 mode]) Tryz.func99 rfl rfl (Nat.le_of_ble_eq_true rfl) rfl ?_
  have hb1 : Below w.heap.size w ((w.alloc (.cells m.val.cells 53)).alloc (.cells #[.int .u8 0, .int .u8 0, .int .u8 0] 194)) := ((Below.refl _ _).alloc (Nat.le_refl _) _).alloc (by simp) _
  have f1 := hold (.cells #[.int .u8 0, .int .u8 0, .int .u8 0] 194) (hnew w (.cells m.val.cells 53))
  have f2 := hnew (w.alloc (.cells m.val.cells 53)) (.cells #[.int .u8 0, .int .u8 0, .int .u8 0] 194)
  have c1 := cells_block f1
  refine And.intro (fun h => ?_) (fun h => ?_)
  · have h := of_decide_eq_true h
    have h3 : mode = 3 := u8_eq.1 h
    refine DrawE.ord [8] [0, 1, 2, 3, 4, 5, 6, 7, 8] (by kernel_rfl) ?_
    refine ⟨_, cells_at c1 (i := 1) rfl, ?_⟩
    refine ⟨_, cells_at c1 (i := 2) rfl, ?_⟩
    refine ⟨_, cells_at c1 (i := 0) rfl, ?_⟩
    refine Calls.mono (Class_c m.kind _ (hg.below hb1.drew)) ?_
    rintro e w' ⟨rfl, rfl⟩
    refine ⟨Below.refl _ _, ?_⟩
    refine ⟨[u8 m.from_, u8 m.to, u8 (classOf m.kind)], rfl, ?_⟩
    refine store_box (ttOk.get 194 _ rfl) (hdr f2) (by rfl) rfl (by rfl) ?_
    refine ⟨[u8 m.from_, u8 m.to, u8 (classOf m.kind)], rfl, cells_block (setRow_new (hdr f2)), And.intro ?_ (below_setRow hb1.drew (by simp) _)⟩
    simp only [queue, h3, if_true]
    rfl
  · have h := of_decide_eq_false h
    have h3 : ¬ mode = 3 := fun e => h (u8_eq.2 e)
    refine ⟨_, cells_at c1 (i := 1) rfl, ?_⟩
    refine ⟨_, cells_at c1 (i := 2) rfl, ?_⟩
    refine ⟨[u8 m.from_, u8 m.to, u8 0], rfl, ?_⟩
    refine store_box (ttOk.get 194 _ rfl) f2 (by rfl) rfl (by rfl) ?_
    refine ⟨[u8 m.from_, u8 m.to, u8 0], rfl, cells_block (setRow_new f2), And.intro ?_ (below_setRow hb1 (by simp) _)⟩
    simp only [queue, h3, if_false]
    rfl
end Go.Proofs.YthgmcegmgjoafaaGreatDoor
namespace Go.Proofs.YthgmcegmgjoafaaGreatDoor
open Go.Vc Go.RowKit Go.Sei
theorem cmp8_lt {x y : UInt8} : cmp8 x y < 0 ↔ x.toNat < y.toNat := by
  unfold cmp8; split
  · simp_all
  · split
    · simp; omega
    · simp; omega
theorem cmpL_self : ∀ l, cmpL l l = 0
  | [] => rfl
  | x :: r => by rw [cmpL, if_pos rfl]; exact cmpL_self r
theorem cmpL_lt_cons {x y : UInt8} {r s : List UInt8} : cmpL (x :: r) (y :: s) < 0 ↔ x.toNat < y.toNat ∨ (x = y ∧ cmpL r s < 0) := by
  rw [cmpL]; split
  · rename_i h; subst h; simp
  · rename_i h
    rw [cmp8_lt]; simp [h]
theorem cmpL_total : ∀ l1 l2, cmpL l1 l2 < 0 ∨ cmpL l2 l1 < 0 ∨ l1 = l2
  | [], [] => by simp
  | [], _ :: _ => .inl (by simp [cmpL])
  | _ :: _, [] => .inr (.inl (by simp [cmpL]))
  | x :: r, y :: s => by
    rw [cmpL_lt_cons, cmpL_lt_cons]
    rcases Nat.lt_trichotomy x.toNat y.toNat with h | h | h
    · exact .inl (.inl h)
    · have e : x = y := UInt8.toNat_inj.1 h
      subst e
      rcases cmpL_total r s with h | h | h
      · exact .inl (.inr ⟨rfl, h⟩)
      · exact .inr (.inl (.inr ⟨rfl, h⟩))
      · exact .inr (.inr (by rw [h]))
    · exact .inr (.inl (.inl h))
theorem cmpL_trans : ∀ l1 l2 l3, cmpL l1 l2 < 0 → cmpL l2 l3 < 0 → cmpL l1 l3 < 0
  | [], [], _, h, _ => by simp [cmpL] at h
  | _ :: _, [], _, h, _ => by simp [cmpL] at h
  | [], _ :: _, [], _, h => by simp [cmpL] at h
  | [], _ :: _, _ :: _, _, _ => by simp [cmpL]
  | _ :: _, _ :: _, [], _, h => by simp [cmpL] at h
  | x :: r, y :: s, z :: t, h1, h2 => by
    rw [cmpL_lt_cons] at *
    rcases h1 with h1 | ⟨rfl, h1⟩
    · rcases h2 with h2 | ⟨rfl, h2⟩
      · exact .inl (by omega)
      · exact .inl h1
    · rcases h2 with h2 | ⟨rfl, h2⟩
      · exact .inl h2
      · exact .inr ⟨rfl, cmpL_trans r s t h1 h2⟩
def keyO (key : Msg → List UInt8) : MOrd Msg where
  lt a b := decide (cmpL (key a) (key b) < 0)
  irr a := by rw [cmpL_self]; rfl
  trans a b c h1 h2 := decide_eq_true (cmpL_trans _ _ _ (of_decide_eq_true h1) (of_decide_eq_true h2))
  neg a b c h1 h2 := by
    have h1 := of_decide_eq_false h1
    have h2 := of_decide_eq_false h2
    refine decide_eq_false fun h => ?_
    rcases cmpL_total (key a) (key b) with k | k | k
    · exact h1 k
    · rcases cmpL_total (key b) (key c) with q | q | q
      · exact h2 q
      · have := cmpL_trans _ _ _ (cmpL_trans _ _ _ h q) k
        rw [cmpL_self] at this; cases this
      · rw [← q] at h; exact h1 (by have := cmpL_trans _ _ _ h k; rw [cmpL_self] at this; cases this)
    · rw [k] at h; exact h2 h
theorem codeOf_inj {a b : Msg} (h : codeOf a = codeOf b) : a = b := by
  obtain ⟨a0, a1, a2, a3, a4, a5, a6, a7, a8, a9, a10⟩ := a
  obtain ⟨b0, b1, b2, b3, b4, b5, b6, b7, b8, b9, b10⟩ := b
  simp only [codeOf, List.cons.injEq, and_true] at h
  obtain ⟨rfl, rfl, rfl, rfl, rfl, rfl, h, rfl, rfl, rfl, rfl⟩ := h
  have : a6 = b6 := by cases a6 <;> cases b6 <;> simp at h ⊢
  rw [this]
def qbs (mode : UInt8) (m : Msg) : List UInt8 := [(queue m mode).1, (queue m mode).2.1, (queue m mode).2.2]
def mkey (mode : UInt8) (m : Msg) : List UInt8 := if mode = 1 then codeOf m else qbs mode m
end Go.Proofs.YthgmcegmgjoafaaGreatDoor
namespace Go.Proofs.YthgmcegmgjoafaaGreatDoor
open Go.Vc Go.RowKit Go.Sei
def Good (gm : Nat) (mode : UInt8) (X : World) : Prop := X.heap[gm]? = some (.cells #[u8 mode] 5 (0, 0)) ∧ Glob X ∧ 1 < X.heap.size
theorem queue_k (m : Msg) (mode : UInt8) (w : World) (hg : Glob w) : Calls Tryz.prog 99 #[m.val, u8 mode] w fun e w' => e = .returned (.agg ((qbs mode m).map u8).toArray) ∧ Below w.heap.size w w' :=
  (queue_c m mode w hg).mono fun _ _ h => h
theorem Cmp_c (gm : Nat) (mode : UInt8) (m n : Msg) (w : World) (hG : Good gm mode w) :
    Calls Tryz.prog 102 ([m.val, n.val] ++ (#[.pointer (some ⟨gm, 0, none⟩)] : Array Value).toList).toArray w fun e w' => ∃ v : Int, e = .returned (.int .i64 v) ∧ decide (v < 0) = (keyO (mkey mode)).lt m n ∧ Below w.heap.size w w' := by
  obtain ⟨hm, hg, _⟩ := hG
  refine calls_of_M (S := sg 25) (sgOk _) (args := [m.val, n.val, .pointer (some ⟨gm, 0, none⟩)]) (.c .p (.s (.s .p (.d (.c .p .p) .p)) .p)) Tryz.func102 rfl rfl (Nat.le_of_ble_eq_true rfl) rfl ?_
  refine ⟨Nat × Nat, fun s => ⟨[(2, .pointer (some ⟨gm, 0, none⟩)), (3, .pointer (some ⟨s.1, 0, none⟩)), (4, .pointer (some ⟨s.2, 0, none⟩)), (5, .int .i64 0)], []⟩,
    fun s V => V.heap[s.1]? = some (.cells m.val.cells 53 (0, 0)) ∧ V.heap[s.2]? = some (.cells n.val.cells 53 (0, 0)) ∧ Below w.heap.size w V, ?_, ?_⟩
  · exact ⟨(w.heap.size, (w.alloc (.cells m.val.cells 53)).heap.size), ⟨.cons rfl (.cons rfl (.cons rfl (.cons rfl .nil))), rfl⟩, hold (.cells n.val.cells 53) (hnew w (.cells m.val.cells 53)), hnew (w.alloc (.cells m.val.cells 53)) (.cells n.val.cells 53), ((Below.refl _ _).alloc (Nat.le_refl _) _).alloc (by simp) _⟩
  rintro ⟨q1, q2⟩ W ⟨f1, f2, hb1⟩
  have hm1 := block_below hb1 hm
  have hg1 := hg.below hb1
  refine ⟨_, cells_head (cells_block hm1), ?_⟩
  refine And.intro (fun h => ?_) (fun h => ?_)
  · have h : mode ≠ 1 := fun e => by subst e; simp at h
    refine ⟨Nat × Nat, fun s => ⟨[(6, .pointer (some ⟨s.1, 0, none⟩)), (7, .pointer (some ⟨s.2, 0, none⟩))], []⟩,
      fun s V => V.heap[s.1]? = some (.cells ((qbs mode m).map u8).toArray 194 (0, 0)) ∧ V.heap[s.2]? = some (.cells ((qbs mode n).map u8).toArray 194 (0, 0)) ∧ Below w.heap.size w V, ?_, ?_⟩
    rotate_left
    · rintro ⟨g, k⟩ V ⟨f1, f2, hb⟩
      have hb' := hb.drew
      have f1' := hdr f1
      have f2' := hdr f2
      refine DrawE.ord [] [0, 1, 2, 3] (by kernel_rfl) ?_
      refine Calls.mono (CompareL_c _ _ _ _ (qbs mode m) (qbs mode n) _ (bytes_row f1') (bytes_row f2') (Nat.le_of_ble_eq_true rfl)) ?_
      rintro _ _ ⟨rfl, rfl⟩
      refine ⟨Below.refl _ _, ?_⟩
      exact ⟨_, rfl, by simp only [keyO, mkey, if_neg h], hb'⟩
    refine DrawE.treeQ [8, 9] (.op 0 (.op 1 (.op 3 (.op 4 (.alt (.op 2 (.alt (.op 5 (.alt (.op 6 (.op 7 (.op 8 (.op 9 (.nil))))) (.op 7 (.op 6 (.op 8 (.op 9 (.nil))))))) (.alt (.op 6 (.alt (.op 5 (.op 7 (.op 8 (.op 9 (.nil))))) (.op 7 (.op 5 (.op 8 (.op 9 (.nil))))))) (.op 7 (.alt (.op 5 (.op 6 (.op 8 (.op 9 (.nil))))) (.op 6 (.op 5 (.op 8 (.op 9 (.nil)))))))))) (.alt (.op 6 (.alt (.op 2 (.alt (.op 5 (.op 7 (.op 8 (.op 9 (.nil))))) (.op 7 (.op 5 (.op 8 (.op 9 (.nil))))))) (.op 7 (.op 2 (.op 5 (.op 8 (.op 9 (.nil)))))))) (.op 7 (.alt (.op 2 (.alt (.op 5 (.op 6 (.op 8 (.op 9 (.nil))))) (.op 6 (.op 5 (.op 8 (.op 9 (.nil))))))) (.op 6 (.op 2 (.op 5 (.op 8 (.op 9 (.nil)))))))))))))) (by kernel_rfl) ?_
    have hG0 := hdr hm1
    have hw0 := hb1.drew
    have hg0 : Glob W.drew := hg1
    have f1 := hdr f1
    have f2 := hdr f2
    have hqq1 := hlt f1
    have hqq2 := hlt f2
    refine ⟨m.enc, rfl, cells_block f1, hqq1, ?_⟩
    refine ⟨_, cells_head (cells_block hG0), ?_⟩
    refine ⟨n.enc, rfl, cells_block f2, hqq2, ?_⟩
    refine ⟨_, cells_head (cells_block hG0), ?_⟩
    have hqm := hqq1
    have hqn := hqq2
    refine And.intro ?_ ?_
    · refine Calls.mono (queue_k m mode _ hg0) ?_
      rintro _ V1 ⟨rfl, hb1⟩
      refine ⟨hb1, ?_⟩
      have hw1 := hw0.trans (hb1.mono hw0.size)
      have hg1 := hg0.below hb1
      refine And.intro ?_ ?_
      · refine Calls.mono (queue_k n mode _ hg1) ?_
        rintro _ V2 ⟨rfl, hb2⟩
        refine ⟨hb2, ?_⟩
        have hw2 := hw1.trans (hb2.mono hw1.size)
        have hg2 := hg1.below hb2
        refine And.intro ?_ ?_
        · have hb3 : Below V2.heap.size V2 (V2.alloc (.cells #[.int .u8 0, .int .u8 0, .int .u8 0] 194)) := (Below.refl _ _).alloc (Nat.le_refl _) _
          refine ⟨hb3, ?_⟩
          have hw3 := hw2.trans (hb3.mono hw2.size)
          have hg3 := hg2.below hb3
          have hx3 := hnew V2 (.cells #[.int .u8 0, .int .u8 0, .int .u8 0] 194)
          have lhx := hw2.size
          have hb4 : Below (V2.alloc (.cells #[.int .u8 0, .int .u8 0, .int .u8 0] 194)).heap.size (V2.alloc (.cells #[.int .u8 0, .int .u8 0, .int .u8 0] 194)) ((V2.alloc (.cells #[.int .u8 0, .int .u8 0, .int .u8 0] 194)).alloc (.cells #[.int .u8 0, .int .u8 0, .int .u8 0] 194)) := (Below.refl _ _).alloc (Nat.le_refl _) _
          refine ⟨hb4, ?_⟩
          have hw4 := hw3.trans (hb4.mono hw3.size)
          have hg4 := hg3.below hb4
          have hlt12 : V2.heap.size < (V2.alloc (.cells #[.int .u8 0, .int .u8 0, .int .u8 0] 194)).heap.size := hlt hx3
          have hx4 := block_below hb4 hx3
          have hy4 := hnew (V2.alloc (.cells #[.int .u8 0, .int .u8 0, .int .u8 0] 194)) (.cells #[.int .u8 0, .int .u8 0, .int .u8 0] 194)
          have lhy := hw3.size
          have hne : V2.heap.size ≠ (V2.alloc (.cells #[.int .u8 0, .int .u8 0, .int .u8 0] 194)).heap.size := Nat.ne_of_lt hlt12
          refine store_box (v := .agg ((qbs mode m).map u8).toArray) (ttOk.get 194 _ rfl) hx4 (by rfl) rfl (by rfl) ?_
          refine store_box (v := .agg ((qbs mode n).map u8).toArray) (ttOk.get 194 _ rfl) ((setRow_old (Ne.symm hne)).trans hy4) (by rfl) rfl (by rfl) ?_
          refine ⟨(V2.heap.size, (V2.alloc (.cells #[.int .u8 0, .int .u8 0, .int .u8 0] 194)).heap.size), ⟨.cons rfl (.cons rfl .nil), rfl⟩, (setRow_old hne).trans (setRow_new hx4), setRow_new ((setRow_old (Ne.symm hne)).trans hy4), ?_⟩
          exact below_setRow (below_setRow hw4 lhx _) lhy _
        · have hb3 : Below V2.heap.size V2 (V2.alloc (.cells #[.int .u8 0, .int .u8 0, .int .u8 0] 194)) := (Below.refl _ _).alloc (Nat.le_refl _) _
          refine ⟨hb3, ?_⟩
          have hw3 := hw2.trans (hb3.mono hw2.size)
          have hg3 := hg2.below hb3
          have hy3 := hnew V2 (.cells #[.int .u8 0, .int .u8 0, .int .u8 0] 194)
          have lhy := hw2.size
          have hb4 : Below (V2.alloc (.cells #[.int .u8 0, .int .u8 0, .int .u8 0] 194)).heap.size (V2.alloc (.cells #[.int .u8 0, .int .u8 0, .int .u8 0] 194)) ((V2.alloc (.cells #[.int .u8 0, .int .u8 0, .int .u8 0] 194)).alloc (.cells #[.int .u8 0, .int .u8 0, .int .u8 0] 194)) := (Below.refl _ _).alloc (Nat.le_refl _) _
          refine ⟨hb4, ?_⟩
          have hw4 := hw3.trans (hb4.mono hw3.size)
          have hg4 := hg3.below hb4
          have hlt12 : V2.heap.size < (V2.alloc (.cells #[.int .u8 0, .int .u8 0, .int .u8 0] 194)).heap.size := hlt hy3
          have hy4 := block_below hb4 hy3
          have hx4 := hnew (V2.alloc (.cells #[.int .u8 0, .int .u8 0, .int .u8 0] 194)) (.cells #[.int .u8 0, .int .u8 0, .int .u8 0] 194)
          have lhx := hw3.size
          have hne : (V2.alloc (.cells #[.int .u8 0, .int .u8 0, .int .u8 0] 194)).heap.size ≠ V2.heap.size := (Nat.ne_of_lt hlt12).symm
          refine store_box (v := .agg ((qbs mode m).map u8).toArray) (ttOk.get 194 _ rfl) hx4 (by rfl) rfl (by rfl) ?_
          refine store_box (v := .agg ((qbs mode n).map u8).toArray) (ttOk.get 194 _ rfl) ((setRow_old (Ne.symm hne)).trans hy4) (by rfl) rfl (by rfl) ?_
          refine ⟨((V2.alloc (.cells #[.int .u8 0, .int .u8 0, .int .u8 0] 194)).heap.size, V2.heap.size), ⟨.cons rfl (.cons rfl .nil), rfl⟩, (setRow_old hne).trans (setRow_new hx4), setRow_new ((setRow_old (Ne.symm hne)).trans hy4), ?_⟩
          exact below_setRow (below_setRow hw4 lhx _) lhy _
      · refine And.intro ?_ ?_
        · have hb2 : Below V1.heap.size V1 (V1.alloc (.cells #[.int .u8 0, .int .u8 0, .int .u8 0] 194)) := (Below.refl _ _).alloc (Nat.le_refl _) _
          refine ⟨hb2, ?_⟩
          have hw2 := hw1.trans (hb2.mono hw1.size)
          have hg2 := hg1.below hb2
          have hx2 := hnew V1 (.cells #[.int .u8 0, .int .u8 0, .int .u8 0] 194)
          have lhx := hw1.size
          refine And.intro ?_ ?_
          · refine Calls.mono (queue_k n mode _ hg2) ?_
            rintro _ V3 ⟨rfl, hb3⟩
            refine ⟨hb3, ?_⟩
            have hw3 := hw2.trans (hb3.mono hw2.size)
            have hg3 := hg2.below hb3
            have hx3 := block_below hb3 hx2
            have hb4 : Below V3.heap.size V3 (V3.alloc (.cells #[.int .u8 0, .int .u8 0, .int .u8 0] 194)) := (Below.refl _ _).alloc (Nat.le_refl _) _
            refine ⟨hb4, ?_⟩
            have hw4 := hw3.trans (hb4.mono hw3.size)
            have hg4 := hg3.below hb4
            have hlt12 : V1.heap.size < V3.heap.size := hlt hx3
            have hx4 := block_below hb4 hx3
            have hy4 := hnew V3 (.cells #[.int .u8 0, .int .u8 0, .int .u8 0] 194)
            have lhy := hw3.size
            have hne : V1.heap.size ≠ V3.heap.size := Nat.ne_of_lt hlt12
            refine store_box (v := .agg ((qbs mode m).map u8).toArray) (ttOk.get 194 _ rfl) hx4 (by rfl) rfl (by rfl) ?_
            refine store_box (v := .agg ((qbs mode n).map u8).toArray) (ttOk.get 194 _ rfl) ((setRow_old (Ne.symm hne)).trans hy4) (by rfl) rfl (by rfl) ?_
            refine ⟨(V1.heap.size, V3.heap.size), ⟨.cons rfl (.cons rfl .nil), rfl⟩, (setRow_old hne).trans (setRow_new hx4), setRow_new ((setRow_old (Ne.symm hne)).trans hy4), ?_⟩
            exact below_setRow (below_setRow hw4 lhx _) lhy _
          · have hb3 : Below (V1.alloc (.cells #[.int .u8 0, .int .u8 0, .int .u8 0] 194)).heap.size (V1.alloc (.cells #[.int .u8 0, .int .u8 0, .int .u8 0] 194)) ((V1.alloc (.cells #[.int .u8 0, .int .u8 0, .int .u8 0] 194)).alloc (.cells #[.int .u8 0, .int .u8 0, .int .u8 0] 194)) := (Below.refl _ _).alloc (Nat.le_refl _) _
            refine ⟨hb3, ?_⟩
            have hw3 := hw2.trans (hb3.mono hw2.size)
            have hg3 := hg2.below hb3
            have hlt12 : V1.heap.size < (V1.alloc (.cells #[.int .u8 0, .int .u8 0, .int .u8 0] 194)).heap.size := hlt hx2
            have hx3 := block_below hb3 hx2
            have hy3 := hnew (V1.alloc (.cells #[.int .u8 0, .int .u8 0, .int .u8 0] 194)) (.cells #[.int .u8 0, .int .u8 0, .int .u8 0] 194)
            have lhy := hw2.size
            refine Calls.mono (queue_k n mode _ hg3) ?_
            rintro _ V4 ⟨rfl, hb4⟩
            refine ⟨hb4, ?_⟩
            have hw4 := hw3.trans (hb4.mono hw3.size)
            have hg4 := hg3.below hb4
            have hx4 := block_below hb4 hx3
            have hy4 := block_below hb4 hy3
            have hne : V1.heap.size ≠ (V1.alloc (.cells #[.int .u8 0, .int .u8 0, .int .u8 0] 194)).heap.size := Nat.ne_of_lt hlt12
            refine store_box (v := .agg ((qbs mode m).map u8).toArray) (ttOk.get 194 _ rfl) hx4 (by rfl) rfl (by rfl) ?_
            refine store_box (v := .agg ((qbs mode n).map u8).toArray) (ttOk.get 194 _ rfl) ((setRow_old (Ne.symm hne)).trans hy4) (by rfl) rfl (by rfl) ?_
            refine ⟨(V1.heap.size, (V1.alloc (.cells #[.int .u8 0, .int .u8 0, .int .u8 0] 194)).heap.size), ⟨.cons rfl (.cons rfl .nil), rfl⟩, (setRow_old hne).trans (setRow_new hx4), setRow_new ((setRow_old (Ne.symm hne)).trans hy4), ?_⟩
            exact below_setRow (below_setRow hw4 lhx _) lhy _
        · have hb2 : Below V1.heap.size V1 (V1.alloc (.cells #[.int .u8 0, .int .u8 0, .int .u8 0] 194)) := (Below.refl _ _).alloc (Nat.le_refl _) _
          refine ⟨hb2, ?_⟩
          have hw2 := hw1.trans (hb2.mono hw1.size)
          have hg2 := hg1.below hb2
          have hy2 := hnew V1 (.cells #[.int .u8 0, .int .u8 0, .int .u8 0] 194)
          have lhy := hw1.size
          refine And.intro ?_ ?_
          · refine Calls.mono (queue_k n mode _ hg2) ?_
            rintro _ V3 ⟨rfl, hb3⟩
            refine ⟨hb3, ?_⟩
            have hw3 := hw2.trans (hb3.mono hw2.size)
            have hg3 := hg2.below hb3
            have hy3 := block_below hb3 hy2
            have hb4 : Below V3.heap.size V3 (V3.alloc (.cells #[.int .u8 0, .int .u8 0, .int .u8 0] 194)) := (Below.refl _ _).alloc (Nat.le_refl _) _
            refine ⟨hb4, ?_⟩
            have hw4 := hw3.trans (hb4.mono hw3.size)
            have hg4 := hg3.below hb4
            have hlt12 : V1.heap.size < V3.heap.size := hlt hy3
            have hy4 := block_below hb4 hy3
            have hx4 := hnew V3 (.cells #[.int .u8 0, .int .u8 0, .int .u8 0] 194)
            have lhx := hw3.size
            have hne : V3.heap.size ≠ V1.heap.size := (Nat.ne_of_lt hlt12).symm
            refine store_box (v := .agg ((qbs mode m).map u8).toArray) (ttOk.get 194 _ rfl) hx4 (by rfl) rfl (by rfl) ?_
            refine store_box (v := .agg ((qbs mode n).map u8).toArray) (ttOk.get 194 _ rfl) ((setRow_old (Ne.symm hne)).trans hy4) (by rfl) rfl (by rfl) ?_
            refine ⟨(V3.heap.size, V1.heap.size), ⟨.cons rfl (.cons rfl .nil), rfl⟩, (setRow_old hne).trans (setRow_new hx4), setRow_new ((setRow_old (Ne.symm hne)).trans hy4), ?_⟩
            exact below_setRow (below_setRow hw4 lhx _) lhy _
          · have hb3 : Below (V1.alloc (.cells #[.int .u8 0, .int .u8 0, .int .u8 0] 194)).heap.size (V1.alloc (.cells #[.int .u8 0, .int .u8 0, .int .u8 0] 194)) ((V1.alloc (.cells #[.int .u8 0, .int .u8 0, .int .u8 0] 194)).alloc (.cells #[.int .u8 0, .int .u8 0, .int .u8 0] 194)) := (Below.refl _ _).alloc (Nat.le_refl _) _
            refine ⟨hb3, ?_⟩
            have hw3 := hw2.trans (hb3.mono hw2.size)
            have hg3 := hg2.below hb3
            have hlt12 : V1.heap.size < (V1.alloc (.cells #[.int .u8 0, .int .u8 0, .int .u8 0] 194)).heap.size := hlt hy2
            have hy3 := block_below hb3 hy2
            have hx3 := hnew (V1.alloc (.cells #[.int .u8 0, .int .u8 0, .int .u8 0] 194)) (.cells #[.int .u8 0, .int .u8 0, .int .u8 0] 194)
            have lhx := hw2.size
            refine Calls.mono (queue_k n mode _ hg3) ?_
            rintro _ V4 ⟨rfl, hb4⟩
            refine ⟨hb4, ?_⟩
            have hw4 := hw3.trans (hb4.mono hw3.size)
            have hg4 := hg3.below hb4
            have hy4 := block_below hb4 hy3
            have hx4 := block_below hb4 hx3
            have hne : (V1.alloc (.cells #[.int .u8 0, .int .u8 0, .int .u8 0] 194)).heap.size ≠ V1.heap.size := (Nat.ne_of_lt hlt12).symm
            refine store_box (v := .agg ((qbs mode m).map u8).toArray) (ttOk.get 194 _ rfl) hx4 (by rfl) rfl (by rfl) ?_
            refine store_box (v := .agg ((qbs mode n).map u8).toArray) (ttOk.get 194 _ rfl) ((setRow_old (Ne.symm hne)).trans hy4) (by rfl) rfl (by rfl) ?_
            refine ⟨((V1.alloc (.cells #[.int .u8 0, .int .u8 0, .int .u8 0] 194)).heap.size, V1.heap.size), ⟨.cons rfl (.cons rfl .nil), rfl⟩, (setRow_old hne).trans (setRow_new hx4), setRow_new ((setRow_old (Ne.symm hne)).trans hy4), ?_⟩
            exact below_setRow (below_setRow hw4 lhx _) lhy _
    · refine And.intro ?_ ?_
      · have hb1 : Below W.drew.heap.size W.drew (W.drew.alloc (.cells #[.int .u8 0, .int .u8 0, .int .u8 0] 194)) := (Below.refl _ _).alloc (Nat.le_refl _) _
        refine ⟨hb1, ?_⟩
        have hw1 := hw0.trans (hb1.mono hw0.size)
        have hg1 := hg0.below hb1
        have hx1 := hnew W.drew (.cells #[.int .u8 0, .int .u8 0, .int .u8 0] 194)
        have lhx := hw0.size
        refine And.intro ?_ ?_
        · refine Calls.mono (queue_k m mode _ hg1) ?_
          rintro _ V2 ⟨rfl, hb2⟩
          refine ⟨hb2, ?_⟩
          have hw2 := hw1.trans (hb2.mono hw1.size)
          have hg2 := hg1.below hb2
          have hx2 := block_below hb2 hx1
          refine And.intro ?_ ?_
          · refine Calls.mono (queue_k n mode _ hg2) ?_
            rintro _ V3 ⟨rfl, hb3⟩
            refine ⟨hb3, ?_⟩
            have hw3 := hw2.trans (hb3.mono hw2.size)
            have hg3 := hg2.below hb3
            have hx3 := block_below hb3 hx2
            have hb4 : Below V3.heap.size V3 (V3.alloc (.cells #[.int .u8 0, .int .u8 0, .int .u8 0] 194)) := (Below.refl _ _).alloc (Nat.le_refl _) _
            refine ⟨hb4, ?_⟩
            have hw4 := hw3.trans (hb4.mono hw3.size)
            have hg4 := hg3.below hb4
            have hlt12 : W.drew.heap.size < V3.heap.size := hlt hx3
            have hx4 := block_below hb4 hx3
            have hy4 := hnew V3 (.cells #[.int .u8 0, .int .u8 0, .int .u8 0] 194)
            have lhy := hw3.size
            have hne : W.drew.heap.size ≠ V3.heap.size := Nat.ne_of_lt hlt12
            refine store_box (v := .agg ((qbs mode m).map u8).toArray) (ttOk.get 194 _ rfl) hx4 (by rfl) rfl (by rfl) ?_
            refine store_box (v := .agg ((qbs mode n).map u8).toArray) (ttOk.get 194 _ rfl) ((setRow_old (Ne.symm hne)).trans hy4) (by rfl) rfl (by rfl) ?_
            refine ⟨(W.drew.heap.size, V3.heap.size), ⟨.cons rfl (.cons rfl .nil), rfl⟩, (setRow_old hne).trans (setRow_new hx4), setRow_new ((setRow_old (Ne.symm hne)).trans hy4), ?_⟩
            exact below_setRow (below_setRow hw4 lhx _) lhy _
          · have hb3 : Below V2.heap.size V2 (V2.alloc (.cells #[.int .u8 0, .int .u8 0, .int .u8 0] 194)) := (Below.refl _ _).alloc (Nat.le_refl _) _
            refine ⟨hb3, ?_⟩
            have hw3 := hw2.trans (hb3.mono hw2.size)
            have hg3 := hg2.below hb3
            have hlt12 : W.drew.heap.size < V2.heap.size := hlt hx2
            have hx3 := block_below hb3 hx2
            have hy3 := hnew V2 (.cells #[.int .u8 0, .int .u8 0, .int .u8 0] 194)
            have lhy := hw2.size
            refine Calls.mono (queue_k n mode _ hg3) ?_
            rintro _ V4 ⟨rfl, hb4⟩
            refine ⟨hb4, ?_⟩
            have hw4 := hw3.trans (hb4.mono hw3.size)
            have hg4 := hg3.below hb4
            have hx4 := block_below hb4 hx3
            have hy4 := block_below hb4 hy3
            have hne : W.drew.heap.size ≠ V2.heap.size := Nat.ne_of_lt hlt12
            refine store_box (v := .agg ((qbs mode m).map u8).toArray) (ttOk.get 194 _ rfl) hx4 (by rfl) rfl (by rfl) ?_
            refine store_box (v := .agg ((qbs mode n).map u8).toArray) (ttOk.get 194 _ rfl) ((setRow_old (Ne.symm hne)).trans hy4) (by rfl) rfl (by rfl) ?_
            refine ⟨(W.drew.heap.size, V2.heap.size), ⟨.cons rfl (.cons rfl .nil), rfl⟩, (setRow_old hne).trans (setRow_new hx4), setRow_new ((setRow_old (Ne.symm hne)).trans hy4), ?_⟩
            exact below_setRow (below_setRow hw4 lhx _) lhy _
        · have hb2 : Below (W.drew.alloc (.cells #[.int .u8 0, .int .u8 0, .int .u8 0] 194)).heap.size (W.drew.alloc (.cells #[.int .u8 0, .int .u8 0, .int .u8 0] 194)) ((W.drew.alloc (.cells #[.int .u8 0, .int .u8 0, .int .u8 0] 194)).alloc (.cells #[.int .u8 0, .int .u8 0, .int .u8 0] 194)) := (Below.refl _ _).alloc (Nat.le_refl _) _
          refine ⟨hb2, ?_⟩
          have hw2 := hw1.trans (hb2.mono hw1.size)
          have hg2 := hg1.below hb2
          have hlt12 : W.drew.heap.size < (W.drew.alloc (.cells #[.int .u8 0, .int .u8 0, .int .u8 0] 194)).heap.size := hlt hx1
          have hx2 := block_below hb2 hx1
          have hy2 := hnew (W.drew.alloc (.cells #[.int .u8 0, .int .u8 0, .int .u8 0] 194)) (.cells #[.int .u8 0, .int .u8 0, .int .u8 0] 194)
          have lhy := hw1.size
          refine Calls.mono (queue_k m mode _ hg2) ?_
          rintro _ V3 ⟨rfl, hb3⟩
          refine ⟨hb3, ?_⟩
          have hw3 := hw2.trans (hb3.mono hw2.size)
          have hg3 := hg2.below hb3
          have hx3 := block_below hb3 hx2
          have hy3 := block_below hb3 hy2
          refine Calls.mono (queue_k n mode _ hg3) ?_
          rintro _ V4 ⟨rfl, hb4⟩
          refine ⟨hb4, ?_⟩
          have hw4 := hw3.trans (hb4.mono hw3.size)
          have hg4 := hg3.below hb4
          have hx4 := block_below hb4 hx3
          have hy4 := block_below hb4 hy3
          have hne : W.drew.heap.size ≠ (W.drew.alloc (.cells #[.int .u8 0, .int .u8 0, .int .u8 0] 194)).heap.size := Nat.ne_of_lt hlt12
          refine store_box (v := .agg ((qbs mode m).map u8).toArray) (ttOk.get 194 _ rfl) hx4 (by rfl) rfl (by rfl) ?_
          refine store_box (v := .agg ((qbs mode n).map u8).toArray) (ttOk.get 194 _ rfl) ((setRow_old (Ne.symm hne)).trans hy4) (by rfl) rfl (by rfl) ?_
          refine ⟨(W.drew.heap.size, (W.drew.alloc (.cells #[.int .u8 0, .int .u8 0, .int .u8 0] 194)).heap.size), ⟨.cons rfl (.cons rfl .nil), rfl⟩, (setRow_old hne).trans (setRow_new hx4), setRow_new ((setRow_old (Ne.symm hne)).trans hy4), ?_⟩
          exact below_setRow (below_setRow hw4 lhx _) lhy _
      · have hb1 : Below W.drew.heap.size W.drew (W.drew.alloc (.cells #[.int .u8 0, .int .u8 0, .int .u8 0] 194)) := (Below.refl _ _).alloc (Nat.le_refl _) _
        refine ⟨hb1, ?_⟩
        have hw1 := hw0.trans (hb1.mono hw0.size)
        have hg1 := hg0.below hb1
        have hy1 := hnew W.drew (.cells #[.int .u8 0, .int .u8 0, .int .u8 0] 194)
        have lhy := hw0.size
        refine And.intro ?_ ?_
        · refine Calls.mono (queue_k m mode _ hg1) ?_
          rintro _ V2 ⟨rfl, hb2⟩
          refine ⟨hb2, ?_⟩
          have hw2 := hw1.trans (hb2.mono hw1.size)
          have hg2 := hg1.below hb2
          have hy2 := block_below hb2 hy1
          refine And.intro ?_ ?_
          · refine Calls.mono (queue_k n mode _ hg2) ?_
            rintro _ V3 ⟨rfl, hb3⟩
            refine ⟨hb3, ?_⟩
            have hw3 := hw2.trans (hb3.mono hw2.size)
            have hg3 := hg2.below hb3
            have hy3 := block_below hb3 hy2
            have hb4 : Below V3.heap.size V3 (V3.alloc (.cells #[.int .u8 0, .int .u8 0, .int .u8 0] 194)) := (Below.refl _ _).alloc (Nat.le_refl _) _
            refine ⟨hb4, ?_⟩
            have hw4 := hw3.trans (hb4.mono hw3.size)
            have hg4 := hg3.below hb4
            have hlt12 : W.drew.heap.size < V3.heap.size := hlt hy3
            have hy4 := block_below hb4 hy3
            have hx4 := hnew V3 (.cells #[.int .u8 0, .int .u8 0, .int .u8 0] 194)
            have lhx := hw3.size
            have hne : V3.heap.size ≠ W.drew.heap.size := (Nat.ne_of_lt hlt12).symm
            refine store_box (v := .agg ((qbs mode m).map u8).toArray) (ttOk.get 194 _ rfl) hx4 (by rfl) rfl (by rfl) ?_
            refine store_box (v := .agg ((qbs mode n).map u8).toArray) (ttOk.get 194 _ rfl) ((setRow_old (Ne.symm hne)).trans hy4) (by rfl) rfl (by rfl) ?_
            refine ⟨(V3.heap.size, W.drew.heap.size), ⟨.cons rfl (.cons rfl .nil), rfl⟩, (setRow_old hne).trans (setRow_new hx4), setRow_new ((setRow_old (Ne.symm hne)).trans hy4), ?_⟩
            exact below_setRow (below_setRow hw4 lhx _) lhy _
          · have hb3 : Below V2.heap.size V2 (V2.alloc (.cells #[.int .u8 0, .int .u8 0, .int .u8 0] 194)) := (Below.refl _ _).alloc (Nat.le_refl _) _
            refine ⟨hb3, ?_⟩
            have hw3 := hw2.trans (hb3.mono hw2.size)
            have hg3 := hg2.below hb3
            have hlt12 : W.drew.heap.size < V2.heap.size := hlt hy2
            have hy3 := block_below hb3 hy2
            have hx3 := hnew V2 (.cells #[.int .u8 0, .int .u8 0, .int .u8 0] 194)
            have lhx := hw2.size
            refine Calls.mono (queue_k n mode _ hg3) ?_
            rintro _ V4 ⟨rfl, hb4⟩
            refine ⟨hb4, ?_⟩
            have hw4 := hw3.trans (hb4.mono hw3.size)
            have hg4 := hg3.below hb4
            have hy4 := block_below hb4 hy3
            have hx4 := block_below hb4 hx3
            have hne : V2.heap.size ≠ W.drew.heap.size := (Nat.ne_of_lt hlt12).symm
            refine store_box (v := .agg ((qbs mode m).map u8).toArray) (ttOk.get 194 _ rfl) hx4 (by rfl) rfl (by rfl) ?_
            refine store_box (v := .agg ((qbs mode n).map u8).toArray) (ttOk.get 194 _ rfl) ((setRow_old (Ne.symm hne)).trans hy4) (by rfl) rfl (by rfl) ?_
            refine ⟨(V2.heap.size, W.drew.heap.size), ⟨.cons rfl (.cons rfl .nil), rfl⟩, (setRow_old hne).trans (setRow_new hx4), setRow_new ((setRow_old (Ne.symm hne)).trans hy4), ?_⟩
            exact below_setRow (below_setRow hw4 lhx _) lhy _
        · have hb2 : Below (W.drew.alloc (.cells #[.int .u8 0, .int .u8 0, .int .u8 0] 194)).heap.size (W.drew.alloc (.cells #[.int .u8 0, .int .u8 0, .int .u8 0] 194)) ((W.drew.alloc (.cells #[.int .u8 0, .int .u8 0, .int .u8 0] 194)).alloc (.cells #[.int .u8 0, .int .u8 0, .int .u8 0] 194)) := (Below.refl _ _).alloc (Nat.le_refl _) _
          refine ⟨hb2, ?_⟩
          have hw2 := hw1.trans (hb2.mono hw1.size)
          have hg2 := hg1.below hb2
          have hlt12 : W.drew.heap.size < (W.drew.alloc (.cells #[.int .u8 0, .int .u8 0, .int .u8 0] 194)).heap.size := hlt hy1
          have hy2 := block_below hb2 hy1
          have hx2 := hnew (W.drew.alloc (.cells #[.int .u8 0, .int .u8 0, .int .u8 0] 194)) (.cells #[.int .u8 0, .int .u8 0, .int .u8 0] 194)
          have lhx := hw1.size
          refine Calls.mono (queue_k m mode _ hg2) ?_
          rintro _ V3 ⟨rfl, hb3⟩
          refine ⟨hb3, ?_⟩
          have hw3 := hw2.trans (hb3.mono hw2.size)
          have hg3 := hg2.below hb3
          have hy3 := block_below hb3 hy2
          have hx3 := block_below hb3 hx2
          refine Calls.mono (queue_k n mode _ hg3) ?_
          rintro _ V4 ⟨rfl, hb4⟩
          refine ⟨hb4, ?_⟩
          have hw4 := hw3.trans (hb4.mono hw3.size)
          have hg4 := hg3.below hb4
          have hy4 := block_below hb4 hy3
          have hx4 := block_below hb4 hx3
          have hne : (W.drew.alloc (.cells #[.int .u8 0, .int .u8 0, .int .u8 0] 194)).heap.size ≠ W.drew.heap.size := (Nat.ne_of_lt hlt12).symm
          refine store_box (v := .agg ((qbs mode m).map u8).toArray) (ttOk.get 194 _ rfl) hx4 (by rfl) rfl (by rfl) ?_
          refine store_box (v := .agg ((qbs mode n).map u8).toArray) (ttOk.get 194 _ rfl) ((setRow_old (Ne.symm hne)).trans hy4) (by rfl) rfl (by rfl) ?_
          refine ⟨((W.drew.alloc (.cells #[.int .u8 0, .int .u8 0, .int .u8 0] 194)).heap.size, W.drew.heap.size), ⟨.cons rfl (.cons rfl .nil), rfl⟩, (setRow_old hne).trans (setRow_new hx4), setRow_new ((setRow_old (Ne.symm hne)).trans hy4), ?_⟩
          exact below_setRow (below_setRow hw4 lhx _) lhy _
  · have h : mode = 1 := by
      have h : ((mode.toNat : Int) = 1) := by simpa using h
      exact u8_eq.1 h
    subst h
    refine ⟨m.enc, rfl, cells_block f1, hlt f1, ?_⟩
    refine ⟨n.enc, rfl, cells_block f2, hlt f2, ?_⟩
    refine Calls.mono (Less_c m n W) ?_
    rintro _ V ⟨rfl, hbV⟩
    have hbV2 := hb1.trans (hbV.mono hb1.size)
    have f1V := block_below hbV f1
    have f2V := block_below hbV f2
    refine And.intro (fun h => ?_) (fun h => ?_)
    · exact ⟨-1, rfl, by simpa [keyO, mkey] using h, hbV2⟩
    · refine ⟨n.enc, rfl, cells_block f2V, hlt f2V, ?_⟩
      refine ⟨m.enc, rfl, cells_block f1V, hlt f1V, ?_⟩
      refine Calls.mono (Less_c n m V) ?_
      rintro _ V2 ⟨rfl, hbV3⟩
      have hbV4 := hbV2.trans (hbV3.mono hbV2.size)
      refine And.intro (fun h2 => ?_) (fun h2 => ?_)
      · exact ⟨1, rfl, by simpa [keyO, mkey] using h, hbV4⟩
      · exact ⟨0, rfl, by simpa [keyO, mkey] using h, hbV4⟩
theorem cell_same {A B : World} {g : Nat} (h : B.heap[g]? = A.heap[g]?) (o : Nat) : B.cell? ⟨g, o, none⟩ = A.cell? ⟨g, o, none⟩ := by
  simp only [World.cell?, h]
theorem cmpOk (gm : Nat) (mode : UInt8) (g : Nat) (h0 : 1 ≠ g) (hm : gm ≠ g) : CmpOk #[.pointer (some ⟨gm, 0, none⟩)] (keyO (mkey mode)) g (Good gm mode) where
  run X hX m n := Cmp_c gm mode m n X hX
  keep A B h k := by
    obtain ⟨h1, h2, h3⟩ := h
    refine ⟨(k.block gm (hlt h1) (by simpa using hm)).trans h1, ?_, Nat.lt_of_lt_of_le h3 k.size⟩
    refine cells_mk fun i v hv => ?_
    have := cells_at h2 hv
    rw [← this]
    exact cell_same (k.block 1 h3 (by simpa using h0)) _
end Go.Proofs.YthgmcegmgjoafaaGreatDoor
namespace Go.Sei
open Go.Vc
def dlv (l : List Msg) (mode : UInt8) (i : Nat) : Bool :=
  decide (mode = 1) || (match l[i]? with
    | some m => decide (((l.take i).map (queue · mode)).count (queue m mode) = 0)
    | none => false)
def upto (l : List Msg) (mode : UInt8) (k : Nat) : List Nat := (List.range k).filter (dlv l mode)
def nextL (l : List Msg) (mode : UInt8) : List Nat := if knownB mode then upto l mode l.length else []
theorem upto_succ (l : List Msg) (mode : UInt8) (k : Nat) : upto l mode (k + 1) = upto l mode k ++ (if dlv l mode k then [k] else []) := by
  unfold upto; rw [List.range_succ, List.filter_append]; congr 1; simp [List.filter_cons]
theorem upto_prefix (l : List Msg) (mode : UInt8) {k n : Nat} (h : k ≤ n) : upto l mode k <+: upto l mode n := by
  induction n with
  | zero => have : k = 0 := by omega
            subst this; exact List.prefix_refl _
  | succ n ih =>
    rcases Nat.lt_or_ge k (n + 1) with h1 | h1
    · rw [upto_succ]; exact (ih (by omega)).trans (List.prefix_append _ _)
    · have : k = n + 1 := by omega
      subst this; exact List.prefix_refl _
def cnt (l : List Msg) (mode : UInt8) (k : Nat) (q : UInt8 × UInt8 × UInt8) : Nat := ((l.take k).map (queue · mode)).count q
theorem cnt_succ (l : List Msg) (mode : UInt8) {k : Nat} (hk : k < l.length) (q : UInt8 × UInt8 × UInt8) : cnt l mode (k + 1) q = cnt l mode k q + if q = queue l[k] mode then 1 else 0 := by
  unfold cnt
  rw [List.take_succ_eq_append_getElem hk, List.map_append, List.count_append]
  simp only [List.map_cons, List.map_nil, List.count_cons, List.count_nil, Nat.zero_add, beq_iff_eq]
  congr 1
  by_cases h : q = queue l[k] mode
  · simp [h]
  · have : ¬ queue l[k] mode = q := fun e => h e.symm
    simp [h, this]
def cntF (l : List Msg) (mode : UInt8) (k : Nat) (q : UInt8 × UInt8 × UInt8) : Option Value := if cnt l mode k q = 0 then none else some (.int .i64 (cnt l mode k q))
theorem cntF_getD (l : List Msg) (mode : UInt8) (k : Nat) (q : UInt8 × UInt8 × UInt8) : (cntF l mode k q).getD (.int .i64 0) = .int .i64 (cnt l mode k q) := by
  unfold cntF; split
  · rename_i h; simp [h]
  · rfl
theorem cnt_le (l : List Msg) (mode : UInt8) (k : Nat) (q : UInt8 × UInt8 × UInt8) : cnt l mode k q ≤ l.length := by
  unfold cnt
  refine Nat.le_trans List.count_le_length ?_
  simp; omega
theorem dlv_eq (l : List Msg) (mode : UInt8) {k : Nat} (hk : k < l.length) : dlv l mode k = (decide (mode = 1) || decide (cnt l mode k (queue l[k] mode) = 0)) := by
  unfold dlv cnt; rw [List.getElem?_eq_getElem hk]
theorem cntF_step (l : List Msg) (mode : UInt8) {k : Nat} (hk : k < l.length) : (fun q' => if q' = queue l[k] mode then some (Value.int .i64 (cnt l mode k (queue l[k] mode) + 1 : Int)) else if q' = queue l[k] mode then some ((cntF l mode k (queue l[k] mode)).getD (.int .i64 0)) else cntF l mode k q') = cntF l mode (k + 1) := by
  funext q
  have h := cnt_succ l mode hk q
  by_cases e : q = queue l[k] mode
  · subst e
    rw [if_pos rfl] at h
    simp [cntF, h]
  · rw [if_neg e, Nat.add_zero] at h
    simp [cntF, e, h]
end Go.Sei
namespace Go.Sei
open Go.Vc
def nats (l : List Nat) : List Int := l.map (fun (i : Nat) => (i : Int))
theorem nats_len (l : List Nat) : (nats l).length = l.length := by simp [nats]
theorem mem_nats (l : List Nat) (i : Nat) : ((i : Int) ∈ nats l) ↔ i ∈ l := by
  unfold nats; rw [List.mem_map]
  constructor
  · rintro ⟨a, ha, h⟩; have : a = i := by omega
    subst this; exact ha
  · exact fun h => ⟨i, h, rfl⟩
theorem mem_upto (l : List Msg) (mode : UInt8) (n i : Nat) : i ∈ upto l mode n ↔ i < n ∧ dlv l mode i = true := by
  unfold upto; simp [List.mem_filter]
theorem next_all (l : List Msg) : nextL l 1 = List.range l.length := by
  have : nextL l 1 = upto l 1 l.length := by simp [nextL, knownB]
  rw [this]; unfold upto
  rw [List.filter_eq_self]
  intro i _; simp [dlv]
theorem next_fifo (l : List Msg) : nextL l 2 = upto l 2 l.length := by simp [nextL, knownB]
theorem next_class (l : List Msg) : nextL l 3 = upto l 3 l.length := by simp [nextL, knownB]
theorem upto_head (l : List Msg) (mode : UInt8) (h : 0 < l.length) : ∃ t, upto l mode l.length = 0 :: t := by
  have h1 : upto l mode 1 <+: upto l mode l.length := upto_prefix l mode h
  have h2 : upto l mode 1 = [0] := by
    have : dlv l mode 0 = true := by rw [dlv_eq l mode h]; simp [cnt]
    have h3 := upto_succ l mode 0
    rw [this] at h3
    simpa [upto] using h3
  rw [h2] at h1
  obtain ⟨t, ht⟩ := h1
  exact ⟨t, ht.symm⟩
def differ (a b : Msg) : Bool := decide (¬ a.from_ = b.from_) || decide (¬ a.to = b.to)
theorem dlv_fifo (l : List Msg) {i : Nat} (hi : i < l.length) : dlv l 2 i = (l.take i).all (fun m => differ m l[i]) := by
  rw [dlv_eq l 2 hi]
  have h0 : decide ((2 : UInt8) = 1) = false := by decide
  rw [h0, Bool.false_or, Bool.eq_iff_iff, decide_eq_true_iff, List.all_eq_true]
  unfold cnt
  rw [List.count_eq_zero]
  constructor
  · intro h m hm
    have : queue m 2 ≠ queue l[i] 2 := fun e => h (List.mem_map.2 ⟨m, hm, e⟩)
    simp only [queue, differ] at this ⊢
    by_cases h1 : m.from_ = l[i].from_
    · by_cases h2 : m.to = l[i].to
      · exact absurd (by simp [h1, h2]) this
      · simp [h2]
    · simp [h1]
  · intro h hm
    obtain ⟨m, hm, e⟩ := List.mem_map.1 hm
    have := h m hm
    simp only [queue, Prod.mk.injEq] at e
    have e1 := e.1
    have e2 := e.2
    simp [differ, e1] at this
    exact this (by simpa using e2)
theorem fifo_class (l : List Msg) {i : Nat} (hi : i < l.length) (h : dlv l 2 i = true) : dlv l 3 i = true := by
  rw [dlv_fifo l hi, List.all_eq_true] at h
  rw [dlv_eq l 3 hi, decide_eq_false (show ¬ (3 : UInt8) = 1 by decide), Bool.false_or, decide_eq_true_iff]
  unfold cnt
  rw [List.count_eq_zero]
  intro hm
  obtain ⟨m, hm, e⟩ := List.mem_map.1 hm
  have := h m hm
  simp only [queue, Prod.mk.injEq] at e
  simp [differ, e.1, e.2.1] at this
def firstB (l : List Msg) (m : Msg) (k : Nat) : Bool := (l.take k).all (fun a => differ a m)
theorem firstB_succ (l : List Msg) (m : Msg) {k : Nat} (hk : k < l.length) : firstB l m (k + 1) = (firstB l m k && differ l[k] m) := by
  unfold firstB; rw [List.take_succ_eq_append_getElem hk, List.all_append]; simp only [List.all_cons, List.all_nil, Bool.and_true]
end Go.Sei
namespace Go.Proofs.YthgmcegmgjoafaaGreatDoor
open Go.Vc Go.RowKit Go.Sei
abbrev mO (mode : UInt8) : MOrd Msg := keyO (mkey mode)
def IsSort (mode : UInt8) (l r : List Msg) : Prop := ∃ ys : List (Tg Msg), Srt (mO mode) ys ∧ ys.Perm l.zipIdx ∧ r = ys.map Prod.fst
def EqM (mode : UInt8) (a b : List Msg) : Prop := ∀ q, a.filter (fun m => decide (mkey mode m = q)) = b.filter (fun m => decide (mkey mode m = q))
theorem zip_places : ∀ (l : List Msg) (n : Nat), (l.zipIdx n).Pairwise (fun x y => x.2 < y.2)
  | [], _ => by simp
  | a :: r, n => by
    rw [List.zipIdx_cons, List.pairwise_cons]
    refine ⟨fun x hx => ?_, zip_places r (n + 1)⟩
    obtain ⟨_, h2⟩ := List.mem_zipIdx hx
    dsimp only; omega
theorem zip_fst : ∀ (l : List Msg) (n : Nat), (l.zipIdx n).map Prod.fst = l
  | [], _ => rfl
  | a :: r, n => by rw [List.zipIdx_cons, List.map_cons, zip_fst r (n + 1)]
theorem IsSort.perm {mode : UInt8} {l r : List Msg} (h : IsSort mode l r) : r.Perm l := by
  obtain ⟨ys, _, h2, rfl⟩ := h
  have := h2.map Prod.fst
  rwa [zip_fst] at this
theorem IsSort.filt {mode : UInt8} {l r : List Msg} (h : IsSort mode l r) : EqM mode r l := by
  intro q
  obtain ⟨ys, h1, h2, rfl⟩ := h
  have h3 : (ys.filter (fun x => decide (mkey mode x.1 = q))) = l.zipIdx.filter (fun x => decide (mkey mode x.1 = q)) := by
    refine srt_unique (O := mO mode) (h1.filter _) ?_ (h2.filter _)
    refine List.Pairwise.imp_of_mem ?_ ((zip_places l 0).filter _)
    intro x y hx hy hxy
    have e1 := of_decide_eq_true (List.mem_filter.1 hx).2
    have e2 := of_decide_eq_true (List.mem_filter.1 hy).2
    refine .inr ⟨?_, hxy⟩
    simp only [keyO, e1, e2, cmpL_self]; rfl
  have h4 := congrArg (List.map Prod.fst) h3
  have e : ∀ (zs : List (Tg Msg)), (zs.filter (fun x => decide (mkey mode x.1 = q))).map Prod.fst = (zs.map Prod.fst).filter (fun m => decide (mkey mode m = q)) := fun zs => by
    rw [List.filter_map]; rfl
  rw [e, e, zip_fst] at h4
  exact h4
theorem IsSort.sorted {mode : UInt8} {l r : List Msg} (h : IsSort mode l r) : r.Pairwise (fun x y => (mO mode).lt y x = false) := by
  obtain ⟨ys, h1, h2, rfl⟩ := h
  rw [List.pairwise_map]
  refine h1.imp fun h => ?_
  rcases h with h | ⟨h, _⟩
  · exact (mO mode).asymm h
  · exact h
theorem sorted_uniq {mode : UInt8} : ∀ (r1 r2 : List Msg), r1.Pairwise (fun x y => (mO mode).lt y x = false) → r2.Pairwise (fun x y => (mO mode).lt y x = false) → EqM mode r1 r2 → r1 = r2
  | [], [], _, _, _ => rfl
  | [], y :: t, _, _, h => by have := h (mkey mode y); simp at this
  | x :: t, [], _, _, h => by have := h (mkey mode x); simp at this
  | x :: t, y :: u, h1, h2, h => by
    have p1 := List.pairwise_cons.1 h1
    have p2 := List.pairwise_cons.1 h2
    have hk : mkey mode x = mkey mode y := by
      have hx : x ∈ (y :: u).filter (fun m => decide (mkey mode m = mkey mode x)) := by rw [← h]; simp
      have hy : y ∈ (x :: t).filter (fun m => decide (mkey mode m = mkey mode y)) := by rw [h]; simp
      have hx := (List.mem_filter.1 hx).1
      have hy := (List.mem_filter.1 hy).1
      have a1 : (mO mode).lt x y = false := by
        rcases List.mem_cons.1 hx with e | hx
        · rw [e]; exact (mO mode).irr _
        · exact p2.1 x hx
      have a2 : (mO mode).lt y x = false := by
        rcases List.mem_cons.1 hy with e | hy
        · rw [e]; exact (mO mode).irr _
        · exact p1.1 y hy
      rcases cmpL_total (mkey mode x) (mkey mode y) with h | h | h
      · have a1 := of_decide_eq_false a1; exact absurd h a1
      · have a2 := of_decide_eq_false a2; exact absurd h a2
      · exact h
    have hh := h (mkey mode x)
    rw [List.filter_cons_of_pos (by simp), List.filter_cons_of_pos (by simp [hk])] at hh
    simp only [List.cons.injEq] at hh
    obtain ⟨e, _⟩ := hh
    subst e
    rw [sorted_uniq t u p1.2 p2.2 fun q => ?_]
    have := h q
    simp only [List.filter_cons] at this
    split at this
    · exact (List.cons.inj this).2
    · exact this
theorem isSort_eq {mode : UInt8} {a b r s : List Msg} (h1 : IsSort mode a r) (h2 : IsSort mode b s) : r = s ↔ EqM mode a b := by
  constructor
  · intro e q
    subst e
    rw [← h1.filt q, h2.filt q]
  · intro e
    exact sorted_uniq r s h1.sorted h2.sorted fun q => by rw [h1.filt q, e q, h2.filt q]
theorem EqM.perm {mode : UInt8} {a b : List Msg} (h : EqM mode a b) : a.Perm b := by
  rw [List.perm_iff_count]
  intro m
  have := congrArg (List.count m) (h (mkey mode m))
  rwa [List.count_filter (by simp), List.count_filter (by simp)] at this
theorem EqM.symm {mode : UInt8} {a b : List Msg} (h : EqM mode a b) : EqM mode b a := fun q => (h q).symm
theorem EqM.refl (mode : UInt8) (a : List Msg) : EqM mode a a := fun _ => rfl
theorem EqM.trans {mode : UInt8} {a b c : List Msg} (h : EqM mode a b) (k : EqM mode b c) : EqM mode a c := fun q => (h q).trans (k q)
theorem bag_inj {x y : Msg} (h : mkey 1 x = mkey 1 y) : x = y := codeOf_inj (by simpa [mkey] using h)
theorem perm_bag {a b : List Msg} (h : a.Perm b) : EqM 1 a b := by
  intro q
  have h1 : ∀ x ∈ a.filter (fun m => decide (mkey 1 m = q)), ∀ y ∈ a.filter (fun m => decide (mkey 1 m = q)), x = y := fun x hx y hy => by
    have hx := of_decide_eq_true (List.mem_filter.1 hx).2
    have hy := of_decide_eq_true (List.mem_filter.1 hy).2
    exact bag_inj (hx.trans hy.symm)
  have h2 := h.filter (fun m => decide (mkey 1 m = q))
  generalize a.filter (fun m => decide (mkey 1 m = q)) = u at h1 h2
  generalize b.filter (fun m => decide (mkey 1 m = q)) = v at h2
  match u, v with
  | [], v => exact h2.nil_eq
  | x :: u, v =>
    have e1 : x :: u = List.replicate (u.length + 1) x := by rw [List.eq_replicate_iff]; exact ⟨rfl, fun y hy => h1 y hy x (by simp)⟩
    rw [e1] at h2 ⊢
    first | exact List.replicate_perm.1 h2 | exact (List.replicate_perm.1 h2).symm
theorem qbs_eq {mode : UInt8} {x y : Msg} : qbs mode x = qbs mode y ↔ queue x mode = queue y mode := by
  constructor
  · intro h
    simp only [qbs, List.cons.injEq, and_true] at h
    exact Prod.ext h.1 (Prod.ext h.2.1 h.2.2)
  · intro h; simp only [qbs, h]
theorem filt_erase {mode : UInt8} {l : List Msg} {i : Nat} (hi : i < l.length) (hd : dlv l mode i = true) (q : List UInt8) :
    (l.eraseIdx i).filter (fun m => decide (mkey mode m = q)) = if mkey mode l[i] = q then (l.filter (fun m => decide (mkey mode m = q))).tail else l.filter (fun m => decide (mkey mode m = q)) := by
  have e : l = l.take i ++ l[i] :: l.drop (i + 1) := by rw [List.getElem_cons_drop, List.take_append_drop]
  have e2 : l.filter (fun m => decide (mkey mode m = q)) = (l.take i).filter (fun m => decide (mkey mode m = q)) ++ (l[i] :: l.drop (i + 1)).filter (fun m => decide (mkey mode m = q)) := by
    rw [← List.filter_append, ← e]
  rw [List.eraseIdx_eq_take_drop_succ, List.filter_append, e2]
  by_cases h : mkey mode l[i] = q
  · rw [if_pos h, List.filter_cons_of_pos (by simp [h])]
    by_cases hm : mode = 1
    · subst hm
      have : (l.take i).filter (fun m => decide (mkey 1 m = q)) = List.replicate ((l.take i).filter (fun m => decide (mkey 1 m = q))).length l[i] := by
        rw [List.eq_replicate_iff]
        exact ⟨rfl, fun y hy => bag_inj ((of_decide_eq_true (List.mem_filter.1 hy).2).trans h.symm)⟩
      generalize ((l.take i).filter (fun m => decide (mkey 1 m = q))) = X at this ⊢
      rw [this]
      generalize X.length = n
      cases n with
      | zero => rfl
      | succ n =>
        rw [List.replicate_succ, List.cons_append, List.cons_append, List.tail_cons, ← List.cons_append, ← List.replicate_succ, List.replicate_succ']
        simp
    · have : (l.take i).filter (fun m => decide (mkey mode m = q)) = [] := by
        rw [List.filter_eq_nil_iff]
        intro m hmem hk
        have hk := of_decide_eq_true hk
        rw [dlv_eq l mode hi, decide_eq_false hm, Bool.false_or, decide_eq_true_iff] at hd
        unfold cnt at hd
        rw [List.count_eq_zero] at hd
        refine hd (List.mem_map.2 ⟨m, hmem, ?_⟩)
        have := hk.trans h.symm
        simp only [mkey, if_neg hm] at this
        exact qbs_eq.1 this
      rw [this]; rfl
  · rw [if_neg h, List.filter_cons_of_neg (by simp [h])]
theorem filt_head {mode : UInt8} {l : List Msg} {i : Nat} (hi : i < l.length) (hd : dlv l mode i = true) : (l.filter (fun m => decide (mkey mode m = mkey mode l[i]))).head? = some l[i] := by
  have e : l = l.take i ++ l[i] :: l.drop (i + 1) := by rw [List.getElem_cons_drop, List.take_append_drop]
  have e2 : l.filter (fun m => decide (mkey mode m = mkey mode l[i])) = (l.take i).filter (fun m => decide (mkey mode m = mkey mode l[i])) ++ (l[i] :: l.drop (i + 1)).filter (fun m => decide (mkey mode m = mkey mode l[i])) := by
    rw [← List.filter_append, ← e]
  rw [e2, List.filter_cons_of_pos (by simp)]
  by_cases hm : mode = 1
  · subst hm
    cases h : (l.take i).filter (fun m => decide (mkey 1 m = mkey 1 l[i])) with
    | nil => rfl
    | cons y r =>
      have hy : y ∈ (l.take i).filter (fun m => decide (mkey 1 m = mkey 1 l[i])) := by rw [h]; simp
      have := bag_inj (of_decide_eq_true (List.mem_filter.1 hy).2)
      rw [this]; rfl
  · have : (l.take i).filter (fun m => decide (mkey mode m = mkey mode l[i])) = [] := by
      rw [List.filter_eq_nil_iff]
      intro m hmem hk
      have hk := of_decide_eq_true hk
      rw [dlv_eq l mode hi, decide_eq_false hm, Bool.false_or, decide_eq_true_iff] at hd
      unfold cnt at hd
      rw [List.count_eq_zero] at hd
      refine hd (List.mem_map.2 ⟨m, hmem, ?_⟩)
      simp only [mkey, if_neg hm] at hk
      exact qbs_eq.1 hk
    rw [this]; rfl
theorem eqM_next {mode : UInt8} {a b : List Msg} (h : EqM mode a b) {i : Nat} (hi : i < a.length) (hd : dlv a mode i = true) :
    ∃ k, ∃ hk : k < b.length, dlv b mode k = true ∧ a[i] = b[k] ∧ EqM mode (a.eraseIdx i) (b.eraseIdx k) := by
  have h1 := filt_head hi hd
  rw [h] at h1
  cases hb : b.filter (fun m => decide (mkey mode m = mkey mode a[i])) with
  | nil => rw [hb] at h1; cases h1
  | cons y t =>
    rw [hb] at h1
    have hy : y = a[i] := by simpa using h1
    obtain ⟨X, Y, e, hX, hp, _⟩ := List.filter_eq_cons_iff.1 hb
    subst e
    have hk : X.length < (X ++ y :: Y).length := by simp
    have hg : (X ++ y :: Y)[X.length] = y := by simp
    have hdk : dlv (X ++ y :: Y) mode X.length = true := by
      rw [dlv_eq _ mode hk]
      by_cases hm : mode = 1
      · simp [hm]
      · rw [decide_eq_false hm, Bool.false_or, decide_eq_true_iff]
        unfold cnt
        rw [List.count_eq_zero, List.take_left, hg]
        intro hmem
        obtain ⟨m, hm1, hm2⟩ := List.mem_map.1 hmem
        have := hX m hm1
        refine this (decide_eq_true ?_)
        rw [hy] at hm2
        simp only [mkey, if_neg hm]
        exact qbs_eq.2 hm2
    refine ⟨X.length, hk, hdk, by rw [hg, hy], fun q => ?_⟩
    rw [filt_erase hi hd q, filt_erase hk hdk q, hg, h q]
    rw [← hy]
theorem deliver {mode : UInt8} {l : List Msg} {i : Nat} (hi : i < l.length) (hd : dlv l mode i = true) (out : List Msg) (q : List UInt8) :
    (out ++ [l[i]]).filter (fun m => decide (mkey mode m = q)) ++ (l.eraseIdx i).filter (fun m => decide (mkey mode m = q)) = out.filter (fun m => decide (mkey mode m = q)) ++ l.filter (fun m => decide (mkey mode m = q)) := by
  rw [filt_erase hi hd q, List.filter_append, List.append_assoc]
  congr 1
  by_cases h : mkey mode l[i] = q
  · rw [if_pos h, List.filter_cons_of_pos (by simp [h])]
    have := filt_head hi hd
    rw [h] at this
    cases hl : l.filter (fun m => decide (mkey mode m = q)) with
    | nil => rw [hl] at this; cases this
    | cons y t => rw [hl] at this; simp at this; simp [this]
  · rw [if_neg h, List.filter_cons_of_neg (by simp [h])]; rfl
end Go.Proofs.YthgmcegmgjoafaaGreatDoor
namespace Go.Proofs.YthgmcegmgjoafaaGreatDoor
open Go.Vc Go.RowKit Go.Sei
theorem own_weaken {B B' cap : Nat} {w : World} {p : Option Addr} {l : List Msg} (h : OwnS Msg.E 53 B w p cap l) (hB : B' ≤ B) : OwnS Msg.E 53 B' w p cap l := by
  obtain ⟨h1, h2⟩ := h
  refine ⟨h1, h2.imp id ?_⟩
  rintro ⟨g, c, cur, e1, e2, rest⟩
  exact ⟨g, c, cur, e1, by omega, rest⟩
end Go.Proofs.YthgmcegmgjoafaaGreatDoor
namespace Go.Proofs.YthgmcegmgjoafaaGreatDoor
open Go.Vc Go.RowKit Go.Sei
theorem insertion0_c (p : Option Addr) (cap : Nat) (f : Value) (w : World) : Calls Tryz.prog 200 #[.slice p 0 cap, .int .i64 0, .int .i64 0, f] w fun e w' => (∃ v, e = .returned v) ∧ w = w' := by
  refine calls_of_E (S := sg 53) (sgOk _) (args := [.slice p 0 cap, .int .i64 0, .int .i64 0, f]) Tryz.func200 rfl rfl (Nat.le_of_ble_eq_true rfl) rfl ?_
  refine ⟨1, (wrap_i64 (by omega)).trans (by omega), ?_⟩
  refine ⟨Unit, fun _ => ⟨[(0, .slice p 0 cap), (1, .int .i64 0), (2, .int .i64 0), (3, f), (8, .int .i64 1)], []⟩, fun _ V => w = V, fun _ => 0, (), ⟨.cons rfl (.cons rfl (.cons rfl (.cons rfl (.cons rfl .nil)))), rfl⟩, rfl, ?_⟩
  rintro _ _ rfl
  refine And.intro (fun h => absurd (of_decide_eq_true h) (by omega)) (fun _ => ?_)
  exact And.intro ⟨_, rfl⟩ rfl
theorem stable0_c (p : Option Addr) (cap : Nat) (f : Value) (w : World) : Calls Tryz.prog 164 #[.slice p 0 cap, .int .i64 0, f] w fun e w' => (∃ v, e = .returned v) ∧ w = w' := by
  refine calls_of_E (S := sg 63) (sgOk _) (args := [.slice p 0 cap, .int .i64 0, f]) Tryz.func164 rfl rfl (Nat.le_of_ble_eq_true rfl) rfl ?_
  refine ⟨Unit, fun _ => ⟨[(0, .slice p 0 cap), (1, .int .i64 0), (2, f), (6, .int .i64 20), (7, .int .i64 0), (8, .int .i64 20)], []⟩, fun _ V => w = V, fun _ => 0, (), ⟨.cons rfl (.cons rfl (.cons rfl (.cons rfl (.cons rfl (.cons rfl .nil))))), rfl⟩, rfl, ?_⟩
  rintro _ _ rfl
  refine And.intro (fun h => absurd (of_decide_eq_true h) (by omega)) (fun _ => ?_)
  refine Calls.mono (insertion0_c p cap f w) ?_
  rintro e _ ⟨⟨v, rfl⟩, rfl⟩
  refine ⟨Unit, fun _ => ⟨[(0, .slice p 0 cap), (1, .int .i64 0), (2, f), (6, .int .i64 20)], []⟩, fun _ V => w = V, fun _ => 0, (), ⟨.cons rfl (.cons rfl (.cons rfl (.cons rfl .nil))), rfl⟩, rfl, ?_⟩
  rintro _ _ rfl
  refine And.intro (fun h => absurd (of_decide_eq_true h) (by omega)) (fun _ => ?_)
  exact And.intro ⟨_, rfl⟩ rfl
theorem sort0_c (p : Option Addr) (cap : Nat) (f : Value) (w : World) : Calls Tryz.prog 101 #[.slice p 0 cap, f] w fun e w' => (∃ v, e = .returned v) ∧ w = w' := by
  refine calls_of_E (S := sg 9) (sgOk _) (args := [.slice p 0 cap, f]) Tryz.func101 rfl rfl (Nat.le_of_ble_eq_true rfl) rfl ?_
  refine Calls.mono (stable0_c p cap f w) ?_
  rintro e _ ⟨⟨v, rfl⟩, rfl⟩
  exact And.intro ⟨_, rfl⟩ rfl
theorem Sort_c (p : Option Addr) (cap : Nat) (l : List Msg) (mode : UInt8) (w : World) (hl : SlR Msg.E w p l) (hk : p = none → cap = 0) (hg : Glob w) (hn : l.length ≤ 1000000000) :
    Calls Tryz.prog 57 #[.slice p l.length cap, u8 mode] w fun e w' => ∃ r p' cap', e = .returned (.slice p' r.length cap') ∧ (knownB mode = true → IsSort mode l r) ∧ (knownB mode = false → r = l) ∧
      OwnS Msg.E 53 w.heap.size w' p' cap' r ∧ Below w.heap.size w w' := by
  have h0 : 1 < w.heap.size := World.block_lt_of_cell? w _ (cells_head hg)
  refine calls_of_M (S := sg 17) (sgOk _) (args := [.slice p l.length cap, u8 mode]) (.s .p (.c .p .p)) Tryz.func57 rfl rfl (Nat.le_of_ble_eq_true rfl) rfl ?_
  refine ⟨Option Addr × Nat, fun s => ⟨[(3, .pointer (some ⟨w.heap.size, 0, none⟩)), (5, .slice s.1 l.length s.2)], []⟩,
    fun s V => V.heap[w.heap.size]? = some (.cells #[u8 mode] 5 (0, 0)) ∧ OwnS Msg.E 53 (w.heap.size + 1) V s.1 s.2 l ∧ Below w.heap.size w V, ?_, ?_⟩
  · refine ⟨⟨by decide, by decide, rfl⟩, [.slice p l.length cap], rfl, ?_⟩
    have hb1 : Below w.heap.size w (w.alloc (.cells #[u8 mode] 5)) := (Below.refl _ _).alloc (Nat.le_refl _) _
    have f1 := hnew w (.cells #[u8 mode] 5)
    have hb2 : Below (w.alloc (.cells #[u8 mode] 5)).heap.size (w.alloc (.cells #[u8 mode] 5)) ((w.alloc (.cells #[u8 mode] 5)).alloc (.cells #[.slice p l.length cap] 45)) := (Below.refl _ _).alloc (Nat.le_refl _) _
    have hb12 := hb1.trans (hb2.mono hb1.size)
    have ht : total [⟨p, cap, l⟩] = l := by simp [total]
    refine Calls.mono (Concat_c (some ⟨(w.alloc (.cells #[u8 mode] 5)).heap.size, 0, none⟩) 1 [⟨p, cap, l⟩] _ (SlR.of_cells (by simp) cells_new) (fun q hq => ?_) (by rw [ht]; exact hn) (by simp)) ?_
    · simp only [List.mem_cons, List.not_mem_nil, or_false] at hq
      subst hq
      exact ⟨hl.below hb12, hk⟩
    rintro e V ⟨p', cap', rfl, ho, hb3⟩
    rw [ht] at ho ⊢
    exact ⟨(p', cap'), ⟨.cons rfl (.cons rfl .nil), rfl⟩, block_below hb3 (block_below hb2 f1), own_weaken ho (by simp), hb12.trans (hb3.mono hb12.size)⟩
  rintro ⟨p1, c1⟩ V ⟨f1, ho, hb⟩
  refine ⟨_, cells_head (cells_block f1), ?_⟩
  refine Calls.mono (known_c mode V) ?_
  rintro e _ ⟨rfl, rfl⟩
  refine And.intro (fun h => ?_) (fun h => ?_)
  · have h : knownB mode = false := by simpa using h
    exact ⟨l, p1, c1, rfl, fun h2 => absurd (h.symm.trans h2) (by decide), fun _ => rfl, own_weaken ho (by omega), hb⟩
  have h : knownB mode = true := by simpa using h
  rcases ho.inv with ⟨e1, e2, e3⟩ | ⟨g, cur, e1, hBg, hgr, hlc, hcm, hcs, htk⟩
  · subst e3
    refine Calls.mono (sort0_c p1 c1 _ V) ?_
    rintro e _ ⟨⟨v, rfl⟩, rfl⟩
    exact ⟨[], p1, c1, rfl, fun _ => ⟨[], by simp [Srt], by simp, rfl⟩, fun _ => rfl, own_weaken ho (by omega), hb⟩
  · dsimp only at e1
    subst e1
    have hrow : RowM V g (cur.toList.drop (l.length * 11)) (List.map Prod.fst l.zipIdx) := by
      rw [zip_fst]
      show V.heap[g]? = _
      rw [hgr, ← htk]
      show some (Obj.cells cur 53 (0, 0)) = some (Obj.cells (cur.toList.take (l.length * 11) ++ cur.toList.drop (l.length * 11)).toArray 53 (0, 0))
      rw [List.take_append_drop]
    have hgl : g ≠ w.heap.size := by omega
    refine Calls.mono (sortStable_c #[.pointer (some ⟨w.heap.size, 0, none⟩)] (mO mode) (Good w.heap.size mode) g c1 l.length (cur.toList.drop (l.length * 11)) l.zipIdx V (cmpOk w.heap.size mode g (by omega) (Ne.symm hgl)) hn ⟨f1, hg.below hb, Nat.lt_of_lt_of_le h0 hb.size⟩ hrow (zip_places l 0) (by simp)) ?_
    rintro e W ⟨⟨v, rfl⟩, ⟨ys, y1, y2, y3⟩, hgW⟩
    have hlen : (List.map Prod.fst ys).length = l.length := by rw [List.length_map, y2.length_eq]; simp
    refine ⟨List.map Prod.fst ys, some ⟨g, 0, none⟩, c1, by rw [hlen]; rfl, fun _ => ⟨ys, y1, y2, rfl⟩, fun h2 => absurd (h.symm.trans h2) (by decide), ?_, hb.grown hgW hb.size (fun k e => by simp at e; omega)⟩
    refine ⟨flat_len _, .inr ⟨g, c1, _, rfl, by omega, y3, by omega, hcm, ?_, ?_⟩⟩
    · have hcl : cur.toList.length = cur.size := rfl
      have h11 : Msg.E.sz = 11 := rfl
      rw [h11] at hcs
      simp only [List.size_toArray, List.length_append, List.length_drop, flat_len, hlen, hcl, h11]
      have : l.length * 11 ≤ c1 * 11 := Nat.mul_le_mul_right _ hlc
      omega
    · simp only []
      rw [List.take_append_of_le_length (by rw [flat_len]; exact Nat.le_refl _), List.take_of_length_le (by rw [flat_len]; exact Nat.le_refl _)]
theorem own_cap {B cap : Nat} {w : World} {p : Option Addr} {l : List Msg} (h : OwnS Msg.E 53 B w p cap l) : l.length ≤ cap ∧ (p = none → cap = 0) := by
  rcases h.inv with ⟨_, h2, h3⟩ | ⟨g, cur, h1, _, _, h2, _⟩
  · subst h3; exact ⟨by simp, fun _ => h2⟩
  · exact ⟨h2, fun e => by rw [h1] at e; cases e⟩
end Go.Proofs.YthgmcegmgjoafaaGreatDoor
namespace Go.Proofs.YthgmcegmgjoafaaGreatDoor
open Go.Vc Go.RowKit Go.Sei
structure okMem (s : Sy) : Prop where
  homes : s.homes.length = 6
  cac : ∀ c ∈ s.caches, c.ways.length = 16 ∧ c.notes.length = 4
theorem SysV.okm {B : Nat} {w : World} {vs : List Value} {s : Sy} (h : SysV B w vs s) : okMem s := by
  obtain ⟨⟨p1, c1, p2, c2, p3, c3, _, _, ⟨b, o, _, h2⟩, _⟩, h6⟩ := h
  refine ⟨h6, fun c hc => ?_⟩
  obtain ⟨i, hi, rfl⟩ := List.getElem_of_mem hc
  exact (h2 i hi).2.2
theorem fits_ok {g : Geo} {s : Sy} (hm : okMem s) (h : fitsB g s = true) : okSy g.c.toNat s ∧ g.c.toNat ≤ 4 ∧ 1 ≤ g.c ∧ geoR g = true := by
  simp only [fitsB, fit4, Bool.and_eq_true, decide_eq_true_eq, List.all_eq_true] at h
  obtain ⟨⟨⟨⟨h1, h2⟩, h3⟩, h4⟩, h5, h6⟩ := h
  have hg := (geoR_spec h1).1
  refine ⟨⟨by omega, by omega, hm.homes, h4, fun c hc => ?_, fun c hc => ⟨(hm.cac c hc).1, (hm.cac c hc).2, fun n hn => ?_⟩⟩, by omega, by omega, h1⟩
  · have := h5 c hc
    unfold bufB at this
    exact (of_decide_eq_true this : c.buf.length ≤ 255)
  · have := h6 c hc n hn
    unfold nteB at this
    simp only [Bool.and_eq_true, decide_eq_true_eq] at this
    exact this
theorem ok_fits {g : Geo} {s : Sy} (h : okSy g.c.toNat s) (hg : geoR g = true) : fitsB g s = true := by
  have hgc := (geoR_spec hg).1
  simp only [fitsB, fit4, Bool.and_eq_true, decide_eq_true_eq, List.all_eq_true]
  have h1 := h.cores
  have h2 := h.caches
  refine ⟨⟨⟨⟨hg, by omega⟩, by omega⟩, h.net⟩, fun c hc => ?_, fun c hc n hn => ?_⟩
  · have : c.buf.length ≤ 255 := h.cor c hc
    unfold bufB; exact decide_eq_true this
  · obtain ⟨_, _, h5⟩ := h.cac c hc
    obtain ⟨h6, h7⟩ := h5 n hn
    unfold nteB; rw [decide_eq_true h6, decide_eq_true h7]; rfl
def bytesL (g : Geo) (s : Sy) : List UInt8 := if fitsB g s then encSy s else []
end Go.Proofs.YthgmcegmgjoafaaGreatDoor
namespace Go.Proofs.YthgmcegmgjoafaaGreatDoor
open Go.Vc Go.RowKit Go.Sei
def sortR (mode : UInt8) (l r : List Msg) : Prop := (knownB mode = true → IsSort mode l r) ∧ (knownB mode = false → r = l)
def eqN (mode : UInt8) (l l' : List Msg) : Prop := (knownB mode = true → EqM mode l l') ∧ (knownB mode = false → l = l')
theorem sortR_len {mode : UInt8} {l r : List Msg} (h : sortR mode l r) : r.length = l.length := by
  cases hk : knownB mode with
  | true => exact (h.1 hk).perm.length_eq
  | false => rw [h.2 hk]
theorem sortR_eq {mode : UInt8} {a b r s : List Msg} (h1 : sortR mode a r) (h2 : sortR mode b s) : r = s ↔ eqN mode a b := by
  cases hk : knownB mode with
  | true =>
    rw [isSort_eq (h1.1 hk) (h2.1 hk)]
    exact ⟨fun h => ⟨fun _ => h, fun h' => by rw [hk] at h'; cases h'⟩, fun h => h.1 hk⟩
  | false =>
    rw [h1.2 hk, h2.2 hk]
    exact ⟨fun h => ⟨fun h' => (by rw [hk] at h'; cases h'), fun _ => h⟩, fun h => h.2 hk⟩
def KeyOf (mode : UInt8) (g : Geo) (s : Sy) (k : List UInt8) : Prop := (fitsB g s = true → ∃ r, sortR mode s.net r ∧ k = encSy { s with net := r }) ∧ (fitsB g s = false → k = [])
theorem ok_net {n : Nat} {s : Sy} (h : okSy n s) {r : List Msg} (hr : r.length = s.net.length) : okSy n { s with net := r } := ⟨h.cores, h.caches, h.homes, by rw [hr]; exact h.net, h.cor, h.cac⟩
theorem key_eq {mode : UInt8} {g : Geo} {a b : Sy} {k1 k2 : List UInt8} (ma : okMem a) (mb : okMem b) (h1 : KeyOf mode g a k1) (h2 : KeyOf mode g b k2) (fa : fitsB g a = true) (fb : fitsB g b = true) :
    k1 = k2 ↔ ({ a with net := [] } : Sy) = { b with net := [] } ∧ eqN mode a.net b.net := by
  obtain ⟨r, hr, rfl⟩ := h1.1 fa
  obtain ⟨r', hr', rfl⟩ := h2.1 fb
  rw [← sortR_eq hr hr']
  have o1 := ok_net (fits_ok ma fa).1 (sortR_len hr)
  have o2 := ok_net (fits_ok mb fb).1 (sortR_len hr')
  constructor
  · intro h
    have := enc_inj o1 o2 rfl h
    simp only [Sy.mk.injEq] at this ⊢
    exact ⟨⟨this.1, this.2.1, this.2.2.1, trivial⟩, this.2.2.2⟩
  · rintro ⟨h, rfl⟩
    simp only [Sy.mk.injEq] at h
    obtain ⟨x1, x2, x3, _⟩ := h
    rw [x1, x2, x3]
theorem sys_set {a b c v : Value} {H : List Value} (h : H.length = 66) : (a :: b :: (H ++ [c])).take 68 ++ [v] ++ (a :: b :: (H ++ [c])).drop 69 = a :: b :: (H ++ [v]) := by
  simp only [List.take_succ_cons, List.drop_succ_cons]
  rw [List.take_append_of_le_length (by omega), List.take_of_length_le (by omega), List.drop_of_length_le (by rw [List.length_append, h]; exact Nat.le_refl _)]
  simp
theorem Key_s {wv vs : List Value} {g : Geo} {mode : UInt8} {s : Sy} {w : World} (hW : WorV wv g.enc mode) (hS : SysV w.heap.size w vs s) (hB : BndM w) (hG : Glob w) :
    Calls Tryz.prog 18 #[.agg wv.toArray, .agg vs.toArray] w fun e w' => ∃ k, e = .returned (strV k) ∧ KeyOf mode g s k ∧ Below w.heap.size w w' := by
  refine calls_of_E (S := sg 19) (sgOk _) (args := [.agg wv.toArray, .agg vs.toArray]) Tryz.func18 rfl rfl (Nat.le_of_ble_eq_true rfl) rfl ?_
  obtain ⟨W0, hW0⟩ : ∃ W0, (w.alloc (.cells wv.toArray 44)).alloc (.cells vs.toArray 75) = W0 := ⟨_, rfl⟩
  have hb0 : Below w.heap.size w W0 := by rw [← hW0]; exact ((Below.refl _ _).alloc (Nat.le_refl _) _).alloc (by simp) _
  have f0 : W0.heap[w.heap.size]? = some (.cells wv.toArray 44 (0, 0)) := by rw [← hW0]; exact hold _ (hnew w _)
  have f1 : W0.heap[w.heap.size + 1]? = some (.cells vs.toArray 75 (0, 0)) := by
    have := hnew (w.alloc (.cells wv.toArray 44)) (.cells vs.toArray 75)
    rw [World.size_alloc] at this
    rw [← hW0]; exact this
  have es : (w.alloc (.cells wv.toArray 44)).heap.size = w.heap.size + 1 := World.size_alloc _ _
  have hS0 := (hS.below hb0).mono hb0.size
  have hvl := hS.len
  rw [← es] at f1
  subst hW0
  refine ⟨wv, hW.len, cells_block f0, hlt f0, ?_⟩
  refine ⟨vs, hvl, cells_block f1, hlt f1, ?_⟩
  refine Calls.mono (Fits_c hW hS0 (hB.below hb0)) ?_
  rintro e V ⟨rfl, hbV⟩
  have hwV := hb0.trans (hbV.mono hb0.size)
  refine And.intro (fun h => ?_) (fun h => ?_)
  · have h : fitsB g s = false := by
      have : (!fitsB g s) = true := h
      simpa using this
    exact ⟨[], rfl, ⟨fun h' => (by rw [h] at h'; cases h'), fun _ => rfl⟩, hwV⟩
  · have h : fitsB g s = true := by
      have : (!fitsB g s) = false := h
      simpa using this
    obtain ⟨h1, h2, _⟩ := fits_ok hS.okm h
    have f0V := block_below hbV f0
    have f1V := block_below hbV f1
    obtain ⟨⟨p1, c1, p2, c2, p3, c3, hvs, hco, hca, hne, hnil⟩, h6⟩ := hS.below hwV
    have hH : (s.homes.flatMap homE.enc).length = 66 := by rw [flat_len, h6]; rfl
    have hcl := cells_block f1V
    refine ⟨_, cells_at hcl (i := 68) (by rw [hvs]; exact sys_net hH), ?_⟩
    refine ⟨_, cells_at (cells_block f0V) (i := 15) hW.mode, ?_⟩
    refine Calls.mono (Sort_c p3 c3 s.net mode V (hne.slr hwV.size) hnil (hG.below hwV) (by have := h1.net; omega)) ?_
    rintro e X ⟨r, q, cq, rfl, s1, s2, ho, hbX⟩
    have hwX := hwV.trans (hbX.mono hwV.size)
    have f1X := block_below hbX f1V
    refine store_cell (ttOk.get 45 _ rfl) rfl f1X (o := 68) (by show 68 < vs.toArray.size; simp [hvl]) (v := .slice q r.length cq) rfl rfl ?_
    intro Y fY gY sY
    have hwY : Below w.heap.size w Y := hwX.grown gY hwX.size (fun k e => by
      simp only [Option.some.injEq] at e
      rw [← e, es]; omega)
    have hvs' : vs.toArray.toList.take 68 ++ [Value.slice q r.length cq] ++ vs.toArray.toList.drop (68 + 1) = .slice p1 s.cores.length c1 :: .slice p2 s.caches.length c2 :: (s.homes.flatMap homE.enc ++ [.slice q r.length cq]) := by
      have : vs.toArray.toList = vs := rfl
      rw [this, hvs]; exact sys_set hH
    rw [hvs'] at fY
    have hoY : OwnS Msg.E 53 V.heap.size Y q cq r := ho.kept gY fun g' hg' e => by
      simp only [Option.some.injEq] at e
      rcases ho.inv with ⟨h1, _⟩ | ⟨g2, _, h1, h2, _⟩
      · rw [h1] at hg'; cases hg'
      · rw [h1] at hg'
        simp only [Option.some.injEq, Addr.mk.injEq, and_true] at hg'
        have := hlt f1V
        omega
    have hSY : SysV Y.heap.size Y (.slice p1 s.cores.length c1 :: .slice p2 s.caches.length c2 :: (s.homes.flatMap homE.enc ++ [.slice q r.length cq])) { s with net := r } := by
      obtain ⟨⟨a1, b1, a2, b2, a3, b3, hvs2, hco2, hca2, hne2, hnil2⟩, _⟩ := hS
      rw [hvs2] at hvs
      simp only [List.cons.injEq, Value.slice.injEq, true_and] at hvs
      obtain ⟨⟨rfl, rfl⟩, ⟨rfl, rfl⟩, _⟩ := hvs
      refine ⟨⟨_, _, _, _, _, _, rfl, (hco2.below hwY).mono hwY.size, (hca2.below hwY).mono hwY.size, RowB.of_slr hoY.row, fun hq => ?_⟩, h6⟩
      exact (own_cap hoY).2 hq
    refine ⟨_, ?_, cells_block fY, hlt fY, ?_⟩
    · have := hSY.len; simpa using this
    refine Calls.mono (encode_c (s := { s with net := r }) (ok_net h1 (sortR_len ⟨s1, s2⟩)) h2 hSY) ?_
    rintro e Z ⟨p, cap, rfl, hoZ, hbZ⟩
    refine ⟨_, fun w2 hb2 => conv_arg hoZ.row w2 hb2, ?_⟩
    refine ⟨_, rfl, ⟨fun _ => ⟨r, ⟨s1, s2⟩, rfl⟩, fun h' => (by rw [h] at h'; cases h')⟩, hwY.trans (hbZ.mono hwY.size)⟩
end Go.Proofs.YthgmcegmgjoafaaGreatDoor
namespace Go.Proofs.YthgmcegmgjoafaaGreatDoor
open Go.Vc Go.RowKit Go.Sei
theorem bytesLess_cmpS : ∀ (a b : List UInt8), Op.bytesLess a b = decide (cmpL a b < 0)
  | [], [] => rfl
  | _ :: _, [] => rfl
  | [], _ :: _ => rfl
  | x :: r, y :: s => by
    have ih := bytesLess_cmpS r s
    unfold Op.bytesLess
    rw [ih]
    have h := @cmpL_lt_cons x y r s
    by_cases hxy : x < y
    · have : x.toNat < y.toNat := UInt8.lt_iff_toNat_lt.1 hxy
      rw [decide_eq_true (h.2 (.inl this))]; simp [hxy]
    · have hn : ¬ x.toNat < y.toNat := fun e => hxy (UInt8.lt_iff_toNat_lt.2 e)
      by_cases he : x = y
      · subst he
        by_cases hc : cmpL r s < 0
        · rw [decide_eq_true hc, decide_eq_true (h.2 (.inr ⟨rfl, hc⟩))]; simp
        · rw [decide_eq_false hc, decide_eq_false (fun e => (h.1 e).elim hn fun e => hc e.2)]; simp [hxy]
      · rw [decide_eq_false (fun e => (h.1 e).elim hn fun e => he e.1)]; simp [hxy, he]
abbrev Str := List UInt8
def ltS (a b : Str) : Bool := decide (cmpL a b < 0)
theorem ltS_irr (a : Str) : ltS a a = false := by unfold ltS; rw [cmpL_self]; rfl
theorem ltS_trans {a b c : Str} (h1 : ltS a b = true) (h2 : ltS b c = true) : ltS a c = true := by
  unfold ltS at *
  exact decide_eq_true (cmpL_trans _ _ _ (of_decide_eq_true h1) (of_decide_eq_true h2))
theorem ltS_asymm {a b : Str} (h : ltS a b = true) : ltS b a = false := by
  cases h2 : ltS b a with
  | false => rfl
  | true => have := ltS_trans h h2; rw [ltS_irr] at this; cases this
theorem ltS_total (a b : Str) : ltS a b = true ∨ ltS b a = true ∨ a = b := by
  unfold ltS
  rcases cmpL_total a b with h | h | h
  · exact .inl (decide_eq_true h)
  · exact .inr (.inl (decide_eq_true h))
  · exact .inr (.inr h)
theorem gtr_str (x y : Operand) (a b : Str) (w : World) : (do eqGuard .gtr 9 x y (strV a) (strV b); binOp .gtr 9 (strV a) (strV b)).run Tryz.prog w = .ok (.bool (!(ltS a b || decide (a = b)))) w := by
  have h1 : (eqGuard .gtr 9 x y (strV a) (strV b)).run Tryz.prog w = .ok () w := rfl
  rw [Sem.run_bind, h1, Result.andThen_ok]
  show (Op.stringOp .gtr (bs a) (bs b)).run Tryz.prog w = _
  have hd : (a == b) = decide (a = b) := by by_cases h : a = b <;> simp [h]
  simp only [Op.stringOp, Sem.run_pure, ByteArray.toList_eq, bs_list, bytesLess_cmpS, ltS, hd]
def LeastU (S : Str → Prop) (k : Str) : Prop := S k ∧ ∀ k', S k' → ltS k' k = false
theorem LeastU.uniq {S : Str → Prop} {a b : Str} (ha : LeastU S a) (hb : LeastU S b) : a = b := by
  rcases ltS_total a b with h | h | h
  · have := hb.2 a ha.1; rw [h] at this; cases this
  · have := ha.2 b hb.1; rw [h] at this; cases this
  · exact h
theorem LeastU.congr {S T : Str → Prop} {k : Str} (h : LeastU S k) (e : ∀ k, S k ↔ T k) : LeastU T k := ⟨(e k).1 h.1, fun k' hk => h.2 k' ((e k').2 hk)⟩
def minS (a b : Str) : Str := if (ltS a b || decide (a = b)) = true then a else b
theorem LeastU.min {S : Str → Prop} {k j : Str} (h : LeastU S k) : LeastU (fun x => S x ∨ x = j) (minS k j) := by
  unfold minS
  split
  · rename_i hc
    simp only [Bool.or_eq_true, decide_eq_true_eq] at hc
    refine ⟨.inl h.1, fun k' hk => ?_⟩
    rcases hk with hk | rfl
    · exact h.2 k' hk
    · rcases hc with hc | hc
      · exact ltS_asymm hc
      · rw [hc]; exact ltS_irr _
  · rename_i hc
    simp only [Bool.or_eq_true, decide_eq_true_eq, not_or] at hc
    obtain ⟨h1, h2⟩ := hc
    have h3 : ltS j k = true := by
      rcases ltS_total k j with h4 | h4 | h4
      · exact absurd h4 h1
      · exact h4
      · exact absurd h4 h2
    refine ⟨.inr rfl, fun k' hk => ?_⟩
    rcases hk with hk | rfl
    · cases h4 : ltS k' j with
      | false => rfl
      | true => have := h.2 k' hk; rw [ltS_trans h4 h3] at this; cases this
    · exact ltS_irr _
theorem KeyOf.uniq {mode : UInt8} {g : Geo} {s : Sy} {a b : Str} (ha : KeyOf mode g s a) (hb : KeyOf mode g s b) : a = b := by
  cases hf : fitsB g s with
  | false => rw [ha.2 hf, hb.2 hf]
  | true =>
    obtain ⟨r1, h1, rfl⟩ := ha.1 hf
    obtain ⟨r2, h2, rfl⟩ := hb.1 hf
    rw [(sortR_eq h1 h2).2 ⟨fun _ => EqM.refl _ _, fun _ => rfl⟩]
def KeysT (T : List (List Int)) (md mode : UInt8) (g : Geo) (s : Sy) (k : Str) : Prop := KeyOf mode g s k ∨ ∃ a ∈ T, KeyOf mode g (turnA md a s) k
def keepT (p : Prg) (g : Geo) (md : UInt8) : List (List Int) := (allL p g md).filter (keepsL p)
def LeastP (p : Prg) (g : Geo) (md mode : UInt8) (s : Sy) (k : Str) : Prop := (fitsB g s = false → k = []) ∧ (fitsB g s = true → LeastU (KeysT (keepT p g md) md mode g s) k)
theorem min_str {T : Array TypeId} {t : TypeId} {a b : Str} {w : World} {K : Value → World → Prop} (k : K (strV (minS a b)) w) : SatR ((Builtin.min_ T t [strV a, strV b].toArray).run Tryz.prog w) K := by
  refine SatR.mk (v := strV (minS a b)) (w' := w) ?_ k
  have hd : (a == b) = decide (a = b) := by by_cases h : a = b <;> simp [h]
  show ((List.foldlM Builtin.min2 (strV a) [strV b] : Sem Value)).run Tryz.prog w = _
  simp only [List.foldlM, strV, Builtin.min2, Op.stringOp, ByteArray.toList_eq, bs_list, bytesLess_cmpS, hd, Sem.run_bind, Sem.run_pure, Result.andThen_ok, asBool]
  unfold minS ltS
  split <;> rfl
section
variable {p : Prg} {g : Geo} {md mode : UInt8} {s : Sy}
theorem keepT_mem {N : Nat} (ht : turnsL p g = true) (hN : g.c = N) {a : List Int} : a ∈ keepT p g md ↔ a ∈ grpL N (decide (md = 3)) ∧ keepsL p a = true := by
  unfold keepT
  rw [List.mem_filter, allL_grp ht hN]
theorem turnA_comp {N : Nat} (h1 : 1 ≤ N) (h4 : N ≤ 4) {a b : List Int} (ha : a ∈ grpL N (decide (md = 3))) (hb : b ∈ grpL N (decide (md = 3))) : turnA md b (turnA md a s) = turnA md (pickL 0 a b) s := by
  obtain ⟨la, _⟩ := grp_rng h1 h4 ha
  obtain ⟨lb, _⟩ := grp_rng h1 h4 hb
  unfold turnA
  have lc : (pickL 0 a b).length = N := by rw [pickL_len, lb]
  rw [la, lb, lc]
  exact turnS_comp h1 h4 ha hb rfl s
theorem turnA_iota {N : Nat} (h1 : 1 ≤ N) (h4 : N ≤ 4) (hg : g.c = N) (hf : fitsB g s = true) : turnA md (iotaL N) s = s := by
  have hi : iotaL N ∈ grpL N (decide (md = 3)) := by
    have := (grp (decide (md = 3)) h1 h4).head
    exact List.mem_of_head? this
  unfold turnA
  rw [iota_len]
  exact turnS_id h1 h4 hi rfl hg hf
theorem turnA_fits {N : Nat} (h1 : 1 ≤ N) (h4 : N ≤ 4) (hg : g.c = N) {a : List Int} (ha : a ∈ grpL N (decide (md = 3))) (hf : fitsB g s = true) : fitsB g (turnA md a s) = true := by
  obtain ⟨la, _⟩ := grp_rng h1 h4 ha
  unfold turnA
  rw [la]
  exact fits_turn h1 h4 hg ha hf
theorem pick_self {N : Nat} {c : List Int} (h : ∀ x ∈ c, 0 ≤ x ∧ x < N) : pickL 0 (iotaL N) c = c := by
  unfold pickL
  have : ∀ x ∈ c, (iotaL N).getD x.toNat 0 = x := fun x hx => by
    have := h x hx
    rw [iota_get (by omega)]; omega
  rw [List.map_congr_left (g := id) this, List.map_id]
theorem keys_back {N : Nat} (ht : turnsL p g = true) (hN : g.c = N) (h1 : 1 ≤ N) (h4 : N ≤ 4) (hp : p.threads.length = N) (hok : okPrg p = true) {a c : List Int} (ga : a ∈ grpL N (decide (md = 3))) (ka : keepsL p a = true) (gc : c ∈ grpL N (decide (md = 3))) (kc : keepsL p c = true) {k : Str} (h : KeyOf mode g (turnA md c s) k) :
    KeysT (keepT p g md) md mode g (turnA md a s) k := by
  have G := grp (decide (md = 3)) h1 h4
  obtain ⟨gb, ⟨e1, _⟩, _⟩ := G.back a ga
  have kb : keepsL p (backL a) = true := by rw [keeps_back hp G ga]; exact ka
  refine .inr ⟨pickL 0 (backL a) c, (keepT_mem ht hN).2 ⟨G.comp _ gb _ gc, keeps_comp hp G gb gc kb kc⟩, ?_⟩
  obtain ⟨lb, _⟩ := grp_rng h1 h4 gb
  obtain ⟨_, rc⟩ := grp_rng h1 h4 gc
  rw [turnA_comp h1 h4 ga (G.comp _ gb _ gc), ← pick_pick (fun x hx => by rw [lb]; exact rc x hx), e1, pick_self rc]
  exact h
theorem keys_turn {N : Nat} (ht : turnsL p g = true) (hN : g.c = N) (h1 : 1 ≤ N) (h4 : N ≤ 4) (hp : p.threads.length = N) (hok : okPrg p = true) (hf : fitsB g s = true) {a : List Int} (ha : a ∈ keepT p g md) (k : Str) :
    KeysT (keepT p g md) md mode g (turnA md a s) k ↔ KeysT (keepT p g md) md mode g s k := by
  have G := grp (decide (md = 3)) h1 h4
  obtain ⟨ga, ka⟩ := (keepT_mem ht hN).1 ha
  have hi : iotaL N ∈ grpL N (decide (md = 3)) := List.mem_of_head? G.head
  have hia : iotaL N ∈ keepT p g md := (keepT_mem ht hN).2 ⟨hi, keeps_iota hp G hok⟩
  constructor
  · rintro (h | ⟨b, hb, h⟩)
    · exact .inr ⟨a, ha, h⟩
    · obtain ⟨gb, kb⟩ := (keepT_mem ht hN).1 hb
      rw [turnA_comp h1 h4 ga gb] at h
      exact .inr ⟨_, (keepT_mem ht hN).2 ⟨G.comp a ga b gb, keeps_comp hp G ga gb ka kb⟩, h⟩
  · rintro (h | ⟨c, hc, h⟩)
    · rw [← turnA_iota (md := md) h1 h4 hN hf] at h
      exact keys_back ht hN h1 h4 hp hok ga ka hi (keeps_iota hp G hok) h
    · obtain ⟨gc, kc⟩ := (keepT_mem ht hN).1 hc
      exact keys_back ht hN h1 h4 hp hok ga ka gc kc h
end
end Go.Proofs.YthgmcegmgjoafaaGreatDoor
namespace Go.Proofs.YthgmcegmgjoafaaGreatDoor
open Go.Vc Go.RowKit Go.Sei
theorem enc_ne (s : Sy) : encSy s ≠ [] := fun h => by
  have := congrArg List.length h
  unfold encSy at this
  simp at this
theorem key_ne {mode : UInt8} {g : Geo} {s : Sy} {k : Str} (h : KeyOf mode g s k) (hf : fitsB g s = true) : k ≠ [] := by
  obtain ⟨r, _, rfl⟩ := h.1 hf
  exact enc_ne _
theorem key_fits {mode : UInt8} {g : Geo} {s : Sy} {k : Str} (h : KeyOf mode g s k) (hk : k ≠ []) : fitsB g s = true := by
  cases hf : fitsB g s with
  | true => rfl
  | false => exact absurd (h.2 hf) hk
theorem keys_nil {md mode : UInt8} {g : Geo} {s : Sy} {k : Str} (h : KeyOf mode g s k) : LeastU (KeysT [] md mode g s) k :=
  ⟨.inl h, fun k' hk => by
    rcases hk with hk | ⟨a, ha, _⟩
    · rw [hk.uniq h]; exact ltS_irr _
    · cases ha⟩
theorem keys_add {md mode : UInt8} {g : Geo} {s : Sy} {k k2 : Str} {T : List (List Int)} {x : List Int} (h : LeastU (KeysT T md mode g s) k) (h2 : KeyOf mode g (turnA md x s) k2) : LeastU (KeysT (T ++ [x]) md mode g s) (minS k k2) :=
  (h.min (j := k2)).congr fun j => by
    unfold KeysT
    constructor
    · rintro ((hj | ⟨a, ha, hj⟩) | rfl)
      · exact .inl hj
      · exact .inr ⟨a, List.mem_append.2 (.inl ha), hj⟩
      · exact .inr ⟨x, by simp, h2⟩
    · rintro (hj | ⟨a, ha, hj⟩)
      · exact .inl (.inl hj)
      · rcases List.mem_append.1 ha with ha | ha
        · exact .inl (.inr ⟨a, ha, hj⟩)
        · rw [List.mem_singleton] at ha
          subst ha
          exact .inr (hj.uniq h2)
section
variable {p : Prg} {g : Geo} {md mode : UInt8} {vs ss : List Value} {s : Sy} {w : World}
def JL (A : World) (p : Prg) (g : Geo) (md mode : UInt8) (s : Sy) (Lb Fb : Nat) (pre : List (List Int)) (X : World) : Prop :=
  Below A.heap.size A X ∧ ∃ k, X.heap[Lb]? = some (.cells #[strV k] 9 (0, 0)) ∧ X.heap[Fb]? = some (.cells #[.bool (decide (pre = []))] 4 (0, 0)) ∧ LeastU (KeysT (pre.filter fun a => suitsL g md a && keepsL p a) md mode g s) k
theorem JL.iter {A : World} {Lb Fb n0 : Nat} (hA : A.heap.size ≤ n0) : IterJO n0 (fun _ => False) (fun _ k => k = Lb ∨ k = Fb) (JL A p g md mode s Lb Fb) := by
  refine ⟨fun pre B C ⟨hb, k, f1, f2, hk⟩ hs => ?_, fun pre B k ⟨hb, j, f1, f2, _⟩ hk => ⟨?_, fun h => h⟩⟩
  · refine ⟨⟨⟨hs.os.trans hb.os, hs.tape.trans hb.tape, hs.output.trans hb.output, Nat.le_trans hb.size hs.size, fun k hk => (hs.same k (Nat.lt_of_lt_of_le hk hb.size) (.inl ⟨by omega, fun h => h⟩)).trans (hb.block k hk)⟩, k, (hs.same Lb (hlt f1) (.inr (.inl rfl))).trans f1, (hs.same Fb (hlt f2) (.inr (.inr rfl))).trans f2, hk⟩, fun k hk => hk⟩
  · rcases hk with rfl | rfl
    · exact hlt f1
    · exact hlt f2
theorem Least_c (hw : WldV w.heap.size w vs p g md) (hW : WorV vs g.enc mode) (hS : SysV w.heap.size w ss s) (hT : GlobT w) (hG : Glob w) :
    Calls Tryz.prog 16 #[.agg vs.toArray, .agg ss.toArray] w fun e w' => ∃ k, e = .returned (strV k) ∧ LeastP p g md mode s k ∧ Below w.heap.size w w' := by
  refine calls_of_M (S := sg 40) (sgOk _) (args := [.agg vs.toArray, .agg ss.toArray]) (.c .p (.c .p (.c .p (.c .p .p)))) Tryz.func16 rfl rfl (Nat.le_of_ble_eq_true rfl) rfl ?_
  obtain ⟨L, hL⟩ : ∃ L, L = w.heap.size := ⟨_, rfl⟩
  obtain ⟨A1, hA1⟩ : ∃ A1, A1 = w.alloc (.cells vs.toArray 44) := ⟨_, rfl⟩
  obtain ⟨A, hA⟩ : ∃ A, A = A1.alloc (.cells ss.toArray 75) := ⟨_, rfl⟩
  have s1 : A1.heap.size = L + 1 := by rw [hA1, World.size_alloc, hL]
  have s2 : A.heap.size = L + 2 := by rw [hA, World.size_alloc, s1]
  have q1 : some (Value.pointer (some ⟨w.heap.size, 0, none⟩)) = some (Value.pointer (some ⟨L, 0, none⟩)) := by rw [hL]
  have q2 : some (Value.pointer (some ⟨A1.heap.size, 0, none⟩)) = some (Value.pointer (some ⟨L + 1, 0, none⟩)) := by rw [s1]
  rw [hA1] at q2
  have hbA : Below w.heap.size w A := by rw [hA, hA1]; exact ((Below.refl _ w).alloc (Nat.le_refl _) _).alloc (by simp) _
  have f0 : A.heap[L]? = some (.cells vs.toArray 44 (0, 0)) := by rw [hA, hA1, hL]; exact hold _ (hnew w _)
  have f1 : A.heap[L + 1]? = some (.cells ss.toArray 75 (0, 0)) := by rw [hA, ← s1]; exact hnew A1 _
  have hwA : WldV A.heap.size A vs p g md := (hw.below hbA).mono hbA.size
  have hSA : SysV A.heap.size A ss s := (hS.below hbA).mono hbA.size
  have hTA := hT.below hbA
  have hGA := hG.below hbA
  have wc : ∀ {X : World}, Below A.heap.size A X → WldC A.heap.size X L p g md := fun {X} hb => ⟨hb.size, ⟨vs, block_below hb f0, hwA.below hb⟩, hTA.below hb⟩
  have sv : ∀ {X : World}, Below A.heap.size A X → SysV X.heap.size X ss s := fun {X} hb => (hSA.below hb).mono hb.size
  have out : ∀ {X : World}, Below A.heap.size A X → Below w.heap.size w X := fun {X} hb => hbA.trans (hb.mono hbA.size)
  refine ⟨Unit, fun _ => ⟨[(2, .pointer (some ⟨L, 0, none⟩)), (3, .pointer (some ⟨L + 1, 0, none⟩))], []⟩, fun _ X => A = X, ⟨(), ⟨.cons q1 (.cons q2 .nil), rfl⟩, (by rw [hA, hA1] : A = (w.alloc (.cells vs.toArray 44)).alloc (.cells ss.toArray 75))⟩, ?_⟩
  rintro _ _ rfl
  refine ⟨Str × Nat, fun t => ⟨[(2, .pointer (some ⟨L, 0, none⟩)), (3, .pointer (some ⟨L + 1, 0, none⟩)), (5, .pointer (some ⟨t.2, 0, none⟩))], []⟩, fun t X => (A.heap.size ≤ t.2 ∧ Below A.heap.size A X) ∧ X.heap[t.2]? = some (.cells #[strV t.1] 9 (0, 0)) ∧ KeyOf mode g s t.1, ?_, ?_⟩
  · refine ⟨vs, hw.len, cells_block f0, hlt f0, ?_⟩
    refine ⟨ss, hS.len, cells_block f1, hlt f1, ?_⟩
    refine Calls.mono (Key_s hW hSA hTA.M hGA) ?_
    rintro e V ⟨k, rfl, hk, hbV⟩
    refine store_new (X := V) (v := strV k) (ttOk.get 9 _ rfl) rfl rfl rfl fun Y hbY fY sY => ?_
    exact ⟨(k, V.heap.size), ⟨.cons rfl (.cons rfl (.cons rfl .nil)), rfl⟩, ⟨hbV.size, hbV.trans (hbY.mono hbV.size)⟩, fY, hk⟩
  clear q1 q2 hA hA1
  rintro ⟨k0, Lb⟩ X ⟨⟨hLb, hbX⟩, fk, hk⟩
  dsimp only at hLb fk hk ⊢
  refine ⟨Unit, fun _ => ⟨[(2, .pointer (some ⟨L, 0, none⟩)), (3, .pointer (some ⟨L + 1, 0, none⟩)), (5, .pointer (some ⟨Lb, 0, none⟩))], []⟩, fun _ Y => (fitsB g s = true ∧ turnsL p g = true) ∧ Below X.heap.size X Y, ?_, ?_⟩
  · refine ⟨_, cells_at (cells_block fk) (i := 0) rfl, ?_⟩
    refine ⟨_, fun w => eql_str _ _ k0 [] w, ?_⟩
    refine And.intro (fun h => ?_) (fun h => ?_)
    · have h : k0 = [] := of_decide_eq_true h
      refine brT ?_
      refine ⟨_, cells_at (cells_block fk) (i := 0) rfl, ?_⟩
      refine ⟨k0, rfl, ⟨fun _ => h, fun hf => absurd h (key_ne hk hf)⟩, out hbX⟩
    · have h : k0 ≠ [] := of_decide_eq_false h
      have hf := key_fits hk h
      refine Calls.mono (turns_c (wc hbX)) ?_
      rintro e V ⟨rfl, hbV⟩
      refine And.intro (fun h2 => ?_) (fun h2 => ?_)
      · have h2 : (!turnsL p g) = true := h2
        have h2 : turnsL p g = false := by simpa using h2
        refine ⟨_, cells_at (cells_block (block_below hbV fk)) (i := 0) rfl, ?_⟩
        refine ⟨k0, rfl, ⟨fun h => (by rw [hf] at h; cases h), fun _ => ?_⟩, out (hbX.trans (hbV.mono hbX.size))⟩
        have : keepT p g md = [] := by unfold keepT allL; rw [h2]; rfl
        rw [this]
        exact keys_nil hk
      · have h2 : (!turnsL p g) = false := h2
        have h2 : turnsL p g = true := by simpa using h2
        exact ⟨(), ⟨.cons rfl (.cons rfl (.cons rfl .nil)), rfl⟩, ⟨hf, h2⟩, hbV⟩
  rintro _ Y ⟨⟨hf, ht⟩, hbY⟩
  have fk := block_below hbY fk
  have hbY := hbX.trans (hbY.mono hbX.size)
  clear hbX
  obtain ⟨N, hN, hN1, hN4, hNt, hok⟩ := turns_parts ht
  refine ⟨Nat, fun Fb => ⟨[(2, .pointer (some ⟨L, 0, none⟩)), (3, .pointer (some ⟨L + 1, 0, none⟩)), (5, .pointer (some ⟨Lb, 0, none⟩)), (6, .pointer (some ⟨Fb, 0, none⟩))], []⟩, fun Fb Z => (A.heap.size ≤ Fb ∧ Fb ≠ Lb) ∧ Below A.heap.size A Z ∧ Z.heap[Lb]? = some (.cells #[strV k0] 9 (0, 0)) ∧ Z.heap[Fb]? = some (.cells #[.bool true] 4 (0, 0)), ?_, ?_⟩
  · refine store_new (X := Y) (v := .bool true) (ttOk.get 4 _ rfl) rfl rfl rfl fun Z hbZ fZ sZ => ?_
    exact ⟨Y.heap.size, ⟨.cons rfl (.cons rfl (.cons rfl (.cons rfl .nil))), rfl⟩, ⟨hbY.size, fun e => by have := hlt fk; omega⟩, hbY.trans (hbZ.mono hbY.size), block_below hbZ fk, fZ⟩
  clear fk hbY
  rintro Fb Z ⟨⟨hFb, hne⟩, hbZ, fk, fF⟩
  obtain ⟨pc, rest, hp, c1, c2, c3, hm, hlw⟩ := (wc hbZ).cells
  refine ⟨i64 N, by rw [← hN]; exact cells_at c2 (i := 0) rfl, ?_⟩
  refine Calls.mono permutations_c ?_
  rintro e W1 ⟨rfl, hW1⟩
  have hbW1 : Below Z.heap.size Z W1 := by rw [hW1]; exact (Below.refl _ Z).alloc (Nat.le_refl _) _
  have sW1 : W1.heap.size = Z.heap.size + 1 := by rw [hW1, World.size_alloc]
  have fbx : W1.heap[Z.heap.size]? = some (.cells #[i64 N] 3 (0, 0)) := by rw [hW1]; exact hnew Z _
  have J0 : JL A p g md mode s Lb Fb [] W1 := ⟨hbZ.trans (hbW1.mono hbZ.size), k0, block_below hbW1 fk, block_below hbW1 fF, keys_nil hk⟩
  obtain ⟨hch, hlen, rest0, hhd⟩ := perms_ok hN1 hN4
  have hLz := hlt fk
  have hFz := hlt fF
  refine rangeL (sgOk _) rfl (lb := #[.pointer (some ⟨Z.heap.size, 0, none⟩)]) rfl rfl (perms1_c fbx hN1 hN4) (Nat.le_refl _) (fun k hk => ⟨by rcases hk with rfl | hk; omega; exact hk.elim, rfl⟩) (fun pre vs W ⟨l, b, _, h, _⟩ => by rw [h]; rfl) (by decide)
    (fun _ k => k = Lb ∨ k = Fb) (JL A p g md mode s Lb Fb) (fun _ _ _ => False) ?_ (JL.iter (by have := hbZ.size; omega)) (fun ex => ⟨fun _ _ _ h => h.elim, fun _ _ _ h => h.elim⟩) J0 ?_ ?_ ?_
  · rintro k rfl hf
    omega
  · rintro yl pre x vs' W hyl hpre hJ ⟨x', b0, hx', rfl, hb0, hB0⟩ hfy ⟨lo, hlo⟩
    have hx' : x = x' := by simpa using hx'
    subst hx'
    refine ⟨rfl, Keeps.refl _ _, hJ, ?_⟩
    rintro o W2 hW2 hJ2 hF2
    have hne0 : b0 ≠ yl := fun e => by rw [e, hlo] at hb0; cases hb0
    have f2 : W2.heap[b0]? = some (.cells (x.map i64).toArray 3 (0, 0)) := by rw [hW2, heap_put_old hne0]; exact hb0
    have hxl : x.length = N := hlen x (hpre.subset (by simp))
    have hxp : x ∈ permsL N := hpre.subset (by simp)
    have hrow : SlR Go.Sei.intE W2 (some ⟨b0, 0, none⟩) x := SlR.of_cells (hlt f2) (by rw [ints_map]; exact cells_block f2)
    obtain ⟨hb2, k, fk2, fF2, hk2⟩ := hJ2
    refine ⟨_, cells_at (cells_block fF2) (i := 0) rfl, ?_⟩
    refine And.intro (fun hc => ?_) (fun hc => ?_)
    · have hc : pre = [] := of_decide_eq_true hc
      subst hc
      refine store_box (v := .bool false) (ttOk.get 4 _ rfl) fF2 rfl rfl rfl ?_
      have hxi : x = iotaL N := by
        obtain ⟨r, hr⟩ := hpre
        rw [hhd] at hr
        simp only [List.nil_append, List.cons_append, List.cons.injEq] at hr
        exact hr.1
      refine And.intro ⟨below_setRow hb2 hFb _, k, (setRow_old (Ne.symm hne)).trans fk2, setRow_new fF2, ?_⟩ ⟨rfl, rfl, rfl, by simp, fun j hj hjf => setRow_old (fun e => hjf (.inr e)), fun j hj => .inl hj⟩
      refine hk2.congr fun j => ⟨fun hj => ?_, fun hj => ?_⟩
      · rcases hj with hj | ⟨a, ha, hj⟩
        · exact .inl hj
        · cases ha
      · rcases hj with hj | ⟨a, ha, hj⟩
        · exact .inl hj
        · have ha := (List.mem_filter.1 ha).1
          simp only [List.nil_append, List.mem_singleton] at ha
          subst ha
          rw [hxi, turnA_iota hN1 hN4 hN hf] at hj
          exact .inl hj
    · have hc : pre ≠ [] := of_decide_eq_false hc
      have hdn : decide (pre ++ [x] = []) = false := decide_eq_false (by simp)
      have hdp : decide (pre = []) = false := decide_eq_false hc
      rw [hdp] at fF2
      refine Calls.mono (suits_c (wc hb2) hrow (by omega) (by omega)) ?_
      rintro e U ⟨rfl, hbU⟩
      have hb2U := hb2.trans (hbU.mono hb2.size)
      have stay : ∀ (U' : World), Below W2.heap.size W2 U' → (suitsL g md x && keepsL p x) = false → JL A p g md mode s Lb Fb (pre ++ [x]) U' ∧ Keeps (fun _ k => k = Lb ∨ k = Fb) W2 U' := fun U' hbU' hfx => by
        refine ⟨⟨hb2.trans (hbU'.mono hb2.size), k, block_below hbU' fk2, by rw [hdn]; exact block_below hbU' fF2, ?_⟩, Keeps.of_below hbU' (fun j hj => .inl hj)⟩
        rw [List.filter_append, show [x].filter (fun a => suitsL g md a && keepsL p a) = [] by simp [hfx], List.append_nil]
        exact hk2
      refine And.intro (fun hs => ?_) (fun hs => ?_)
      · have hs : suitsL g md x = true := hs
        have hfx : (turnsL p g && suitsL g md x) = true := by rw [ht, hs]; rfl
        have hxr : ∀ y ∈ x, 0 ≤ y ∧ y < p.threads.length := by
          have hs2 := hs
          simp only [suitsL, permL, Bool.and_eq_true, decide_eq_true_eq] at hs2
          intro y hy
          have := perm_range hs2.1.2 y hy
          omega
        refine Calls.mono (keeps_c (wc hb2U) (hrow.below hbU) hxr (by omega)) ?_
        rintro e U2 ⟨rfl, hbU2⟩
        have hbW2U2 := hbU.trans (hbU2.mono hbU.size)
        have hb2U2 := hb2.trans (hbW2U2.mono hb2.size)
        refine And.intro (fun hkx => ?_) (fun hkx => ?_)
        · have hkx : keepsL p x = true := hkx
          refine DrawE.ord [9] [0, 1, 2, 4, 5, 3, 6, 7, 8, 9] (by kernel_rfl) ?_
          have hbd : Below U2.heap.size U2 U2.drew := (Below.refl _ U2).drew
          have hb2d := hb2U2.trans (hbd.mono hb2U2.size)
          have hW2d := hbW2U2.trans (hbd.mono hbW2U2.size)
          refine ⟨_, cells_at (cells_block (block_below hW2d fk2)) (i := 0) rfl, ?_⟩
          refine ⟨vs, hw.len, cells_block (block_below hb2d f0), hlt (block_below hb2d f0), ?_⟩
          refine ⟨ss, hS.len, cells_block (block_below hb2d f1), hlt (block_below hb2d f1), ?_⟩
          refine Calls.mono (newIndex_c (wc hb2d) hN hN4 (hrow.below hW2d) (fun y hy => by have := hxr y hy; omega) (by omega)) ?_
          rintro e V ⟨rfl, hbV⟩
          refine ⟨hbV, ?_⟩
          have hW2V := hW2d.trans (hbV.mono hW2d.size)
          have hb2V := hb2.trans (hW2V.mono hb2.size)
          have hsys := idxSys_c (cap := x.length) (sv hb2V) (hrow.below hW2V) hfx hf
          rw [show idxC x.length (decide (md = 3)) (toN x x.length) = idxC N (decide (md = 3)) (toN x x.length) by rw [hxl]] at hsys
          refine Calls.mono hsys ?_
          rintro e V2 ⟨ts, rfl, hts, hbV2⟩
          refine ⟨hbV2, ?_⟩
          have hW2V2 := hW2V.trans (hbV2.mono hW2V.size)
          have hb2V2 := hb2.trans (hW2V2.mono hb2.size)
          refine Calls.mono (Key_s hW hts (hTA.below hb2V2).M (hGA.below hb2V2)) ?_
          rintro e V3 ⟨k2, rfl, hk3, hbV3⟩
          refine ⟨hbV3, ?_⟩
          have hW2V3 := hW2V2.trans (hbV3.mono hW2V2.size)
          have hb2V3 := hb2.trans (hW2V3.mono hb2.size)
          refine min_str ?_
          refine ⟨Below.refl _ _, ?_⟩
          refine store_box (v := strV (minS k k2)) (ttOk.get 9 _ rfl) (block_below hW2V3 fk2) rfl rfl rfl ?_
          refine And.intro ⟨below_setRow hb2V3 hLb _, minS k k2, setRow_new (block_below hW2V3 fk2), by rw [hdn]; exact (setRow_old hne).trans (block_below hW2V3 fF2), ?_⟩ ⟨hW2V3.os, hW2V3.tape, hW2V3.output, by rw [show (V3.setRow Lb (strV (minS k k2)).cells).heap.size = V3.heap.size by simp]; exact hW2V3.size, fun j hj hjf => (setRow_old (fun e => hjf (.inl e))).trans (hW2V3.block j hj), fun j hj => .inl hj⟩
          rw [List.filter_append, show [x].filter (fun a => suitsL g md a && keepsL p a) = [x] by simp [hs, hkx]]
          exact keys_add hk2 hk3
        · have hkx : keepsL p x = false := hkx
          exact stay U2 hbW2U2 (by rw [hkx, Bool.and_false])
      · have hs : suitsL g md x = false := hs
        refine brF ?_
        exact stay U hbU (by rw [hs, Bool.false_and])
  · intro D W hD hfD hJ hdef
    obtain ⟨hbW, k, fkW, fFW, hkW⟩ := hJ
    refine ⟨_, cells_at (cells_block fkW) (i := 0) rfl, ?_⟩
    refine ⟨_, rfl, hdef, ?_⟩
    refine ⟨k, rfl, ⟨fun h => (by rw [hf] at h; cases h), fun _ => ?_⟩, below_put (out hbW) (by have := hbA.size; have := hbZ.size; omega) _⟩
    have : (permsL N).filter (fun a => suitsL g md a && keepsL p a) = keepT p g md := by
      unfold keepT allL
      rw [if_pos ht, List.filter_filter, show g.c.toNat = N by omega]
      refine List.filter_congr fun a _ => ?_
      rw [Bool.and_comm]
    rw [← this]
    exact hkW
  · rintro D ex pre W hD hfD hpre h
    exact h.elim
end
end Go.Proofs.YthgmcegmgjoafaaGreatDoor
namespace Go.Proofs.YthgmcegmgjoafaaGreatDoor
open Go.Vc Go.RowKit Go.Sei
theorem le_of {a b : Str} (h : ltS b a = false) : (ltS a b || decide (a = b)) = true := by
  rcases ltS_total a b with h1 | h1 | h1
  · rw [h1]; rfl
  · rw [h] at h1; cases h1
  · rw [decide_eq_true h1, Bool.or_true]
section
variable {p : Prg} {g : Geo} {md mode : UInt8} {vs ss : List Value} {s : Sy} {w : World}
theorem turnLeast_c {n : UInt8} (hw : WldV w.heap.size w vs p g md) (hW : WorV vs g.enc mode) (h1 : vs.all Value.oneCell' = true) (hS : SysV w.heap.size w ss s) (hLn : Lens s) (hT : GlobT w) (hG : Glob w) :
    Calls Tryz.prog 4 #[.agg vs.toArray, .agg ss.toArray, u8 n] w fun e w' => e = .returned (.bool true) ∧ Below w.heap.size w w' := by
  refine calls_of_M (S := sg 123) (sgOk _) (args := [.agg vs.toArray, .agg ss.toArray, u8 n]) (.c .p (.c .p (.c .p (.c .p (.c .p (.c .p (.c .p (.c .p (.c .p (.c .p (.c .p .p))))))))))) Tryz.func4 rfl rfl (Nat.le_of_ble_eq_true rfl) rfl ?_
  obtain ⟨L, hL⟩ : ∃ L, L = w.heap.size := ⟨_, rfl⟩
  obtain ⟨A1, hA1⟩ : ∃ A1, A1 = w.alloc (.cells vs.toArray 44) := ⟨_, rfl⟩
  obtain ⟨A, hA⟩ : ∃ A, A = A1.alloc (.cells ss.toArray 75) := ⟨_, rfl⟩
  have s1 : A1.heap.size = L + 1 := by rw [hA1, World.size_alloc, hL]
  have s2 : A.heap.size = L + 2 := by rw [hA, World.size_alloc, s1]
  have q1 : some (Value.pointer (some ⟨w.heap.size, 0, none⟩)) = some (Value.pointer (some ⟨L, 0, none⟩)) := by rw [hL]
  have q2 : some (Value.pointer (some ⟨A1.heap.size, 0, none⟩)) = some (Value.pointer (some ⟨L + 1, 0, none⟩)) := by rw [s1]
  rw [hA1] at q2
  have hbA : Below w.heap.size w A := by rw [hA, hA1]; exact ((Below.refl _ w).alloc (Nat.le_refl _) _).alloc (by simp) _
  have f0 : A.heap[L]? = some (.cells vs.toArray 44 (0, 0)) := by rw [hA, hA1, hL]; exact hold _ (hnew w _)
  have f1 : A.heap[L + 1]? = some (.cells ss.toArray 75 (0, 0)) := by rw [hA, ← s1]; exact hnew A1 _
  have hwA : WldV A.heap.size A vs p g md := (hw.below hbA).mono hbA.size
  have hSA : SysV A.heap.size A ss s := (hS.below hbA).mono hbA.size
  have hTA := hT.below hbA
  have hGA := hG.below hbA
  have wv : ∀ {X : World}, Below A.heap.size A X → WldV X.heap.size X vs p g md := fun {X} hb => (hwA.below hb).mono hb.size
  have sv : ∀ {X : World}, Below A.heap.size A X → SysV X.heap.size X ss s := fun {X} hb => (hSA.below hb).mono hb.size
  have out : ∀ {X : World}, Below A.heap.size A X → Below w.heap.size w X := fun {X} hb => hbA.trans (hb.mono hbA.size)
  have fin : ∀ {R : Ending → World → Prop} {X : World}, Below A.heap.size A X → (∀ w', Below w.heap.size w w' → R (.returned (.bool true)) w') → Calls Tryz.prog 7 #[] X R := fun {R X} hb hR => Calls.mono (awake_c (hTA.below hb)) fun e Z ⟨he, hbZ⟩ => by rw [he]; exact hR _ (out (hb.trans (hbZ.mono hb.size)))
  refine ⟨Unit, fun _ => ⟨[(2, u8 n), (3, .pointer (some ⟨L, 0, none⟩)), (4, .pointer (some ⟨L + 1, 0, none⟩))], []⟩, fun _ X => A = X, ⟨(), ⟨.cons rfl (.cons q1 (.cons q2 .nil)), rfl⟩, (by rw [hA, hA1] : A = (w.alloc (.cells vs.toArray 44)).alloc (.cells ss.toArray 75))⟩, ?_⟩
  rintro _ _ rfl
  refine ⟨Unit, fun _ => ⟨[(2, u8 n), (3, .pointer (some ⟨L, 0, none⟩)), (4, .pointer (some ⟨L + 1, 0, none⟩))], []⟩, fun _ X => Below A.heap.size A X, ?_, ?_⟩
  · refine ⟨ss, hS.len, cells_block f1, hlt f1, ?_⟩
    refine Calls.mono (few_c hSA hLn) ?_
    rintro e V ⟨b, rfl, hb, hbV⟩
    refine And.intro (fun h => ?_) (fun h => ?_)
    · exact fin hbV fun w' hb => ⟨rfl, hb⟩
    · exact ⟨(), ⟨.cons rfl (.cons rfl (.cons rfl .nil)), rfl⟩, hbV⟩
  clear q1 q2 hA hA1 s1
  rintro _ X hX
  refine ⟨Str, fun k => ⟨[(2, u8 n), (3, .pointer (some ⟨L, 0, none⟩)), (4, .pointer (some ⟨L + 1, 0, none⟩)), (7, strV k)], []⟩, fun k Y => Below A.heap.size A Y ∧ LeastP p g md mode s k, ?_, ?_⟩
  · refine ⟨vs, hw.len, cells_block (block_below hX f0), hlt (block_below hX f0), ?_⟩
    refine ⟨ss, hS.len, cells_block (block_below hX f1), hlt (block_below hX f1), ?_⟩
    refine Calls.mono (Least_c (wv hX) hW (sv hX) (hTA.below hX) (hGA.below hX)) ?_
    rintro e V ⟨k, rfl, hk, hbV⟩
    exact ⟨k, ⟨.cons rfl (.cons rfl (.cons rfl (.cons rfl .nil))), rfl⟩, hX.trans (hbV.mono hX.size), hk⟩
  clear hX
  rintro k X ⟨hX, hLP⟩
  have key : ∀ {X : World}, Below A.heap.size A X → Calls Tryz.prog 18 #[.agg vs.toArray, .agg ss.toArray] X fun e w' => ∃ k, e = .returned (strV k) ∧ KeyOf mode g s k ∧ Below A.heap.size A w' := fun {X} hb => Calls.mono (Key_s hW (sv hb) (hTA.below hb).M (hGA.below hb)) fun e V ⟨k, he, hk, hbV⟩ => ⟨k, he, hk, hb.trans (hbV.mono hb.size)⟩
  refine ⟨Unit, fun _ => ⟨[(2, u8 n), (3, .pointer (some ⟨L, 0, none⟩)), (4, .pointer (some ⟨L + 1, 0, none⟩)), (7, strV k)], []⟩, fun _ Y => Below A.heap.size A Y ∧ fitsB g s = true, ?_, ?_⟩
  · refine ⟨vs, hw.len, cells_block (block_below hX f0), hlt (block_below hX f0), ?_⟩
    refine ⟨ss, hS.len, cells_block (block_below hX f1), hlt (block_below hX f1), ?_⟩
    refine Calls.mono (Fits_c hW (sv hX) (hTA.below hX).M) ?_
    rintro e V ⟨rfl, hbV⟩
    have hV := hX.trans (hbV.mono hX.size)
    refine And.intro (fun h => ?_) (fun h => ?_)
    · have h : (!fitsB g s) = true := h
      have h : fitsB g s = false := by simpa using h
      refine ⟨_, fun w => eql_str _ _ k [] w, ?_⟩
      refine brE (decide_eq_true (hLP.1 h)) ?_
      exact fin hV fun w' hb => ⟨rfl, hb⟩
    · have h : (!fitsB g s) = false := h
      have h : fitsB g s = true := by simpa using h
      exact ⟨(), ⟨.cons rfl (.cons rfl (.cons rfl (.cons rfl .nil))), rfl⟩, hV, h⟩
  clear hX
  rintro _ X ⟨hX, hf⟩
  have hLU := hLP.2 hf
  clear hLP
  refine ⟨Str, fun k1 => ⟨[(2, u8 n), (3, .pointer (some ⟨L, 0, none⟩)), (4, .pointer (some ⟨L + 1, 0, none⟩)), (7, strV k), (8, .bool (decide (k = k1)))], []⟩, fun k1 Y => Below A.heap.size A Y ∧ KeyOf mode g s k1, ?_, ?_⟩
  · refine ⟨vs, hw.len, cells_block (block_below hX f0), hlt (block_below hX f0), ?_⟩
    refine ⟨ss, hS.len, cells_block (block_below hX f1), hlt (block_below hX f1), ?_⟩
    refine Calls.mono (key hX) ?_
    rintro e V ⟨k1, rfl, hk1, hV⟩
    refine ⟨_, fun w => eql_str _ _ k k1 w, ?_⟩
    exact ⟨k1, ⟨.cons rfl (.cons rfl (.cons rfl (.cons rfl (.cons rfl .nil)))), rfl⟩, hV, hk1⟩
  clear hX
  rintro k1 X ⟨hX, hk1⟩
  refine ⟨Unit, fun _ => ⟨[(2, u8 n), (3, .pointer (some ⟨L, 0, none⟩)), (4, .pointer (some ⟨L + 1, 0, none⟩)), (7, strV k), (8, .bool (decide (k = k1)))], []⟩, fun _ Y => Below A.heap.size A Y, ?_, ?_⟩
  · refine ⟨vs, hw.len, cells_block (block_below hX f0), hlt (block_below hX f0), ?_⟩
    refine ⟨ss, hS.len, cells_block (block_below hX f1), hlt (block_below hX f1), ?_⟩
    refine Calls.mono (key hX) ?_
    rintro e V ⟨k2, rfl, hk2, hV⟩
    refine ⟨_, fun w => gtr_str _ _ k k2 w, ?_⟩
    refine brN (by rw [le_of (hLU.2 k2 (.inl hk2))]; rfl) ?_
    exact ⟨(), ⟨.cons rfl (.cons rfl (.cons rfl (.cons rfl (.cons rfl .nil)))), rfl⟩, hV⟩
  clear hX
  rintro _ X hX
  refine ⟨Bool, fun fd => ⟨[(2, u8 n), (3, .pointer (some ⟨L, 0, none⟩)), (4, .pointer (some ⟨L + 1, 0, none⟩)), (7, strV k), (8, .bool fd)], []⟩, fun fd Y => Below A.heap.size A Y ∧ fd = true, ?_, ?_⟩
  · refine ⟨vs, hw.len, cells_block (block_below hX f0), hlt (block_below hX f0), ?_⟩
    refine Calls.mono (All_c hX.size (hwA.below hX) (hTA.below hX)) ?_
    rintro e V ⟨q, c, xs, rfl, hxs, hr, he, hbV⟩
    have hV := hX.trans (hbV.mono hX.size)
    refine ⟨Nat × Bool, fun t => ⟨[(2, u8 n), (3, .pointer (some ⟨L, 0, none⟩)), (4, .pointer (some ⟨L + 1, 0, none⟩)), (7, strV k), (8, .bool t.2), (44, .slice q xs.length c), (45, i64 xs.length), (46, i64 (t.1 : Nat))], []⟩, fun t Y => t.1 ≤ xs.length ∧ Below V.heap.size V Y ∧ (t.2 = true ∨ (k ≠ k1 ∧ ∀ x ∈ xs.take t.1, keepsL p x.1 = true → ¬ KeyOf mode g (turnA md x.1 s) k)), fun t => xs.length - t.1, (0, decide (k = k1)),
      ⟨.cons rfl (.cons rfl (.cons rfl (.cons rfl (.cons rfl (.cons rfl (.cons rfl (.cons rfl .nil))))))), rfl⟩, ⟨Nat.zero_le _, Below.refl _ _, ?_⟩, ?_⟩
    · by_cases h : k = k1
      · exact .inl (decide_eq_true h)
      · exact .inr ⟨h, fun x hx => by cases hx⟩
    rintro ⟨i, fd⟩ Y ⟨hi, hbY, hfd⟩
    dsimp only at hi hfd ⊢
    have hY := hV.trans (hbY.mono hV.size)
    refine And.intro (fun hc => ?_) (fun hc => ?_)
    · have hc : (i : Int) < (xs.length : Int) := of_decide_eq_true hc
      have hil : i < xs.length := by omega
      obtain ⟨b, o, rfl, hbs, hat⟩ := (hr.below hbY).at hil
      have hmem : xs[i].1 ∈ allL p g md := by rw [← hxs]; exact List.mem_map_of_mem (List.getElem_mem hil)
      have hxr : SlR Go.Sei.intE Y xs[i].2.1 xs[i].1 := (he _ (List.getElem_mem hil)).below hbY
      have ht : turnsL p g = true := allL_some fun h => by rw [h] at hmem; cases hmem
      obtain ⟨N, hN, hN1, hN4, hNt, hok⟩ := turns_parts ht
      have hg : xs[i].1 ∈ grpL N (decide (md = 3)) := by rw [← allL_grp ht hN]; exact hmem
      have hfx : (turnsL p g && suitsL g md xs[i].1) = true := by rw [ht, grp_suits hN hg]; rfl
      obtain ⟨hlx, _⟩ := grp_rng hN1 hN4 hg
      refine ⟨i, rfl, hil, ?_⟩
      refine ⟨_, cells_at (hat i hil) (i := 0) rfl, ?_⟩
      refine ⟨vs, hw.len, cells_block (block_below hY f0), hlt (block_below hY f0), ?_⟩
      refine ⟨ss, hS.len, cells_block (block_below hY f1), hlt (block_below hY f1), ?_⟩
      refine Calls.mono (Sys_c (wv hY) (sv hY) (hTA.below hY) h1 hxr hfx) ?_
      rintro e U ⟨hbU, ⟨hff, _⟩ | ⟨_, ts, rfl, hts⟩⟩
      · rw [hf] at hff; cases hff
      have hts : SysV U.heap.size U ts (turnA md xs[i].1 s) := hts
      refine store_new (X := U) (v := .agg ts.toArray) (ttOk.get 75 _ rfl) hts.len rfl hts.one fun Z hbZ fZ sZ => ?_
      have fZ : Z.heap[U.heap.size]? = some (.cells ts.toArray 75 (0, 0)) := fZ
      have hbYZ := hbU.trans (hbZ.mono hbU.size)
      have hZ := hY.trans (hbYZ.mono hY.size)
      have htsZ : ∀ {T : World}, Below Z.heap.size Z T → SysV T.heap.size T ts (turnA md xs[i].1 s) := fun {T} hb => (((hts.below hbZ).mono hbZ.size).below hb).mono hb.size
      refine brF ?_
      refine ⟨vs, hw.len, cells_block (block_below hZ f0), hlt (block_below hZ f0), ?_⟩
      refine Calls.mono (Keeps_c (hZ.size) (hwA.below hZ) (hTA.below hZ) h1 (hxr.below hbYZ) (by omega)) ?_
      rintro e T ⟨rfl, hbT⟩
      rw [hfx, Bool.true_and]
      have hbYT := hbYZ.trans (hbT.mono hbYZ.size)
      have hT' := hY.trans (hbYT.mono hY.size)
      have hbVT := hbY.trans (hbYT.mono hbY.size)
      have nxt : ((i + 1 : Nat) : Int) = IntKind.i64.wrap ((i : Int) + 1) := by rw [wrap_i64 (by have : xs.length ≤ 24 := by { have := allL_len (p := p) (g := g) (md := md); rw [← hxs, List.length_map] at this; exact this }; omega)]; omega
      have htk : xs.take (i + 1) = xs.take i ++ [xs[i]] := List.take_succ_eq_append_getElem hil
      refine And.intro (fun hkp => ?_) (fun hkp => ?_)
      · have hkp : keepsL p xs[i].1 = true := hkp
        have hkm : xs[i].1 ∈ keepT p g md := by unfold keepT; exact List.mem_filter.2 ⟨hmem, hkp⟩
        have rest : ∀ (T2 : World) (fd2 : Bool), Below Z.heap.size Z T2 → (fd2 = true ∨ (k ≠ k1 ∧ ∀ x ∈ xs.take (i + 1), keepsL p x.1 = true → ¬ KeyOf mode g (turnA md x.1 s) k)) → (i + 1 ≤ xs.length ∧ Below V.heap.size V T2 ∧ (fd2 = true ∨ (k ≠ k1 ∧ ∀ x ∈ xs.take (i + 1), keepsL p x.1 = true → ¬ KeyOf mode g (turnA md x.1 s) k))) := fun T2 fd2 hb h => ⟨hil, hbY.trans ((hbYZ.trans (hb.mono hbYZ.size)).mono hbY.size), h⟩
        cases fd with
        | true =>
          refine brT ?_
          refine ⟨vs, hw.len, cells_block (block_below hT' f0), hlt (block_below hT' f0), ?_⟩
          refine ⟨ts, hts.len, cells_block (block_below hbT fZ), hlt (block_below hbT fZ), ?_⟩
          refine Calls.mono (Key_s hW (htsZ hbT) (hTA.below hT').M (hGA.below hT')) ?_
          rintro e T2 ⟨k4, rfl, hk4, hbT2⟩
          refine ⟨_, fun w => gtr_str _ _ k k4 w, ?_⟩
          refine brN (by rw [le_of (hLU.2 k4 (.inr ⟨_, hkm, hk4⟩))]; rfl) ?_
          refine ⟨_, nxt.symm, ?_⟩
          exact ⟨(i + 1, true), ⟨.cons rfl (.cons rfl (.cons rfl (.cons rfl (.cons rfl (.cons rfl (.cons rfl (.cons rfl .nil))))))), rfl⟩, rest T2 true (hbT.trans (hbT2.mono hbT.size)) (.inl rfl), by dsimp only; omega⟩
        | false =>
          refine brF ?_
          refine ⟨vs, hw.len, cells_block (block_below hT' f0), hlt (block_below hT' f0), ?_⟩
          refine ⟨ts, hts.len, cells_block (block_below hbT fZ), hlt (block_below hbT fZ), ?_⟩
          refine Calls.mono (Key_s hW (htsZ hbT) (hTA.below hT').M (hGA.below hT')) ?_
          rintro e T2 ⟨k3, rfl, hk3, hbT2⟩
          refine ⟨_, fun w => eql_str _ _ k k3 w, ?_⟩
          have hbZ2 := hbT.trans (hbT2.mono hbT.size)
          have hT2 := hT'.trans (hbT2.mono hT'.size)
          refine ⟨vs, hw.len, cells_block (block_below hT2 f0), hlt (block_below hT2 f0), ?_⟩
          refine ⟨ts, hts.len, cells_block (block_below hbZ2 fZ), hlt (block_below hbZ2 fZ), ?_⟩
          refine Calls.mono (Key_s hW (htsZ hbZ2) (hTA.below hT2).M (hGA.below hT2)) ?_
          rintro e T3 ⟨k4, rfl, hk4, hbT3⟩
          refine ⟨_, fun w => gtr_str _ _ k k4 w, ?_⟩
          refine brN (by rw [le_of (hLU.2 k4 (.inr ⟨_, hkm, hk4⟩))]; rfl) ?_
          refine ⟨_, nxt.symm, ?_⟩
          refine ⟨(i + 1, decide (k = k3)), ⟨.cons rfl (.cons rfl (.cons rfl (.cons rfl (.cons rfl (.cons rfl (.cons rfl (.cons rfl .nil))))))), rfl⟩, rest T3 (decide (k = k3)) (hbZ2.trans (hbT3.mono hbZ2.size)) ?_, by dsimp only; omega⟩
          by_cases h3 : k = k3
          · exact .inl (decide_eq_true h3)
          · right
            rcases hfd with hfd | ⟨hfd1, hfd2⟩
            · cases hfd
            · refine ⟨hfd1, fun x hx hkx => ?_⟩
              rw [htk] at hx
              rcases List.mem_append.1 hx with hx | hx
              · exact hfd2 x hx hkx
              · rw [List.mem_singleton] at hx
                subst hx
                exact fun hk => h3 (hk.uniq hk3)
      · have hkp : keepsL p xs[i].1 = false := hkp
        refine ⟨_, nxt.symm, ?_⟩
        refine ⟨(i + 1, fd), ⟨.cons rfl (.cons rfl (.cons rfl (.cons rfl (.cons rfl (.cons rfl (.cons rfl (.cons rfl .nil))))))), rfl⟩, ⟨hil, hbVT, ?_⟩, by dsimp only; omega⟩
        rcases hfd with hfd | ⟨hfd1, hfd2⟩
        · exact .inl hfd
        · refine .inr ⟨hfd1, fun x hx hkx => ?_⟩
          rw [htk] at hx
          rcases List.mem_append.1 hx with hx | hx
          · exact hfd2 x hx hkx
          · rw [List.mem_singleton] at hx
            subst hx
            rw [hkp] at hkx; cases hkx
    · have hc : ¬ (i : Int) < (xs.length : Int) := of_decide_eq_false hc
      refine ⟨fd, ⟨.cons rfl (.cons rfl (.cons rfl (.cons rfl (.cons rfl .nil)))), rfl⟩, hY, ?_⟩
      rcases hfd with hfd | ⟨hfd1, hfd2⟩
      · exact hfd
      · exfalso
        rw [List.take_of_length_le (by omega)] at hfd2
        rcases hLU.1 with h | ⟨a, ha, h⟩
        · exact hfd1 (h.uniq hk1)
        · have ha := List.mem_filter.1 ha
          have hm : a ∈ xs.map (·.1) := by rw [hxs]; exact ha.1
          obtain ⟨x, hx, rfl⟩ := List.mem_map.1 hm
          exact hfd2 x hx ha.2 h
  clear hX
  rintro _ X ⟨hX, rfl⟩
  refine ⟨PrmR × Bool, fun t => ⟨[(3, .pointer (some ⟨L, 0, none⟩)), (4, .pointer (some ⟨L + 1, 0, none⟩)), (7, strV k), (8, .bool true), (13, .slice t.1.2.1 t.1.1.length t.1.2.2), (14, .bool t.2)], []⟩, fun t Y => Below A.heap.size A Y ∧ PickI (allL p g md) t Y, ?_, ?_⟩
  · refine ⟨vs, hw.len, cells_block (block_below hX f0), hlt (block_below hX f0), ?_⟩
    refine Calls.mono (pick_c hX.size (hwA.below hX) (hTA.below hX)) ?_
    rintro e V ⟨hbV, ⟨h0, rfl⟩ | ⟨l, q, c, hl, rfl, hs⟩⟩
    · exact ⟨(([], none, 0), false), ⟨.cons rfl (.cons rfl (.cons rfl (.cons rfl (.cons rfl (.cons rfl .nil))))), rfl⟩, hX.trans (hbV.mono hX.size), .inr ⟨rfl, h0⟩⟩
    · exact ⟨((l, q, c), true), ⟨.cons rfl (.cons rfl (.cons rfl (.cons rfl (.cons rfl (.cons rfl .nil))))), rfl⟩, hX.trans (hbV.mono hX.size), .inl ⟨rfl, List.mem_of_getElem? hl, hs⟩⟩
  clear hX
  rintro ⟨⟨a, qa, ca⟩, oa⟩ X ⟨hX, hA2⟩
  dsimp only at hA2 ⊢
  refine ⟨Unit, fun _ => ⟨[(3, .pointer (some ⟨L, 0, none⟩)), (4, .pointer (some ⟨L + 1, 0, none⟩)), (7, strV k), (13, .slice qa a.length ca), (14, .bool oa)], []⟩, fun _ Y => Below X.heap.size X Y, ?_, ?_⟩
  · refine brF ?_
    rcases hA2 with ⟨rfl, ha, sa⟩ | ⟨rfl, h0⟩
    · refine brF ?_
      refine brF ?_
      exact ⟨(), ⟨.cons rfl (.cons rfl (.cons rfl (.cons rfl (.cons rfl .nil)))), rfl⟩, Below.refl _ _⟩
    · refine brT ?_
      refine ⟨vs, hw.len, cells_block (block_below hX f0), hlt (block_below hX f0), ?_⟩
      refine ⟨ss, hS.len, cells_block (block_below hX f1), hlt (block_below hX f1), ?_⟩
      refine Calls.mono (Key_s hW (sv hX) (hTA.below hX).M (hGA.below hX)) ?_
      rintro e V ⟨k5, rfl, hk5, hbV⟩
      refine ⟨_, fun w => neq_str _ _ k k5 w, ?_⟩
      have hk : k = k5 := by
        rcases hLU.1 with h | ⟨b, hb, h⟩
        · exact h.uniq hk5
        · have := (List.mem_filter.1 hb).1
          rw [h0] at this; cases this
      refine brN (by rw [decide_eq_true hk]; rfl) ?_
      exact ⟨(), ⟨.cons rfl (.cons rfl (.cons rfl (.cons rfl (.cons rfl .nil)))), rfl⟩, hbV⟩
  rintro _ Y hbY
  have hY := hX.trans (hbY.mono hX.size)
  refine ⟨Unit, fun _ => ⟨[(3, .pointer (some ⟨L, 0, none⟩)), (4, .pointer (some ⟨L + 1, 0, none⟩)), (7, strV k), (13, .slice qa a.length ca)], []⟩, fun _ Z => Below A.heap.size A Z ∧ a ∈ keepT p g md ∧ SlR Go.Sei.intE Z qa a, ?_, ?_⟩
  · rcases hA2 with ⟨rfl, ha, sa⟩ | ⟨rfl, h0⟩
    · have ht : turnsL p g = true := allL_some fun h => by rw [h] at ha; cases ha
      obtain ⟨N, hN, hN1, hN4, hNt, hok⟩ := turns_parts ht
      have hg : a ∈ grpL N (decide (md = 3)) := by rw [← allL_grp ht hN]; exact ha
      have hfa : (turnsL p g && suitsL g md a) = true := by rw [ht, grp_suits hN hg]; rfl
      obtain ⟨hla, _⟩ := grp_rng hN1 hN4 hg
      refine brF ?_
      refine ⟨vs, hw.len, cells_block (block_below hY f0), hlt (block_below hY f0), ?_⟩
      refine Calls.mono (Keeps_c hY.size (hwA.below hY) (hTA.below hY) h1 (sa.below hbY) (by omega)) ?_
      rintro e V ⟨rfl, hbV⟩
      rw [hfa, Bool.true_and]
      have hV := hY.trans (hbV.mono hY.size)
      refine And.intro (fun h => ?_) (fun h => ?_)
      · exact fin hV fun w' hb => ⟨rfl, hb⟩
      · have h : (!keepsL p a) = false := h
        have h : keepsL p a = true := by simpa using h
        exact ⟨(), ⟨.cons rfl (.cons rfl (.cons rfl (.cons rfl .nil))), rfl⟩, hV, List.mem_filter.2 ⟨ha, h⟩, (sa.below hbY).below hbV⟩
    · refine brT ?_
      refine brT ?_
      exact fin hY fun w' hb => ⟨rfl, hb⟩
  clear hX hbY hY hA2
  rintro _ X ⟨hX, ha, sa⟩
  have hal : a ∈ allL p g md := (List.mem_filter.1 ha).1
  have ht : turnsL p g = true := allL_some fun h => by rw [h] at hal; cases hal
  obtain ⟨N, hN, hN1, hN4, hNt, hok⟩ := turns_parts ht
  have hg : a ∈ grpL N (decide (md = 3)) := by rw [← allL_grp ht hN]; exact hal
  have hfa : (turnsL p g && suitsL g md a) = true := by rw [ht, grp_suits hN hg]; rfl
  refine ⟨Nat × List Value, fun t => ⟨[(3, .pointer (some ⟨L, 0, none⟩)), (7, strV k), (15, .pointer (some ⟨t.1, 0, none⟩)), (16, i64 0)], []⟩, fun t Z => Below A.heap.size A Z ∧ Z.heap[t.1]? = some (.cells t.2.toArray 75 (0, 0)) ∧ SysV Z.heap.size Z t.2 (turnA md a s), ?_, ?_⟩
  · refine ⟨vs, hw.len, cells_block (block_below hX f0), hlt (block_below hX f0), ?_⟩
    refine ⟨ss, hS.len, cells_block (block_below hX f1), hlt (block_below hX f1), ?_⟩
    refine Calls.mono (Sys_c (wv hX) (sv hX) (hTA.below hX) h1 sa hfa) ?_
    rintro e U ⟨hbU, ⟨hff, _⟩ | ⟨_, ts, rfl, hts⟩⟩
    · rw [hf] at hff; cases hff
    refine store_new (X := U) (v := .agg ts.toArray) (ttOk.get 75 _ rfl) hts.len rfl hts.one fun Z hbZ fZ sZ => ?_
    have hbXZ := hbU.trans (hbZ.mono hbU.size)
    exact ⟨(U.heap.size, ts), ⟨.cons rfl (.cons rfl (.cons rfl (.cons rfl .nil))), rfl⟩, hX.trans (hbXZ.mono hX.size), fZ, (hts.below hbZ).mono hbZ.size⟩
  clear hX sa
  rintro ⟨tb, ts⟩ X ⟨hX, ft, hts⟩
  dsimp only at ft hts ⊢
  refine brT ?_
  refine ⟨vs, hw.len, cells_block (block_below hX f0), hlt (block_below hX f0), ?_⟩
  refine ⟨ts, hts.len, cells_block ft, hlt ft, ?_⟩
  refine Calls.mono (Least_c (wv hX) hW hts (hTA.below hX) (hGA.below hX)) ?_
  rintro e V ⟨k6, rfl, hk6, hbV⟩
  have hV := hX.trans (hbV.mono hX.size)
  refine ⟨_, fun w => eql_str _ _ k6 k w, ?_⟩
  have h6 : LeastU (KeysT (keepT p g md) md mode g s) k6 := (hk6.2 (turnA_fits hN1 hN4 hN hg hf)).congr fun j => keys_turn ht hN hN1 hN4 hNt hok hf ha j
  refine brE (decide_eq_true (h6.uniq hLU)) ?_
  exact fin hV fun w' hb => ⟨rfl, hb⟩
end
end Go.Proofs.YthgmcegmgjoafaaGreatDoor
namespace Go.Proofs.YthgmcegmgjoafaaGreatDoor
open Go.Vc Go.RowKit Go.Sei
open Go.ChangeShapes Go.WideShapes Go.ChangeAt
section
variable {H : Type} {enc : TypeId × Value → H} {P : Program} {w : World} {base : Nat} {spare : Nat → Bool} {held : Bool} {fuel : Nat} {t : TypeId} {cs : List Value} {x : DataW H × List MemPlace}
theorem open_u8 (ht : P.underlying t = some (.int .u8)) (h : DataW.trod enc P w base spare held fuel t cs = some x) : ∃ b : UInt8, cs = [u8 b] ∧ x.1 = .lit (.int .u8 b.toNat) := by
  obtain ⟨n, rfl, rfl, hw⟩ := DataW.trod_int ht h
  have hb := bounds_u8 hw
  have e : ((UInt8.ofNat n.toNat).toNat : Int) = n := by
    rw [UInt8.toNat_ofNat']; omega
  exact ⟨UInt8.ofNat n.toNat, by rw [u8, e], by rw [e]⟩
theorem open_u8s {n : Nat} {e : TypeId} (ht : P.underlying t = some (.array n e)) (he : P.underlying e = some (.int .u8)) (hc : P.cellsOf e = 1) (hn : P.cellsOf t = n)
    (h : DataW.trod enc P w base spare held fuel t cs = some x) : ∃ bs : List UInt8, bs.length = n ∧ cs = bs.map u8 ∧ x.1 = .agg (bs.map fun b => .lit (.int .u8 b.toNat)) := by
  obtain ⟨xs, m, rfl, rfl, hl, hx, hel⟩ := DataW.trod_array ht h
  rw [hn] at hl
  have each : ∀ i (h : i < n), ∃ b : UInt8, cs[i]? = some (u8 b) ∧ xs[i]?.map (·.1) = some (.lit (.int .u8 b.toNat)) := fun i hi => by
    have h1 := hel i hi
    rw [hc, List.getElem?_eq_getElem (by omega)] at h1
    obtain ⟨b, h2, h3⟩ := open_u8 he h1
    refine ⟨b, ?_, by rw [List.getElem?_eq_getElem (by omega), Option.map_some, h3]⟩
    have : ((cs.drop (i * 1)).take 1)[0]? = some (u8 b) := by rw [h2]; rfl
    simpa using this
  have : ∀ k, k ≤ n → ∃ bs : List UInt8, bs.length = k ∧ cs.take k = bs.map u8 ∧ (xs.take k).map (·.1) = bs.map fun b => .lit (.int .u8 b.toNat) := by
    intro k
    induction k with
    | zero => exact fun _ => ⟨[], rfl, by simp, by simp⟩
    | succ k ih =>
      intro hk
      obtain ⟨bs, h1, h2, h3⟩ := ih (by omega)
      obtain ⟨b, h4, h5⟩ := each k (by omega)
      have hk1 : k < cs.length := by omega
      have hk2 : k < xs.length := by omega
      rw [List.getElem?_eq_getElem hk1] at h4
      rw [List.getElem?_eq_getElem hk2] at h5
      refine ⟨bs ++ [b], by simp [h1], ?_, ?_⟩
      · rw [List.take_succ_eq_append_getElem hk1, h2, Option.some.inj h4]; simp
      · rw [List.take_succ_eq_append_getElem hk2, List.map_append, h3]
        simp at h5
        simp [h5]
  obtain ⟨bs, h1, h2, h3⟩ := this n (Nat.le_refl _)
  rw [List.take_of_length_le (by omega)] at h2 h3
  exact ⟨bs, h1, h2, by rw [← h3]⟩
theorem open_i (ht : P.underlying t = some (.int .i64)) (h : DataW.trod enc P w base spare held fuel t cs = some x) : ∃ b : Int, cs = [i64 b] ∧ x.1 = .lit (.int .i64 b) := by
  obtain ⟨n, rfl, rfl, _⟩ := DataW.trod_int ht h
  exact ⟨n, rfl, rfl⟩
theorem open_is {n : Nat} {e : TypeId} (ht : P.underlying t = some (.array n e)) (he : P.underlying e = some (.int .i64)) (hc : P.cellsOf e = 1) (hn : P.cellsOf t = n)
    (h : DataW.trod enc P w base spare held fuel t cs = some x) : ∃ bs : List Int, bs.length = n ∧ cs = bs.map i64 ∧ x.1 = .agg (bs.map fun b => .lit (.int .i64 b)) := by
  obtain ⟨xs, m, rfl, rfl, hl, hx, hel⟩ := DataW.trod_array ht h
  rw [hn] at hl
  have each : ∀ i (h : i < n), ∃ b : Int, cs[i]? = some (i64 b) ∧ xs[i]?.map (·.1) = some (.lit (.int .i64 b)) := fun i hi => by
    have h1 := hel i hi
    rw [hc, List.getElem?_eq_getElem (by omega)] at h1
    obtain ⟨b, h2, h3⟩ := open_i he h1
    refine ⟨b, ?_, by rw [List.getElem?_eq_getElem (by omega), Option.map_some, h3]⟩
    have : ((cs.drop (i * 1)).take 1)[0]? = some (i64 b) := by rw [h2]; rfl
    simpa using this
  have : ∀ k, k ≤ n → ∃ bs : List Int, bs.length = k ∧ cs.take k = bs.map i64 ∧ (xs.take k).map (·.1) = bs.map fun b => .lit (.int .i64 b) := by
    intro k
    induction k with
    | zero => exact fun _ => ⟨[], rfl, by simp, by simp⟩
    | succ k ih =>
      intro hk
      obtain ⟨bs, h1, h2, h3⟩ := ih (by omega)
      obtain ⟨b, h4, h5⟩ := each k (by omega)
      have hk1 : k < cs.length := by omega
      have hk2 : k < xs.length := by omega
      rw [List.getElem?_eq_getElem hk1] at h4
      rw [List.getElem?_eq_getElem hk2] at h5
      refine ⟨bs ++ [b], by simp [h1], ?_, ?_⟩
      · rw [List.take_succ_eq_append_getElem hk1, h2, Option.some.inj h4]; simp
      · rw [List.take_succ_eq_append_getElem hk2, List.map_append, h3]
        simp at h5
        simp [h5]
  obtain ⟨bs, h1, h2, h3⟩ := this n (Nat.le_refl _)
  rw [List.take_of_length_le (by omega)] at h2 h3
  exact ⟨bs, h1, h2, by rw [← h3]⟩
end
theorem cells5 : Tryz.prog.cellsOf 5 = 1 := by kernel_rfl
theorem cells4 : Tryz.prog.cellsOf 4 = 1 := by kernel_rfl
theorem add_none (b o i : Nat) : (⟨b, o, none⟩ : Addr).add i = ⟨b, o + i, none⟩ := by
  unfold Addr.add
  by_cases h : i = 0
  · simp [h]
  · simp [h]
section
variable {w : World} {base : Nat} {cs : List Value}
theorem cells_of_run {a : Addr} {n : Nat} (hn : 0 < n) (h : w.cells? base a n = some cs) : a.spot = none ∧ a.block < w.heap.size ∧ Cells w ⟨a.block, a.off, none⟩ cs := by
  obtain ⟨_, hl, hc⟩ := World.cells?_some h
  have h0 := hc 0 hn
  rw [List.getElem?_eq_getElem (by omega)] at h0
  have hs : a.spot = none := by simpa [Addr.add] using World.cell?_spot h0
  obtain ⟨b, o, s⟩ := a
  dsimp only at hs
  subst hs
  refine ⟨rfl, World.block_lt_of_cell? _ _ h0, cells_mk fun i v hv => ?_⟩
  have hi : i < n := by have := (List.getElem?_eq_some_iff.1 hv).1; omega
  have := (hc i hi).trans hv
  rw [add_none] at this
  exact this
end
theorem ok_slice {P : Program} {w : World} {r : Reach} {base : Nat} {t e : TypeId} {v : Value} (ht : P.underlying t = some (.slice e)) (h : Value.okWide P w r base t v) :
    ∃ a len cap, v = .slice a len cap ∧ len ≤ cap ∧ (a = none → cap = 0) := by
  simp only [Value.okWide, ht, Cell.okWide] at h
  cases v with
  | slice a len cap =>
    cases a with
    | none =>
      refine ⟨none, len, cap, rfl, ?_⟩
      unfold Cell.ok at h
      rw [ht] at h
      split at h <;> simp_all
    | some a =>
      refine ⟨some a, len, cap, rfl, ?_, fun h => by cases h⟩
      unfold Cell.ok at h
      rw [ht] at h
      split at h <;> simp_all
  | _ => simp_all [Cell.ok]
theorem seat_own : ownKnob Tryz.prog.godebug = none := by kernel_rfl
theorem seat_laidOut : laidOutB Tryz.prog = true := by kernel_rfl
section
variable {H : Type} {enc : TypeId × Value → H} {P : Program} {w : World} {base : Nat} {spare : Nat → Bool} {held : Bool} {fuel : Nat} {t e : TypeId} {cs : List Value} {x : DataW H × List MemPlace}
def Opens (enc : TypeId × Value → H) (P : Program) (w : World) (base : Nat) (spare : Nat → Bool) (held : Bool) (t : TypeId) (R : List Value → Prop) : Prop :=
  ∀ fuel cs x, DataW.trod enc P w base spare held fuel t cs = some x → R cs
theorem Opens.field {fs : Array Field} {R : List Value → Prop} {i : Nat} {f : Field} {n : Nat} {xs : List (DataW H × List MemPlace)} {m : Nat} (hel : ∀ (i : Nat) (f : Field), fs[i]? = some f → DataW.trod enc P w base spare held m f.type ((cs.drop f.offset).take (P.cellsOf f.type)) = xs[i]?)
    (hl : xs.length = fs.size) (hi : fs[i]? = some f) {o : Nat} (hoo : f.offset = o) (hn : P.cellsOf f.type = n) (ho : Opens enc P w base spare held f.type R) : R ((cs.drop o).take n) := by
  subst hoo
  have h1 := hel i f hi
  have : i < fs.size := (Array.getElem?_eq_some_iff.1 hi).1
  rw [List.getElem?_eq_getElem (by omega), hn] at h1
  exact ho _ _ _ h1
theorem opens_u8 (ht : P.underlying t = some (.int .u8)) : Opens enc P w base spare held t fun cs => ∃ b : UInt8, cs = [u8 b] := fun fuel cs x h => by
  obtain ⟨b, h, _⟩ := open_u8 ht h
  exact ⟨b, h⟩
theorem opens_bool (ht : P.underlying t = some .bool) : Opens enc P w base spare held t fun cs => ∃ b : Bool, cs = [.bool b] := fun fuel cs x h => by
  obtain ⟨b, h, _⟩ := DataW.trod_bool ht h
  exact ⟨b, h⟩
theorem opens_int (ht : P.underlying t = some (.int .i64)) : Opens enc P w base spare held t fun cs => ∃ b : Int, cs = [.int .i64 b] := fun fuel cs x h => by
  obtain ⟨n, h, _, _⟩ := DataW.trod_int ht h
  exact ⟨n, h⟩
theorem opens_u64 (ht : P.underlying t = some (.int .u64)) : Opens enc P w base spare held t fun cs => ∃ n : Nat, n < 18446744073709551616 ∧ cs = [.int .u64 (n : Int)] := fun fuel cs x h => by
  obtain ⟨n, rfl, _, hw⟩ := DataW.trod_int ht h
  have hb : 0 ≤ n ∧ n ≤ 18446744073709551615 := by
    simp only [Lit.wf, decide_eq_true_eq, Bool.and_eq_true] at hw
    first
      | exact ⟨by simpa [IntKind.min, IntKind.signed, IntKind.bits] using hw.1, by simpa [IntKind.max, IntKind.signed, IntKind.bits] using hw.2⟩
      | (simp [IntKind.min, IntKind.max, IntKind.signed, IntKind.bits] at hw; omega)
  exact ⟨n.toNat, by omega, by congr 2; omega⟩
theorem opens_u8s {n : Nat} (ht : P.underlying t = some (.array n e)) (he : P.underlying e = some (.int .u8)) (hc : P.cellsOf e = 1) (hn : P.cellsOf t = n) : Opens enc P w base spare held t fun cs => ∃ bs : List UInt8, bs.length = n ∧ cs = bs.map u8 := fun fuel cs x h => by
  obtain ⟨bs, h1, h2, _⟩ := open_u8s ht he hc hn h
  exact ⟨bs, h1, h2⟩
theorem list_of {β : Type} {n : Nat} (i0 : β) {Q : Nat → β → Prop} (h : ∀ i, i < n → ∃ b, Q i b) : ∃ bs : List β, bs.length = n ∧ ∀ i (hi : i < bs.length), Q i bs[i] := by
  have h2 : ∀ i, ∃ b, i < n → Q i b := fun i => by
    by_cases hi : i < n
    · obtain ⟨b, hb⟩ := h i hi; exact ⟨b, fun _ => hb⟩
    · exact ⟨i0, fun h => absurd h hi⟩
  obtain ⟨g, hg⟩ := Classical.axiomOfChoice h2
  refine ⟨(List.range n).map g, by simp, fun i hi => ?_⟩
  simp only [List.getElem_map, List.getElem_range]
  exact hg i (by simpa using hi)
theorem flat_of {β : Type} {f : β → List Value} {sz : Nat} : ∀ (bs : List β) (cs : List Value), cs.length = bs.length * sz → (∀ i (h : i < bs.length), (cs.drop (i * sz)).take sz = f bs[i]) → cs = bs.flatMap f
  | [], cs, hl, _ => by simpa using hl
  | b :: r, cs, hl, h => by
    have h0 := h 0 (by simp)
    simp only [Nat.zero_mul, List.drop_zero, List.getElem_cons_zero] at h0
    rw [List.flatMap_cons, ← h0]
    conv => lhs; rw [← List.take_append_drop sz cs]
    congr 1
    refine flat_of (sz := sz) r (cs.drop sz) (by rw [List.length_drop, hl, List.length_cons, Nat.add_mul]; omega) fun i hi => ?_
    have h1 := h (i + 1) (by simpa using hi)
    rw [List.drop_drop]
    simpa [Nat.add_mul, Nat.add_comm] using h1
theorem opens_arr {β : Type} (i0 : β) {f : β → List Value} {Q : β → Prop} {n sz : Nat} (ht : P.underlying t = some (.array n e)) (hc : P.cellsOf e = sz) (hn : P.cellsOf t = n * sz) (ho : Opens enc P w base spare held e fun cs => ∃ b, Q b ∧ cs = f b) :
    Opens enc P w base spare held t fun cs => ∃ bs : List β, bs.length = n ∧ (∀ b ∈ bs, Q b) ∧ cs = bs.flatMap f := fun fuel cs x h => by
  obtain ⟨xs, m, rfl, rfl, hl, hx, hel⟩ := DataW.trod_array ht h
  rw [hn] at hl
  have each : ∀ i, i < n → ∃ b : β, Q b ∧ (cs.drop (i * sz)).take sz = f b := fun i hi => by
    have h1 := hel i hi
    rw [hc, List.getElem?_eq_getElem (by omega)] at h1
    exact ho _ _ _ h1
  obtain ⟨bs, h1, h2⟩ := list_of i0 each
  refine ⟨bs, h1, fun b hb => ?_, flat_of bs cs (by rw [hl, h1]) fun i hi => (h2 i hi).2⟩
  obtain ⟨i, hi, rfl⟩ := List.getElem_of_mem hb
  exact (h2 i hi).1
theorem opens_sl {β : Type} (i0 : β) {f : β → List Value} {Q : β → Prop} {sz : Nat} (hp : 0 < sz) (ht : P.underlying t = some (.slice e)) (hc : P.cellsOf e = sz) (ho : Opens enc P w base spare held e fun cs => ∃ b, Q b ∧ cs = f b) :
    Opens enc P w base spare held t fun cs => ∃ (p : Option Addr) (cap : Nat) (l : List β), cs = [.slice p l.length cap] ∧ l.length ≤ 9223372036854775807 ∧ (p = none → cap = 0) ∧ (∀ b ∈ l, Q b) ∧ ∃ b o, (l.length = 0 ∨ p = some ⟨b, o, none⟩) ∧ ∀ i (hi : i < l.length), b < w.heap.size ∧ Cells w ⟨b, o + i * sz, none⟩ (f l[i]) := fun fuel cs x h => by
  rcases DataW.trod_slice ht h with ⟨rfl, _⟩ | ⟨a, len, cap, elems, rest, n, _, rfl, _, _, hlc, hcm, hlen, hel, _, _⟩
  · exact ⟨none, 0, [], rfl, by simp, fun _ => rfl, by simp, 0, 0, .inl rfl, fun i hi => by simp at hi⟩
  · have each : ∀ i, i < len → ∃ m : β, Q m ∧ (a.add (i * sz)).spot = none ∧ (a.add (i * sz)).block < w.heap.size ∧ Cells w ⟨(a.add (i * sz)).block, (a.add (i * sz)).off, none⟩ (f m) := fun i hi => by
      have h1 := hel i hi
      rw [hc, List.getElem?_eq_getElem (by omega), Option.bind_eq_some_iff] at h1
      obtain ⟨cs, h2, h3⟩ := h1
      obtain ⟨m, hq, rfl⟩ := ho _ _ _ h3
      exact ⟨m, hq, cells_of_run hp h2⟩
    obtain ⟨l, h1, h2⟩ := list_of i0 each
    have hm : maxLen = 9223372036854775807 := rfl
    refine ⟨some a, cap, l, by rw [h1], by omega, (fun h => by cases h), fun b hb => ?_, a.block, a.off, ?_, fun i hi => ?_⟩
    · obtain ⟨i, hi, rfl⟩ := List.getElem_of_mem hb
      exact (h2 i hi).1
    · by_cases h00 : l.length = 0
      · exact .inl h00
      · right
        have hsp : a.spot = none := by
          have := (h2 0 (by omega)).2.1
          simpa [Addr.add] using this
        obtain ⟨b, o, s⟩ := a
        dsimp only at hsp
        subst hsp
        rfl
    · have hsp : a.spot = none := by
        have := (h2 0 (by omega)).2.1
        simpa [Addr.add] using this
      obtain ⟨b, o, s⟩ := a
      dsimp only at hsp
      subst hsp
      have := (h2 i hi).2.2
      rw [add_none] at this
      exact this
theorem cut (cs : List Value) (o n o' : Nat) (h : o + n = o') : cs.drop o = (cs.drop o).take n ++ cs.drop o' := by
  rw [← h, ← List.drop_drop, List.take_append_drop]
end
theorem cC (t n : Nat) (h : Tryz.prog.cellsOf t = n) : Tryz.prog.cellsOf t = n := h
theorem returns_and_sized {H : Type} {enc : TypeId × Value → H} {a : Assume} {C : Checked} {os : Os} {f : FuncId} {fn : Func} {s : ChangeSpec} {conds : List PathCond} {apart fresh handsOn again : Bool} {X : World → Array Value → Prop}
    (hX : ∀ (w w' : World) (args : Array Value), w.heap = w'.heap → X w args → X w' args)
    (own : ownKnob C.prog.godebug = none) (started : os.Started) (noInit : C.prog.inits.idxOf? f = none) (hfn : C.prog.funcs[f]? = some fn)
    (witness : ∃ (w : World) (tape : Tape) (i : Input), w.os = os ∧ (w.forCall tape i).Shaped C.prog ∧ i.vars = [] ∧ Input.okWide C.prog (w.forCall tape i) .any w.heap.size f i ∧
      ((s.pre enc C.prog fn conds apart (w.forCall tape i).memory i.args ∧ X (w.forCall tape i).memory i.args) ∧ sizedMet enc C.prog fn (OpenSpec.ofChange s) apart (w.forCall tape i).memory i.args) ∧ a.holds C.prog (lone (Frame.enter C.prog f i.args .normal) [] (w.forCall tape i)))
    (contract : ∀ (W : World) (base : Nat) (args : Array Value) (ds gs : List (DataW H)) (before : List MemPlace),
      (∀ (j : Nat) t v, fn.params[j]? = some t → args[j]? = some v → Value.okWide C.prog W .any base t v) →
      DataW.Whole enc C.prog fn.params.toList s.vars apart W args.toList ds gs before → X W args → W.ShapedOpen C.prog →
      (∃ ds gs before, DataW.Whole enc C.prog fn.params.toList (OpenSpec.ofChange s).vars apart W args.toList ds gs before ∧ ∀ n ∈ DataW.weightsEach C.prog (fn.params.toList ++ (OpenSpec.ofChange s).bare.plain.varTypes C.prog) (ds ++ gs), n ≤ reachBytes) →
      Calls C.prog f args W fun e W' => ∃ v, e = .returned v ∧ s.post enc C.prog fn apart fresh handsOn again W args v W') :
    ReturnsInHanded a C os f .any (fun w args => (s.pre enc C.prog fn conds apart w args ∧ X w args) ∧ sizedMet enc C.prog fn (OpenSpec.ofChange s) apart w args) (s.post enc C.prog fn apart fresh handsOn again) := by
  refine returnsInHanded_of_calls own started noInit witness ?_
  intro w tape i _ hsh _ hok hpre hholds
  obtain ⟨_, _, _, fn', hfn', _, _, _, _, hval⟩ := hok
  have e : fn' = fn := Option.some.inj (hfn'.symm.trans hfn)
  subst e
  obtain ⟨⟨⟨ds, gs, before, hw, hc⟩, hx⟩, hz⟩ := hpre
  have hw' := DataW.Whole.of_heap (w' := w.forCall tape i) (by rfl) hw
  obtain ⟨_, ds2, gs2, before2, hw2, hall⟩ := hz
  refine (contract (w.forCall tape i) w.heap.size i.args ds gs before hval hw' (hX _ _ _ (by rfl) hx) hsh ⟨ds2, gs2, before2, DataW.Whole.of_heap (w' := w.forCall tape i) (by rfl) hw2, fun n hn => of_decide_eq_true (List.all_eq_true.1 hall n hn)⟩).mono fun e W' ⟨v, he, hp⟩ => ?_
  subst he
  exact ChangeSpec.post_blind hp
section
variable {H : Type} {enc : TypeId × Value → H} {P : Program} {w : World} {base : Nat} {spare : Nat → Bool} {held : Bool} {fuel : Nat} {t : TypeId} {cs : List Value} {x : DataW H × List MemPlace}
def Wgt (P : Program) (t : TypeId) (d : DataW H) : Prop := ∀ n ∈ d.weights P t, n ≤ reachBytes
theorem wgt_mem {ds : List (DataW H)} {e : TypeId} (h : ∀ n ∈ DataW.weightsAll P e ds, n ≤ reachBytes) : ∀ d ∈ ds, Wgt P e d := by
  induction ds with
  | nil => intro d hd; cases hd
  | cons a r ih =>
    intro d hd
    simp only [DataW.weightsAll, List.mem_append] at h
    rcases List.mem_cons.1 hd with rfl | hd
    · exact fun n hn => h n (.inl hn)
    · exact ih (fun n hn => h n (.inr hn)) d hd
theorem wgt_slice {e : TypeId} (ht : P.underlying t = some (.slice e)) {a : Option Addr} {len cap : Nat} (h : DataW.trod enc P w base spare held fuel t [.slice a len cap] = some x) (hw : Wgt P t x.1) (hb : Nat.ble 1 (P.bytesOf e) = true) :
    len ≤ reachBytes ∧ ∀ i, i < len → ∃ aa cs n y, a = some aa ∧ w.cells? base (aa.add (i * P.cellsOf e)) (P.cellsOf e) = some cs ∧ DataW.trod enc P w base spare held n e cs = some y ∧ Wgt P e y.1 := by
  rcases DataW.trod_slice ht h with ⟨hcs, hx⟩ | ⟨aa, l, c, elems, rest, n, _, hcs, hx, _, _, _, hlen, hel, _, _⟩
  · simp only [List.cons.injEq, Value.slice.injEq, and_true] at hcs
    obtain ⟨rfl, rfl, rfl⟩ := hcs
    exact ⟨Nat.zero_le _, fun i hi => absurd hi (Nat.not_lt_zero _)⟩
  · simp only [List.cons.injEq, Value.slice.injEq, and_true] at hcs
    obtain ⟨rfl, rfl, rfl⟩ := hcs
    subst hx
    have hw' : ∀ m, m ∈ ((elems.map (·.1)).length + (rest.map (·.1)).length) * P.bytesOf e :: (DataW.weightsAll P e (elems.map (·.1)) ++ DataW.weightsAll P e (rest.map (·.1))) → m ≤ reachBytes := fun m hm => by
      refine hw m ?_
      simp only [DataW.weights, ht]
      exact hm
    have hb := Nat.le_of_ble_eq_true hb
    constructor
    · have h1 := hw' _ List.mem_cons_self
      simp only [List.length_map] at h1
      have : elems.length * 1 ≤ (elems.length + rest.length) * P.bytesOf e := Nat.mul_le_mul (Nat.le_add_right _ _) hb
      omega
    · intro i hi
      have h1 := hel i hi
      rw [List.getElem?_eq_getElem (by omega), Option.bind_eq_some_iff] at h1
      obtain ⟨cs, h2, h3⟩ := h1
      refine ⟨aa, cs, n, _, rfl, h2, h3, ?_⟩
      refine wgt_mem (ds := elems.map (·.1)) (fun m hm => hw' m (List.mem_cons_of_mem _ (List.mem_append_left _ hm))) _ ?_
      exact List.mem_map_of_mem (List.getElem_mem _)
theorem wgt_field {fs : Array Field} (ht : P.underlying t = some (.struct fs)) (h : DataW.trod enc P w base spare held fuel t cs = some x) (hw : Wgt P t x.1) {i : Nat} {f : Field} (hf : fs[i]? = some f) {T o k : Nat} {vs : List Value} (hT : f.type = T) (hO : f.offset = o) (hk : P.cellsOf T = k) (hv : (cs.drop o).take k = vs) :
    ∃ n y, DataW.trod enc P w base spare held n T vs = some y ∧ Wgt P T y.1 := by
  subst hT hO hk hv
  obtain ⟨xs, n, rfl, rfl, hl, hx, hel⟩ := DataW.trod_struct ht h
  have h1 := hel i f hf
  have hi : i < xs.length := by rw [hx]; exact (Array.getElem?_eq_some_iff.1 hf).1
  rw [List.getElem?_eq_getElem hi] at h1
  refine ⟨n, _, h1, fun m hm => hw m ?_⟩
  simp only [DataW.weights, ht]
  refine DataW.weights_mem_each (j := i) (t := f.type) (d := xs[i].1) ?_ ?_ m hm
  · rw [List.getElem?_map]
    have : fs.toList[i]? = some f := by simpa using hf
    rw [this]; rfl
  · rw [List.getElem?_map, List.getElem?_eq_getElem hi]; rfl
end
end Go.Proofs.YthgmcegmgjoafaaGreatDoor
namespace Go.Proofs.YthgmcegmgjoafaaGreatDoor
open Go.Vc Go.RowKit Go.Sei
open Go.ChangeShapes Go.WideShapes Go.ChangeAt
theorem cell_one {P : Program} {w : World} {r : Reach} {base : Nat} {u : TypeId} {v : Value} (h : Cell.okWide P w r base u v) : v.oneCell' = true := by
  cases v with
  | agg cs =>
    exfalso
    unfold Cell.okWide at h
    split at h <;> rename_i h1 <;> first | cases h1 | skip
    all_goals
      unfold Cell.ok at h
      split at h <;> rename_i h2 <;> first | cases h2 | exact h
  | tuple cs =>
    exfalso
    unfold Cell.okWide at h
    split at h <;> rename_i h1 <;> first | cases h1 | skip
    all_goals
      unfold Cell.ok at h
      split at h <;> rename_i h2 <;> first | cases h2 | exact h
  | _ => rfl
theorem okWide_one {P : Program} {w : World} {r : Reach} {base : Nat} {t : TypeId} {a : Array Value} {fs : Array Field} (ht : P.underlying t = some (.struct fs)) (h : Value.okWide P w r base t (.agg a)) : a.toList.all Value.oneCell' = true := by
  unfold Value.okWide at h
  rw [ht] at h
  obtain ⟨cs, h0, _, ts, _, _, h1⟩ := h
  simp only [Value.agg.injEq] at h0
  subst h0
  rw [List.all_eq_true]
  intro v hv
  obtain ⟨i, hi, rfl⟩ := List.getElem_of_mem hv
  obtain ⟨u, _, h2⟩ := h1 i a.toList[i] (by simp)
  exact cell_one h2
section
variable {H : Type} {enc : TypeId × Value → H} {P : Program} {w : World} {base : Nat} {spare : Nat → Bool} {held : Bool} {fuel F : Nat} {t e : TypeId} {cs : List Value} {x : DataW H × List MemPlace}
def OpensW (enc : TypeId × Value → H) (P : Program) (w : World) (base : Nat) (spare : Nat → Bool) (held : Bool) (F : Nat) (t : TypeId) (R : List Value → Prop) : Prop :=
  ∀ n, n < F → ∀ cs x, DataW.trod enc P w base spare held n t cs = some x → Wgt P t x.1 → R cs
theorem opensW_of {R : List Value → Prop} (h : Opens enc P w base spare held t R) : OpensW enc P w base spare held F t R := fun n _ cs x h1 _ => h n cs x h1
theorem OpensW.field {fs : Array Field} {R : List Value → Prop} (ht : P.underlying t = some (.struct fs)) (h : DataW.trod enc P w base spare held fuel t cs = some x) (hw : Wgt P t x.1) (hF : fuel ≤ F) {i : Nat} {f : Field} (hf : fs[i]? = some f) {T o k : Nat} (hT : f.type = T) (hO : f.offset = o) (hk : P.cellsOf T = k)
    (ho : OpensW enc P w base spare held F T R) : R ((cs.drop o).take k) := by
  subst hT hO hk
  obtain ⟨xs, n, rfl, rfl, hl, hx, hel⟩ := DataW.trod_struct ht h
  have h1 := hel i f hf
  have hi : i < xs.length := by rw [hx]; exact (Array.getElem?_eq_some_iff.1 hf).1
  rw [List.getElem?_eq_getElem hi] at h1
  refine ho n (by omega) _ _ h1 fun m hm => hw m ?_
  simp only [DataW.weights, ht]
  refine DataW.weights_mem_each (j := i) (t := f.type) (d := xs[i].1) ?_ ?_ m hm
  · rw [List.getElem?_map]
    have : fs.toList[i]? = some f := by simpa using hf
    rw [this]; rfl
  · rw [List.getElem?_map, List.getElem?_eq_getElem hi]; rfl
theorem opensW_str (ht : P.underlying t = some .string) : OpensW enc P w base spare held F t fun cs => ∃ s : List UInt8, s.length ≤ 140737488351232 ∧ cs = [strV s] := fun n _ cs x h hw => by
  obtain ⟨s, rfl, rfl, _⟩ := DataW.trod_string ht h
  refine ⟨s.data.toList, hw _ (by simp [DataW.weights]), ?_⟩
  unfold strV bs
  rw [Array.toArray_toList]
theorem opensW_sl {β : Type} (i0 : β) {f : β → List Value} {Q : β → Prop} {sz : Nat} (hp : 0 < sz) (ht : P.underlying t = some (.slice e)) (hc : P.cellsOf e = sz) (hb : Nat.ble 1 (P.bytesOf e) = true) (ho : OpensW enc P w base spare held F e fun cs => ∃ b, Q b ∧ cs = f b) :
    OpensW enc P w base spare held (F + 1) t fun cs => ∃ (p : Option Addr) (cap : Nat) (l : List β), cs = [.slice p l.length cap] ∧ (l.length ≤ 140737488351232 ∧ l.length * P.bytesOf e ≤ 140737488351232) ∧ l.length ≤ cap ∧ (∀ b ∈ l, Q b) ∧ ∃ b o, (l.length = 0 ∨ p = some ⟨b, o, none⟩) ∧ ∀ i (hi : i < l.length), b < w.heap.size ∧ Cells w ⟨b, o + i * sz, none⟩ (f l[i]) := fun n hn cs x h hw => by
  rcases DataW.trod_slice ht h with ⟨rfl, _⟩ | ⟨a, len, cap, elems, rest, n, rfl, rfl, hx, _, hlc, hcm, hlen, hel, _, _⟩
  · exact ⟨none, 0, [], rfl, ⟨by simp, by simp⟩, by simp, by simp, 0, 0, .inl rfl, fun i hi => by simp at hi⟩
  · subst hx
    have hw' : ∀ m, m ∈ ((elems.map (·.1)).length + (rest.map (·.1)).length) * P.bytesOf e :: (DataW.weightsAll P e (elems.map (·.1)) ++ DataW.weightsAll P e (rest.map (·.1))) → m ≤ reachBytes := fun m hm => by
      refine hw m ?_
      simp only [DataW.weights, ht]
      exact hm
    have hb := Nat.le_of_ble_eq_true hb
    have hlb : len ≤ 140737488351232 ∧ len * P.bytesOf e ≤ 140737488351232 := by
      have h1 := hw' _ List.mem_cons_self
      simp only [List.length_map] at h1
      have : elems.length * 1 ≤ (elems.length + rest.length) * P.bytesOf e := Nat.mul_le_mul (Nat.le_add_right _ _) hb
      have h2 : elems.length * P.bytesOf e ≤ (elems.length + rest.length) * P.bytesOf e := Nat.mul_le_mul (Nat.le_add_right _ _) (Nat.le_refl _)
      have hr : reachBytes = 140737488351232 := rfl
      rw [← hlen]
      omega
    have each : ∀ i, i < len → ∃ m : β, Q m ∧ (a.add (i * sz)).spot = none ∧ (a.add (i * sz)).block < w.heap.size ∧ Cells w ⟨(a.add (i * sz)).block, (a.add (i * sz)).off, none⟩ (f m) := fun i hi => by
      have h1 := hel i hi
      rw [hc, List.getElem?_eq_getElem (by omega), Option.bind_eq_some_iff] at h1
      obtain ⟨cs, h2, h3⟩ := h1
      obtain ⟨m, hq, rfl⟩ := ho n (by omega) _ _ h3 (wgt_mem (ds := elems.map (·.1)) (fun m hm => hw' m (List.mem_cons_of_mem _ (List.mem_append_left _ hm))) _ (List.mem_map_of_mem (List.getElem_mem _)))
      exact ⟨m, hq, cells_of_run hp h2⟩
    obtain ⟨l, h1, h2⟩ := list_of i0 each
    refine ⟨some a, cap, l, by rw [h1], by rw [h1]; exact hlb, by omega, fun b hb => ?_, a.block, a.off, ?_, fun i hi => ?_⟩
    · obtain ⟨i, hi, rfl⟩ := List.getElem_of_mem hb
      exact (h2 i hi).1
    · by_cases h00 : l.length = 0
      · exact .inl h00
      · right
        have hsp : a.spot = none := by
          have := (h2 0 (by omega)).2.1
          simpa [Addr.add] using this
        obtain ⟨b, o, s⟩ := a
        dsimp only at hsp
        subst hsp
        rfl
    · have hsp : a.spot = none := by
        have := (h2 0 (by omega)).2.1
        simpa [Addr.add] using this
      obtain ⟨b, o, s⟩ := a
      dsimp only at hsp
      subst hsp
      have := (h2 i hi).2.2
      rw [add_none] at this
      exact this
theorem row_of {α : Type} {E : Enc α} {p : Option Addr} {l : List α} (h : ∃ b o, (l.length = 0 ∨ p = some ⟨b, o, none⟩) ∧ ∀ i (hi : i < l.length), b < w.heap.size ∧ Cells w ⟨b, o + i * E.sz, none⟩ (E.enc l[i])) : RowB E w.heap.size w p l := by
  obtain ⟨b, o, hp, hc⟩ := h
  by_cases h0 : l = []
  · exact .inl h0
  · have hl0 : 0 < l.length := List.length_pos_iff.2 h0
    rcases hp with hp | rfl
    · omega
    · exact RowB.of_slr (.inr ⟨b, o, rfl, (hc 0 hl0).1, fun i hi => (hc i hi).2⟩)
end
section
variable {H : Type} {enc : TypeId × Value → H} {w : World} {base : Nat} {spare : Nat → Bool} {held : Bool} {F : Nat}
theorem opens_arg : Opens enc Tryz.prog w base spare held 168 fun cs => ∃ (r : Bool) (n : UInt8), cs = [.bool r, u8 n] := fun fuel cs x h => by
  obtain ⟨xs, m, rfl, rfl, hl, hx, hel⟩ := DataW.trod_struct Tryz.underlying168 h
  rw [cC 168 2 (by kernel_rfl)] at hl
  obtain ⟨b0, e0⟩ := Opens.field (o := 0) (i := 0) hel hx rfl rfl cells4 (opens_bool Tryz.underlying4)
  obtain ⟨b1, e1⟩ := Opens.field (o := 1) (i := 1) hel hx rfl rfl cells5 (opens_u8 Tryz.underlying5)
  refine ⟨b0, b1, ?_⟩
  have h0 : cs = cs.drop 0 := rfl
  have h9 : cs.drop 2 = [] := List.drop_of_length_le (by omega)
  rw [h0, cut cs 0 1 1 rfl, cut cs 1 1 2 rfl, e0, e1, h9]
  rfl
theorem opens_ins : Opens enc Tryz.prog w base spare held 170 fun cs => ∃ x : InsD, True ∧ cs = insE.enc x := fun fuel cs x h => by
  obtain ⟨xs, m, rfl, rfl, hl, hx, hel⟩ := DataW.trod_struct Tryz.underlying170 h
  rw [cC 170 10 (by kernel_rfl)] at hl
  obtain ⟨b0, e0⟩ := Opens.field (o := 0) (i := 0) hel hx rfl rfl cells5 (opens_u8 Tryz.underlying5)
  obtain ⟨b1, e1⟩ := Opens.field (o := 1) (i := 1) hel hx rfl rfl cells5 (opens_u8 Tryz.underlying5)
  obtain ⟨b2, e2⟩ := Opens.field (o := 2) (i := 2) hel hx rfl rfl cells5 (opens_u8 Tryz.underlying5)
  obtain ⟨r3, n3, e3⟩ := Opens.field (o := 3) (i := 3) hel hx rfl rfl (cC 168 2 (by kernel_rfl)) opens_arg
  obtain ⟨r4, n4, e4⟩ := Opens.field (o := 5) (i := 4) hel hx rfl rfl (cC 168 2 (by kernel_rfl)) opens_arg
  obtain ⟨b5, e5⟩ := Opens.field (o := 7) (i := 5) hel hx rfl rfl cells5 (opens_u8 Tryz.underlying5)
  obtain ⟨b6, e6⟩ := Opens.field (o := 8) (i := 6) hel hx rfl rfl cells5 (opens_u8 Tryz.underlying5)
  obtain ⟨b7, e7⟩ := Opens.field (o := 9) (i := 7) hel hx rfl rfl cells5 (opens_u8 Tryz.underlying5)
  refine ⟨⟨b0, b1, b2, r3, n3, r4, n4, b5, b6, b7⟩, trivial, ?_⟩
  have h0 : cs = cs.drop 0 := rfl
  have h9 : cs.drop 10 = [] := List.drop_of_length_le (by omega)
  rw [h0, cut cs 0 1 1 rfl, cut cs 1 1 2 rfl, cut cs 2 1 3 rfl, cut cs 3 2 5 rfl, cut cs 5 2 7 rfl, cut cs 7 1 8 rfl, cut cs 8 1 9 rfl, cut cs 9 1 10 rfl, e0, e1, e2, e3, e4, e5, e6, e7, h9]
  rfl
theorem opensW_thr : OpensW enc Tryz.prog w base spare held F 166 fun cs => ∃ x : ThrR, (x.1.length ≤ 140737488351232 ∧ RowB insE w.heap.size w x.2.1 x.1) ∧ cs = thrE.enc x := fun n hn cs x h hw => by
  obtain ⟨p, cap, l, h1, h2, _, _, h3⟩ := opensW_sl (F := n) (⟨0, 0, 0, false, 0, false, 0, 0, 0, 0⟩ : InsD) (f := insE.enc) (Q := fun _ => True) (sz := 10) (by decide) Tryz.underlying166 (by kernel_rfl) (by kernel_rfl) (opensW_of opens_ins) n (Nat.lt_succ_self n) cs x h hw
  exact ⟨(l, p, cap), ⟨h2.1, row_of h3⟩, h1⟩
theorem opensW_cnd : ∀ F, OpensW enc Tryz.prog w base spare held F 27 fun cs => ∃ x : Cnd × Option Addr × Nat, KidsV w.heap.size w x.2.1 x.1.kids ∧ cs = cndCells x.1 x.2.1 x.2.2
  | 0 => fun n hn => absurd hn (Nat.not_lt_zero _)
  | F + 1 => fun n hn cs x h hw => by
    have ih := opensW_cnd F
    have hF : n ≤ F + 1 := by omega
    have hl : cs.length = 5 := by
      obtain ⟨xs, m, _, _, hl, _, _⟩ := DataW.trod_struct Tryz.underlying27 h
      rw [cC 27 5 (by kernel_rfl)] at hl
      exact hl
    obtain ⟨b0, e0⟩ := OpensW.field (F := F + 1) (o := 0) (i := 0) Tryz.underlying27 h hw hF rfl rfl rfl cells5 (opensW_of (opens_u8 Tryz.underlying5))
    obtain ⟨b1, e1⟩ := OpensW.field (F := F + 1) (o := 1) (i := 1) Tryz.underlying27 h hw hF rfl rfl rfl cells5 (opensW_of (opens_u8 Tryz.underlying5))
    obtain ⟨b2, e2⟩ := OpensW.field (F := F + 1) (o := 2) (i := 2) Tryz.underlying27 h hw hF rfl rfl rfl cells5 (opensW_of (opens_u8 Tryz.underlying5))
    obtain ⟨b3, e3⟩ := OpensW.field (F := F + 1) (o := 3) (i := 3) Tryz.underlying27 h hw hF rfl rfl rfl cells5 (opensW_of (opens_u8 Tryz.underlying5))
    obtain ⟨p, cap, l, e4, hll, _, hQ, b, o, hp, hc⟩ := OpensW.field (F := F + 1) (o := 4) (i := 4) Tryz.underlying27 h hw hF rfl rfl rfl (cC 25 1 (by kernel_rfl))
      (opensW_sl (F := F) ((.mk 0 0 0 0 [], none, 0) : Cnd × Option Addr × Nat) (f := fun x => cndCells x.1 x.2.1 x.2.2) (Q := fun x => KidsV w.heap.size w x.2.1 x.1.kids) (sz := 5) (by decide) Tryz.underlying25 (by kernel_rfl) (by kernel_rfl) ih)
    refine ⟨(.mk b0 b1 b2 b3 (l.map (·.1)), p, cap), ?_, ?_⟩
    · refine .mk p (l.map (·.1)) (by rw [List.length_map]; have := hll.2; rw [show Tryz.prog.bytesOf 27 = 32 by kernel_rfl] at this; exact this) b o (by rw [List.length_map]; exact hp) (fun i => (l.getD i (.mk 0 0 0 0 [], none, 0)).2.1) (fun i => (l.getD i (.mk 0 0 0 0 [], none, 0)).2.2) (fun i hi => ?_) (fun i hi => ?_)
      · have hi' : i < l.length := by rw [List.length_map] at hi; exact hi
        have e : l.getD i (.mk 0 0 0 0 [], none, 0) = l[i] := by rw [List.getD_eq_getElem?_getD, List.getElem?_eq_getElem hi']; rfl
        rw [e, List.getElem_map]
        exact hc i hi'
      · have hi' : i < l.length := by rw [List.length_map] at hi; exact hi
        have e : l.getD i (.mk 0 0 0 0 [], none, 0) = l[i] := by rw [List.getD_eq_getElem?_getD, List.getElem?_eq_getElem hi']; rfl
        rw [e, List.getElem_map]
        exact hQ _ (List.getElem_mem hi')
    · have h0 : cs = cs.drop 0 := rfl
      have h9 : cs.drop 5 = [] := List.drop_of_length_le (by omega)
      rw [h0, cut cs 0 1 1 rfl, cut cs 1 1 2 rfl, cut cs 2 1 3 rfl, cut cs 3 1 4 rfl, cut cs 4 1 5 rfl, e0, e1, e2, e3, e4, h9]
      simp [cndCells, Cnd.kind, Cnd.thread, Cnd.n, Cnd.val, Cnd.kids]
theorem opensW_prg : OpensW enc Tryz.prog w base spare held F 29 fun cs => ∃ p : Prg, PrgV w.heap.size w cs p := fun n hn cs x h hw => by
  have hF : n ≤ n + 1 := Nat.le_succ n
  have hl : cs.length = 10 := by
    obtain ⟨xs, m, _, _, hl, _, _⟩ := DataW.trod_struct Tryz.underlying29 h
    rw [cC 29 10 (by kernel_rfl)] at hl
    exact hl
  obtain ⟨nm, k0, e0⟩ := OpensW.field (F := n + 1) (o := 0) (i := 0) Tryz.underlying29 h hw hF rfl rfl rfl (cC 9 1 (by kernel_rfl)) (opensW_str Tryz.underlying9)
  obtain ⟨p1, c1, l1, e1, k1, kc1, q1, r1⟩ := OpensW.field (F := n + 1) (o := 1) (i := 1) Tryz.underlying29 h hw hF rfl rfl rfl (cC 22 1 (by kernel_rfl))
    (opensW_sl (F := n) ([] : List UInt8) (f := namE.enc) (Q := fun s => s.length ≤ 140737488351232) (sz := 1) (by decide) Tryz.underlying22 (by kernel_rfl) (by kernel_rfl) (opensW_str Tryz.underlying9))
  obtain ⟨p2, c2, l2, e2, k2, kc2, q2, r2⟩ := OpensW.field (F := n + 1) (o := 2) (i := 2) Tryz.underlying29 h hw hF rfl rfl rfl (cC 23 1 (by kernel_rfl))
    (opensW_sl (F := n) (0 : UInt8) (f := byteE.enc) (Q := fun _ => True) (sz := 1) (by decide) Tryz.underlying23 cells5 (by kernel_rfl) (opensW_of (fun fuel cs x h => by
      obtain ⟨b, hb⟩ := opens_u8 Tryz.underlying5 fuel cs x h
      exact ⟨b, trivial, hb⟩)))
  obtain ⟨p3, c3, l3, e3, k3, kc3, q3, r3⟩ := OpensW.field (F := n + 1) (o := 3) (i := 3) Tryz.underlying29 h hw hF rfl rfl rfl (cC 24 1 (by kernel_rfl))
    (opensW_sl (F := n) (([], none, 0) : ThrR) (f := thrE.enc) (Q := fun x => x.1.length ≤ 140737488351232 ∧ RowB insE w.heap.size w x.2.1 x.1) (sz := 1) (by decide) Tryz.underlying24 (by kernel_rfl) (by kernel_rfl) opensW_thr)
  obtain ⟨b4, e4⟩ := OpensW.field (F := n + 1) (o := 4) (i := 4) Tryz.underlying29 h hw hF rfl rfl rfl cells5 (opensW_of (opens_u8 Tryz.underlying5))
  obtain ⟨⟨c, p4, c4⟩, hk, e5⟩ := OpensW.field (F := n + 1) (o := 5) (i := 5) Tryz.underlying29 h hw hF rfl rfl rfl (cC 27 5 (by kernel_rfl)) (opensW_cnd (n + 1))
  refine ⟨⟨nm, l1, l2, l3.map (·.1), b4, c⟩, ⟨k0, k1.1, q1, k2.1, by rw [List.length_map]; exact k3.1, fun l hl => ?_⟩, p1, c1, p2, c2, p3, c3, p4, c4, ?_, row_of r1, row_of r2, ⟨l3, rfl, row_of r3, fun x hx => (q3 x hx).2⟩, hk, kc1⟩
  · obtain ⟨x, hx, rfl⟩ := List.mem_map.1 hl
    exact (q3 x hx).1
  · have h0 : cs = cs.drop 0 := rfl
    have h9 : cs.drop 10 = [] := List.drop_of_length_le (by omega)
    rw [h0, cut cs 0 1 1 rfl, cut cs 1 1 2 rfl, cut cs 2 1 3 rfl, cut cs 3 1 4 rfl, cut cs 4 1 5 rfl, cut cs 5 5 10 rfl, e0, e1, e2, e3, e4, e5, h9]
    simp [prgCells, cndCells]
theorem opens_geo : Opens enc Tryz.prog w base spare held 31 fun cs => ∃ g : Geo, cs = g.enc := fun fuel cs x h => by
  obtain ⟨xs, m, rfl, rfl, hl, hx, hel⟩ := DataW.trod_struct Tryz.underlying31 h
  rw [cC 31 5 (by kernel_rfl)] at hl
  obtain ⟨b0, e0⟩ := Opens.field (o := 0) (i := 0) hel hx rfl rfl (cC 3 1 (by kernel_rfl)) (opens_int Tryz.underlying3)
  obtain ⟨b1, e1⟩ := Opens.field (o := 1) (i := 1) hel hx rfl rfl (cC 3 1 (by kernel_rfl)) (opens_int Tryz.underlying3)
  obtain ⟨b2, e2⟩ := Opens.field (o := 2) (i := 2) hel hx rfl rfl (cC 3 1 (by kernel_rfl)) (opens_int Tryz.underlying3)
  obtain ⟨b3, e3⟩ := Opens.field (o := 3) (i := 3) hel hx rfl rfl (cC 3 1 (by kernel_rfl)) (opens_int Tryz.underlying3)
  obtain ⟨b4, e4⟩ := Opens.field (o := 4) (i := 4) hel hx rfl rfl (cC 3 1 (by kernel_rfl)) (opens_int Tryz.underlying3)
  refine ⟨⟨b0, b1, b2, b3, b4⟩, ?_⟩
  have h0 : cs = cs.drop 0 := rfl
  have h9 : cs.drop 5 = [] := List.drop_of_length_le (by omega)
  rw [h0, cut cs 0 1 1 rfl, cut cs 1 1 2 rfl, cut cs 2 1 3 rfl, cut cs 3 1 4 rfl, cut cs 4 1 5 rfl, e0, e1, e2, e3, e4, h9]
  rfl
theorem opens_rules : Opens enc Tryz.prog w base spare held 33 fun cs => ∃ m v : UInt8, cs[0]? = some (u8 m) ∧ cs[1]? = some (u8 v) := fun fuel cs x h => by
  obtain ⟨xs, m, rfl, rfl, hl, hx, hel⟩ := DataW.trod_struct Tryz.underlying33 h
  obtain ⟨b0, e0⟩ := Opens.field (o := 0) (i := 0) hel hx rfl rfl cells5 (opens_u8 Tryz.underlying5)
  obtain ⟨b1, e1⟩ := Opens.field (o := 1) (i := 1) hel hx rfl rfl cells5 (opens_u8 Tryz.underlying5)
  refine ⟨b0, b1, ?_, ?_⟩
  · have := congrArg (fun l => l[0]?) e0
    simpa using this
  · have := congrArg (fun l => l[0]?) e1
    simpa using this
theorem opensW_wld : OpensW enc Tryz.prog w base spare held F 44 fun cs => ∃ (p : Prg) (g : Geo) (md : UInt8), WldV w.heap.size w cs p g md := fun n hn cs x h hw => by
  have hF : n ≤ n + 1 := Nat.le_succ n
  have hl : cs.length = 585 := by
    obtain ⟨xs, m, _, _, hl, _, _⟩ := DataW.trod_struct Tryz.underlying44 h
    rw [cC 44 585 (by kernel_rfl)] at hl
    exact hl
  obtain ⟨p, hp⟩ := OpensW.field (F := n + 1) (o := 0) (i := 0) Tryz.underlying44 h hw hF rfl rfl rfl (cC 29 10 (by kernel_rfl)) opensW_prg
  obtain ⟨g, e1⟩ := OpensW.field (F := n + 1) (o := 10) (i := 1) Tryz.underlying44 h hw hF rfl rfl rfl (cC 31 5 (by kernel_rfl)) (opensW_of opens_geo)
  obtain ⟨mode, v, _, e2⟩ := OpensW.field (F := n + 1) (o := 15) (i := 2) Tryz.underlying44 h hw hF rfl rfl rfl (cC 33 5 (by kernel_rfl)) (opensW_of opens_rules)
  refine ⟨p, g, v, (cs.drop 0).take 10, cs.drop 15, ?_, hp, ?_, by rw [List.length_drop]; omega⟩
  · rw [← e1, ← cut cs 10 5 15 rfl, ← cut cs 0 10 10 rfl]; rfl
  · rw [List.getElem?_take, if_pos (by decide)] at e2
    exact e2
theorem open_wldv {a : Array Value} {d : DataW H} {p : List MemPlace} (h : DataW.Trod enc Tryz.prog w base spare held 44 (.agg a) d p) (hw : Wgt Tryz.prog 44 d) : ∃ (p : Prg) (g : Geo) (md : UInt8), WldV w.heap.size w a.toList p g md := by
  obtain ⟨fuel, h⟩ := h
  exact opensW_wld (F := fuel + 1) fuel (Nat.lt_succ_self _) _ _ h hw
end
end Go.Proofs.YthgmcegmgjoafaaGreatDoor
namespace Go.Proofs.YthgmcegmgjoafaaGreatDoor
open Go.Vc Go.RowKit Go.Sei
open Go.ChangeShapes Go.WideShapes Go.ChangeAt
theorem open_byte {P : Program} {w : World} {r : Reach} {base : Nat} {t : TypeId} {v : Value} (ht : P.underlying t = some (.int .u8)) (h : Value.okWide P w r base t v) : ∃ b : UInt8, v = u8 b := by
  unfold Value.okWide at h
  rw [ht] at h
  cases v with
  | int k n =>
    have h1 : k = .u8 ∧ IntKind.has .u8 n := by
      simp only [Cell.okWide, Cell.ok, ht] at h
      obtain ⟨rfl, h⟩ := h
      exact ⟨rfl, h⟩
    obtain ⟨rfl, h2⟩ := h1
    have h3 : 0 ≤ n ∧ n ≤ 255 := ⟨by have := h2.1; simpa [IntKind.min, IntKind.signed, IntKind.bits] using this, by have := h2.2; simpa [IntKind.max, IntKind.signed, IntKind.bits] using this⟩
    have e : ((UInt8.ofNat n.toNat).toNat : Int) = n := by
      rw [UInt8.toNat_ofNat']; omega
    exact ⟨UInt8.ofNat n.toNat, by rw [u8, e]⟩
  | _ => simp_all [Cell.okWide, Cell.ok]
abbrev seatLaid : List (String × DataW Unit) := [("seisin/geo.bounds", Rows.laid_seisin_geo_bounds), ("seisin/check.needs", Rows.laid_seisin_check_needs)]
theorem globt_of_laid {W : World} (h : laidMetH Tryz.prog seatLaid W) (hsh : W.ShapedOpen Tryz.prog) : GlobT W := by
  have h0 : laidMet Tryz.prog seatLaid W := h
  have h1 := h0.tail
  have bnd : Cells W ⟨2, 0, none⟩ (bndL.map i64) := by
    obtain ⟨ps, ⟨g', t', cs, fuel, p, q, hg', ht', hv, hd, _, _⟩, _⟩ := h0
    obtain rfl := Option.some.inj ((show Tryz.prog.globalNamed "seisin/geo.bounds" = some 2 by kernel_rfl).symm.trans hg')
    obtain rfl := Option.some.inj ((show (Tryz.prog.globals[2]?).map (·.type) = some 185 by kernel_rfl).symm.trans ht')
    obtain ⟨bs, h1, h2, h3⟩ := open_is Tryz.underlying185 Tryz.underlying3 (by kernel_rfl) (by kernel_rfl) hd
    have hbs : bs = bndL := by
      match bs, h1 with
      | [b0, b1, b2, b3, b4], _ =>
        simp only [Rows.laid_seisin_geo_bounds, List.map_cons, List.map_nil, DataW.agg.injEq, List.cons.injEq, DataW.lit.injEq, Lit.int.injEq, true_and, and_true] at h3
        simp only [bndL, List.cons.injEq, and_true]
        obtain ⟨a0, a1, a2, a3, a4⟩ := h3
        exact ⟨a0.symm, a1.symm, a2.symm, a3.symm, a4.symm⟩
    subst hbs
    refine cells_mk fun i v hvv => ?_
    have hc := World.var?_cell hg' hv i
    rw [← hvv, ← h2]
    simpa using hc
  have cls : Cells W ⟨3, 0, none⟩ (needL.map u8) := by
    obtain ⟨ps, ⟨g', t', cs, fuel, p, q, hg', ht', hv, hd, _, _⟩, _⟩ := h1
    obtain rfl := Option.some.inj ((show Tryz.prog.globalNamed "seisin/check.needs" = some 3 by kernel_rfl).symm.trans hg')
    obtain rfl := Option.some.inj ((show (Tryz.prog.globals[3]?).map (·.type) = some 236 by kernel_rfl).symm.trans ht')
    obtain ⟨bs, h1, h2, h3⟩ := open_u8s Tryz.underlying236 Tryz.underlying5 (by kernel_rfl) (by kernel_rfl) hd
    have hbs : bs = needL := by
      match bs, h1 with
      | [b0, b1, b2, b3, b4, b5, b6, b7, b8], _ =>
        simp only [Rows.laid_seisin_check_needs, List.map_cons, List.map_nil, DataW.agg.injEq, List.cons.injEq, DataW.lit.injEq, Lit.int.injEq, true_and, and_true] at h3
        simp only [needL, List.cons.injEq, and_true]
        obtain ⟨a0, a1, a2, a3, a4, a5, a6, a7, a8⟩ := h3
        refine ⟨?_, ?_, ?_, ?_, ?_, ?_, ?_, ?_, ?_⟩ <;> (apply UInt8.toNat_inj.1; simp; omega)
    subst hbs
    refine cells_mk fun i v hvv => ?_
    have hc := World.var?_cell hg' hv i
    rw [← hvv, ← h2]
    simpa using hc
  exact ⟨cls, bnd⟩
def lit1 : DataW Unit → List Value
  | .lit (.int k n) => [.int k n]
  | .lit (.string s) => [.string ⟨s.toArray⟩]
  | _ => []
def lit2 : DataW Unit → List Value
  | .agg ps => ps.flatMap lit1
  | x => lit1 x
def lit3 : DataW Unit → List Value
  | .agg ps => ps.flatMap lit2
  | x => lit1 x
def setG (h : Array Obj) (g : Nat) (cs : List Value) : Array Obj := h.modify g fun
  | .cells _ t frozen => .cells cs.toArray t frozen
  | o => o
def layH (h : Array Obj) : Array Obj :=
  let h1 := setG h 2 (lit3 Rows.laid_seisin_geo_bounds)
  setG h1 3 (lit3 Rows.laid_seisin_check_needs)
noncomputable def laidWorld (os : Os) : World :=
  { World.holding Tryz.prog os ⟨#[], #[], []⟩ with heap := layH (World.holding Tryz.prog os ⟨#[], #[], []⟩).heap }
theorem laidWorld_met (os : Os) (args : Array Value) : laidMetH Tryz.prog seatLaid ((laidWorld os).forCall (fun _ _ => 0) ⟨#[], args, []⟩).memory := by
  show laidMet Tryz.prog seatLaid _
  exact laidMet_of_run' 8 (by kernel_rfl) (by kernel_rfl)
end Go.Proofs.YthgmcegmgjoafaaGreatDoor
