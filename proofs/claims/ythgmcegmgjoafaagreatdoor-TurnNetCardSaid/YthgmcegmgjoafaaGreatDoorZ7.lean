/- Contracts: msg.Less. Contracts: the comparison of a sort of messages (Sort$1). A slice of messages of the call's own, from a lower bound on. Contracts: Sort, Same, Count at messages. Contract: slices.Equal at messages. Contract: net.Same. Plain: a program turned stays valid; turned twice is turned once; what fits still fits. Contracts: the law of messages in flight. Law23: readings opened: the parts of any reading, and the sizes. Law23: readings opened: worlds. Law23: the condition of a row gives what the walks need of a world; a world that meets it. Law23: readings opened: systems, messages, ints. Law23: readings opened: lists of messages; worlds with their mode of delivery. The condition of a row gives what the walks need of a world; a world that meets it. -/
import Derived.Test.YthgmcegmgjoafaaGreatDoorZ5
import Derived.Test.YthgmcegmgjoafaaGreatDoorZ6
import Derived.Test.YthgmcegmgjoafaaGreatDoorZ2
import Derived.Test.YthgmcegmgjoafaaGreatDoorZ4
import Derived.Test.YthgmcegmgjoafaaGreatDoorRows
import Derived.ProofKit
import Derived.OpenShut
import Derived.LaidLaws
import Derived.Below
import Derived.HandedShaped
import Derived.KernelRfl
import Derived.WalkKit
import Derived.ChangeOld
import Derived.SevenTiedAt
import Derived.LaidHandle
import Derived.Stop.LaidErr
import Derived.Lib.LaidTab
import Derived.SizedLaws
set_option linter.unusedSimpArgs false
namespace Go.Proofs.YthgmcegmgjoafaaGreatDoor
open Go.Vc Go.RowKit Go.Sei

theorem Less_c (a b : Msg) (w : World) : Calls Tryz.prog 104 #[a.val, b.val] w fun e w' => e = .returned (.bool (decide (cmpL (codeOf a) (codeOf b) < 0))) ∧ Below w.heap.size w w' := by
  refine calls_of_M (S := sg 15) (sgOk _) (args := [a.val, b.val]) (.s .p (.c .p .p)) Tryz.func104 rfl rfl (Nat.le_of_ble_eq_true rfl) rfl ?_
  have hb1 : Below w.heap.size w ((w.alloc (.cells a.val.cells 53)).alloc (.cells b.val.cells 53)) := ((Below.refl _ _).alloc (Nat.le_refl _) _).alloc (by simp) _
  have c1 := cells_block (hold (.cells b.val.cells 53) (hnew w (.cells a.val.cells 53)))
  have c2 := cells_block (hnew (w.alloc (.cells a.val.cells 53)) (.cells b.val.cells 53))
  refine ⟨Nat × Nat, fun s => ⟨[(5, .pointer (some ⟨s.1, 0, none⟩)), (6, .pointer (some ⟨s.2, 0, none⟩))], []⟩,
    fun s V => V.heap[s.1]? = some (.cells ((codeOf a).map u8).toArray 260 (0, 0)) ∧ V.heap[s.2]? = some (.cells ((codeOf b).map u8).toArray 260 (0, 0)) ∧ Below w.heap.size w V, ?_, ?_⟩
  rotate_left
  · rintro ⟨g, k⟩ V ⟨f1, f2, hb⟩
    have hb' := hb.drew
    have f1' := hdr f1
    have f2' := hdr f2
    refine DrawE.ord [] [0, 1, 2, 3, 4] (by kernel_rfl) ?_
    refine Calls.mono (CompareL_c _ _ _ _ (codeOf a) (codeOf b) _ (bytes_row f1') (bytes_row f2') (Nat.le_of_ble_eq_true rfl)) ?_
    rintro _ _ ⟨rfl, rfl⟩
    refine ⟨Below.refl _ _, ?_⟩
    exact And.intro rfl hb'
  refine DrawE.tree [6, 7] (.op 0 (.op 2 (.alt (.op 1 (.alt (.op 3 (.alt (.op 4 (.op 5 (.op 6 (.op 7 (.nil))))) (.op 5 (.op 4 (.op 6 (.op 7 (.nil))))))) (.alt (.op 4 (.alt (.op 3 (.op 5 (.op 6 (.op 7 (.nil))))) (.op 5 (.op 3 (.op 6 (.op 7 (.nil))))))) (.op 5 (.alt (.op 3 (.op 4 (.op 6 (.op 7 (.nil))))) (.op 4 (.op 3 (.op 6 (.op 7 (.nil)))))))))) (.alt (.op 4 (.alt (.op 1 (.alt (.op 3 (.op 5 (.op 6 (.op 7 (.nil))))) (.op 5 (.op 3 (.op 6 (.op 7 (.nil))))))) (.op 5 (.op 1 (.op 3 (.op 6 (.op 7 (.nil)))))))) (.op 5 (.alt (.op 1 (.alt (.op 3 (.op 4 (.op 6 (.op 7 (.nil))))) (.op 4 (.op 3 (.op 6 (.op 7 (.nil))))))) (.op 4 (.op 1 (.op 3 (.op 6 (.op 7 (.nil)))))))))))) (by kernel_rfl) ?_
  obtain ⟨W, hW⟩ : ∃ W, W = ((w.alloc (.cells a.val.cells 53)).alloc (.cells b.val.cells 53)).drew := ⟨_, rfl⟩
  have hbW : Below w.heap.size w W := hW ▸ hb1.drew
  rw [← hW]
  refine ⟨a.enc, rfl, by rw [hW]; exact c1, by rw [hW]; simp [World.drew]; omega, ?_⟩
  refine ⟨b.enc, rfl, by rw [hW]; exact c2, by rw [hW]; simp [World.drew], ?_⟩
  clear hW c1 c2 hb1
  refine And.intro ?_ ?_
  · refine Calls.mono (code_c a _) ?_
    rintro _ V1 ⟨rfl, hb1⟩
    refine ⟨hb1, ?_⟩
    have hw1 := hbW.trans (hb1.mono hbW.size)
    refine And.intro ?_ ?_
    · refine Calls.mono (code_c b _) ?_
      rintro _ V2 ⟨rfl, hb2⟩
      refine ⟨hb2, ?_⟩
      have hw2 := hw1.trans (hb2.mono hw1.size)
      refine And.intro ?_ ?_
      · have hb3 : Below V2.heap.size V2 (V2.alloc (.cells #[.int .u8 0, .int .u8 0, .int .u8 0, .int .u8 0, .int .u8 0, .int .u8 0, .int .u8 0, .int .u8 0, .int .u8 0, .int .u8 0, .int .u8 0] 260)) := (Below.refl _ _).alloc (Nat.le_refl _) _
        refine ⟨hb3, ?_⟩
        have hw3 := hw2.trans (hb3.mono hw2.size)
        have hx3 := hnew V2 (.cells #[.int .u8 0, .int .u8 0, .int .u8 0, .int .u8 0, .int .u8 0, .int .u8 0, .int .u8 0, .int .u8 0, .int .u8 0, .int .u8 0, .int .u8 0] 260)
        have lhx := hw2.size
        have hb4 : Below (V2.alloc (.cells #[.int .u8 0, .int .u8 0, .int .u8 0, .int .u8 0, .int .u8 0, .int .u8 0, .int .u8 0, .int .u8 0, .int .u8 0, .int .u8 0, .int .u8 0] 260)).heap.size (V2.alloc (.cells #[.int .u8 0, .int .u8 0, .int .u8 0, .int .u8 0, .int .u8 0, .int .u8 0, .int .u8 0, .int .u8 0, .int .u8 0, .int .u8 0, .int .u8 0] 260)) ((V2.alloc (.cells #[.int .u8 0, .int .u8 0, .int .u8 0, .int .u8 0, .int .u8 0, .int .u8 0, .int .u8 0, .int .u8 0, .int .u8 0, .int .u8 0, .int .u8 0] 260)).alloc (.cells #[.int .u8 0, .int .u8 0, .int .u8 0, .int .u8 0, .int .u8 0, .int .u8 0, .int .u8 0, .int .u8 0, .int .u8 0, .int .u8 0, .int .u8 0] 260)) := (Below.refl _ _).alloc (Nat.le_refl _) _
        refine ⟨hb4, ?_⟩
        have hw4 := hw3.trans (hb4.mono hw3.size)
        have hlt12 : V2.heap.size < (V2.alloc (.cells #[.int .u8 0, .int .u8 0, .int .u8 0, .int .u8 0, .int .u8 0, .int .u8 0, .int .u8 0, .int .u8 0, .int .u8 0, .int .u8 0, .int .u8 0] 260)).heap.size := hlt hx3
        have hx4 := block_below hb4 hx3
        have hy4 := hnew (V2.alloc (.cells #[.int .u8 0, .int .u8 0, .int .u8 0, .int .u8 0, .int .u8 0, .int .u8 0, .int .u8 0, .int .u8 0, .int .u8 0, .int .u8 0, .int .u8 0] 260)) (.cells #[.int .u8 0, .int .u8 0, .int .u8 0, .int .u8 0, .int .u8 0, .int .u8 0, .int .u8 0, .int .u8 0, .int .u8 0, .int .u8 0, .int .u8 0] 260)
        have lhy := hw3.size
        have hne : V2.heap.size ≠ (V2.alloc (.cells #[.int .u8 0, .int .u8 0, .int .u8 0, .int .u8 0, .int .u8 0, .int .u8 0, .int .u8 0, .int .u8 0, .int .u8 0, .int .u8 0, .int .u8 0] 260)).heap.size := Nat.ne_of_lt hlt12
        refine store_box (v := .agg ((codeOf a).map u8).toArray) (ttOk.get 260 _ rfl) hx4 (by rfl) rfl (by rfl) ?_
        refine store_box (v := .agg ((codeOf b).map u8).toArray) (ttOk.get 260 _ rfl) ((setRow_old (Ne.symm hne)).trans hy4) (by rfl) rfl (by rfl) ?_
        refine ⟨(V2.heap.size, (V2.alloc (.cells #[.int .u8 0, .int .u8 0, .int .u8 0, .int .u8 0, .int .u8 0, .int .u8 0, .int .u8 0, .int .u8 0, .int .u8 0, .int .u8 0, .int .u8 0] 260)).heap.size), ⟨.cons rfl (.cons rfl .nil), rfl⟩, (setRow_old hne).trans (setRow_new hx4), setRow_new ((setRow_old (Ne.symm hne)).trans hy4), ?_⟩
        exact below_setRow (below_setRow hw4 lhx _) lhy _
      · have hb3 : Below V2.heap.size V2 (V2.alloc (.cells #[.int .u8 0, .int .u8 0, .int .u8 0, .int .u8 0, .int .u8 0, .int .u8 0, .int .u8 0, .int .u8 0, .int .u8 0, .int .u8 0, .int .u8 0] 260)) := (Below.refl _ _).alloc (Nat.le_refl _) _
        refine ⟨hb3, ?_⟩
        have hw3 := hw2.trans (hb3.mono hw2.size)
        have hy3 := hnew V2 (.cells #[.int .u8 0, .int .u8 0, .int .u8 0, .int .u8 0, .int .u8 0, .int .u8 0, .int .u8 0, .int .u8 0, .int .u8 0, .int .u8 0, .int .u8 0] 260)
        have lhy := hw2.size
        have hb4 : Below (V2.alloc (.cells #[.int .u8 0, .int .u8 0, .int .u8 0, .int .u8 0, .int .u8 0, .int .u8 0, .int .u8 0, .int .u8 0, .int .u8 0, .int .u8 0, .int .u8 0] 260)).heap.size (V2.alloc (.cells #[.int .u8 0, .int .u8 0, .int .u8 0, .int .u8 0, .int .u8 0, .int .u8 0, .int .u8 0, .int .u8 0, .int .u8 0, .int .u8 0, .int .u8 0] 260)) ((V2.alloc (.cells #[.int .u8 0, .int .u8 0, .int .u8 0, .int .u8 0, .int .u8 0, .int .u8 0, .int .u8 0, .int .u8 0, .int .u8 0, .int .u8 0, .int .u8 0] 260)).alloc (.cells #[.int .u8 0, .int .u8 0, .int .u8 0, .int .u8 0, .int .u8 0, .int .u8 0, .int .u8 0, .int .u8 0, .int .u8 0, .int .u8 0, .int .u8 0] 260)) := (Below.refl _ _).alloc (Nat.le_refl _) _
        refine ⟨hb4, ?_⟩
        have hw4 := hw3.trans (hb4.mono hw3.size)
        have hlt12 : V2.heap.size < (V2.alloc (.cells #[.int .u8 0, .int .u8 0, .int .u8 0, .int .u8 0, .int .u8 0, .int .u8 0, .int .u8 0, .int .u8 0, .int .u8 0, .int .u8 0, .int .u8 0] 260)).heap.size := hlt hy3
        have hy4 := block_below hb4 hy3
        have hx4 := hnew (V2.alloc (.cells #[.int .u8 0, .int .u8 0, .int .u8 0, .int .u8 0, .int .u8 0, .int .u8 0, .int .u8 0, .int .u8 0, .int .u8 0, .int .u8 0, .int .u8 0] 260)) (.cells #[.int .u8 0, .int .u8 0, .int .u8 0, .int .u8 0, .int .u8 0, .int .u8 0, .int .u8 0, .int .u8 0, .int .u8 0, .int .u8 0, .int .u8 0] 260)
        have lhx := hw3.size
        have hne : (V2.alloc (.cells #[.int .u8 0, .int .u8 0, .int .u8 0, .int .u8 0, .int .u8 0, .int .u8 0, .int .u8 0, .int .u8 0, .int .u8 0, .int .u8 0, .int .u8 0] 260)).heap.size ≠ V2.heap.size := (Nat.ne_of_lt hlt12).symm
        refine store_box (v := .agg ((codeOf a).map u8).toArray) (ttOk.get 260 _ rfl) hx4 (by rfl) rfl (by rfl) ?_
        refine store_box (v := .agg ((codeOf b).map u8).toArray) (ttOk.get 260 _ rfl) ((setRow_old (Ne.symm hne)).trans hy4) (by rfl) rfl (by rfl) ?_
        refine ⟨((V2.alloc (.cells #[.int .u8 0, .int .u8 0, .int .u8 0, .int .u8 0, .int .u8 0, .int .u8 0, .int .u8 0, .int .u8 0, .int .u8 0, .int .u8 0, .int .u8 0] 260)).heap.size, V2.heap.size), ⟨.cons rfl (.cons rfl .nil), rfl⟩, (setRow_old hne).trans (setRow_new hx4), setRow_new ((setRow_old (Ne.symm hne)).trans hy4), ?_⟩
        exact below_setRow (below_setRow hw4 lhx _) lhy _
    · refine And.intro ?_ ?_
      · have hb2 : Below V1.heap.size V1 (V1.alloc (.cells #[.int .u8 0, .int .u8 0, .int .u8 0, .int .u8 0, .int .u8 0, .int .u8 0, .int .u8 0, .int .u8 0, .int .u8 0, .int .u8 0, .int .u8 0] 260)) := (Below.refl _ _).alloc (Nat.le_refl _) _
        refine ⟨hb2, ?_⟩
        have hw2 := hw1.trans (hb2.mono hw1.size)
        have hx2 := hnew V1 (.cells #[.int .u8 0, .int .u8 0, .int .u8 0, .int .u8 0, .int .u8 0, .int .u8 0, .int .u8 0, .int .u8 0, .int .u8 0, .int .u8 0, .int .u8 0] 260)
        have lhx := hw1.size
        refine And.intro ?_ ?_
        · refine Calls.mono (code_c b _) ?_
          rintro _ V3 ⟨rfl, hb3⟩
          refine ⟨hb3, ?_⟩
          have hw3 := hw2.trans (hb3.mono hw2.size)
          have hx3 := block_below hb3 hx2
          have hb4 : Below V3.heap.size V3 (V3.alloc (.cells #[.int .u8 0, .int .u8 0, .int .u8 0, .int .u8 0, .int .u8 0, .int .u8 0, .int .u8 0, .int .u8 0, .int .u8 0, .int .u8 0, .int .u8 0] 260)) := (Below.refl _ _).alloc (Nat.le_refl _) _
          refine ⟨hb4, ?_⟩
          have hw4 := hw3.trans (hb4.mono hw3.size)
          have hlt12 : V1.heap.size < V3.heap.size := hlt hx3
          have hx4 := block_below hb4 hx3
          have hy4 := hnew V3 (.cells #[.int .u8 0, .int .u8 0, .int .u8 0, .int .u8 0, .int .u8 0, .int .u8 0, .int .u8 0, .int .u8 0, .int .u8 0, .int .u8 0, .int .u8 0] 260)
          have lhy := hw3.size
          have hne : V1.heap.size ≠ V3.heap.size := Nat.ne_of_lt hlt12
          refine store_box (v := .agg ((codeOf a).map u8).toArray) (ttOk.get 260 _ rfl) hx4 (by rfl) rfl (by rfl) ?_
          refine store_box (v := .agg ((codeOf b).map u8).toArray) (ttOk.get 260 _ rfl) ((setRow_old (Ne.symm hne)).trans hy4) (by rfl) rfl (by rfl) ?_
          refine ⟨(V1.heap.size, V3.heap.size), ⟨.cons rfl (.cons rfl .nil), rfl⟩, (setRow_old hne).trans (setRow_new hx4), setRow_new ((setRow_old (Ne.symm hne)).trans hy4), ?_⟩
          exact below_setRow (below_setRow hw4 lhx _) lhy _
        · have hb3 : Below (V1.alloc (.cells #[.int .u8 0, .int .u8 0, .int .u8 0, .int .u8 0, .int .u8 0, .int .u8 0, .int .u8 0, .int .u8 0, .int .u8 0, .int .u8 0, .int .u8 0] 260)).heap.size (V1.alloc (.cells #[.int .u8 0, .int .u8 0, .int .u8 0, .int .u8 0, .int .u8 0, .int .u8 0, .int .u8 0, .int .u8 0, .int .u8 0, .int .u8 0, .int .u8 0] 260)) ((V1.alloc (.cells #[.int .u8 0, .int .u8 0, .int .u8 0, .int .u8 0, .int .u8 0, .int .u8 0, .int .u8 0, .int .u8 0, .int .u8 0, .int .u8 0, .int .u8 0] 260)).alloc (.cells #[.int .u8 0, .int .u8 0, .int .u8 0, .int .u8 0, .int .u8 0, .int .u8 0, .int .u8 0, .int .u8 0, .int .u8 0, .int .u8 0, .int .u8 0] 260)) := (Below.refl _ _).alloc (Nat.le_refl _) _
          refine ⟨hb3, ?_⟩
          have hw3 := hw2.trans (hb3.mono hw2.size)
          have hlt12 : V1.heap.size < (V1.alloc (.cells #[.int .u8 0, .int .u8 0, .int .u8 0, .int .u8 0, .int .u8 0, .int .u8 0, .int .u8 0, .int .u8 0, .int .u8 0, .int .u8 0, .int .u8 0] 260)).heap.size := hlt hx2
          have hx3 := block_below hb3 hx2
          have hy3 := hnew (V1.alloc (.cells #[.int .u8 0, .int .u8 0, .int .u8 0, .int .u8 0, .int .u8 0, .int .u8 0, .int .u8 0, .int .u8 0, .int .u8 0, .int .u8 0, .int .u8 0] 260)) (.cells #[.int .u8 0, .int .u8 0, .int .u8 0, .int .u8 0, .int .u8 0, .int .u8 0, .int .u8 0, .int .u8 0, .int .u8 0, .int .u8 0, .int .u8 0] 260)
          have lhy := hw2.size
          refine Calls.mono (code_c b _) ?_
          rintro _ V4 ⟨rfl, hb4⟩
          refine ⟨hb4, ?_⟩
          have hw4 := hw3.trans (hb4.mono hw3.size)
          have hx4 := block_below hb4 hx3
          have hy4 := block_below hb4 hy3
          have hne : V1.heap.size ≠ (V1.alloc (.cells #[.int .u8 0, .int .u8 0, .int .u8 0, .int .u8 0, .int .u8 0, .int .u8 0, .int .u8 0, .int .u8 0, .int .u8 0, .int .u8 0, .int .u8 0] 260)).heap.size := Nat.ne_of_lt hlt12
          refine store_box (v := .agg ((codeOf a).map u8).toArray) (ttOk.get 260 _ rfl) hx4 (by rfl) rfl (by rfl) ?_
          refine store_box (v := .agg ((codeOf b).map u8).toArray) (ttOk.get 260 _ rfl) ((setRow_old (Ne.symm hne)).trans hy4) (by rfl) rfl (by rfl) ?_
          refine ⟨(V1.heap.size, (V1.alloc (.cells #[.int .u8 0, .int .u8 0, .int .u8 0, .int .u8 0, .int .u8 0, .int .u8 0, .int .u8 0, .int .u8 0, .int .u8 0, .int .u8 0, .int .u8 0] 260)).heap.size), ⟨.cons rfl (.cons rfl .nil), rfl⟩, (setRow_old hne).trans (setRow_new hx4), setRow_new ((setRow_old (Ne.symm hne)).trans hy4), ?_⟩
          exact below_setRow (below_setRow hw4 lhx _) lhy _
      · have hb2 : Below V1.heap.size V1 (V1.alloc (.cells #[.int .u8 0, .int .u8 0, .int .u8 0, .int .u8 0, .int .u8 0, .int .u8 0, .int .u8 0, .int .u8 0, .int .u8 0, .int .u8 0, .int .u8 0] 260)) := (Below.refl _ _).alloc (Nat.le_refl _) _
        refine ⟨hb2, ?_⟩
        have hw2 := hw1.trans (hb2.mono hw1.size)
        have hy2 := hnew V1 (.cells #[.int .u8 0, .int .u8 0, .int .u8 0, .int .u8 0, .int .u8 0, .int .u8 0, .int .u8 0, .int .u8 0, .int .u8 0, .int .u8 0, .int .u8 0] 260)
        have lhy := hw1.size
        refine And.intro ?_ ?_
        · refine Calls.mono (code_c b _) ?_
          rintro _ V3 ⟨rfl, hb3⟩
          refine ⟨hb3, ?_⟩
          have hw3 := hw2.trans (hb3.mono hw2.size)
          have hy3 := block_below hb3 hy2
          have hb4 : Below V3.heap.size V3 (V3.alloc (.cells #[.int .u8 0, .int .u8 0, .int .u8 0, .int .u8 0, .int .u8 0, .int .u8 0, .int .u8 0, .int .u8 0, .int .u8 0, .int .u8 0, .int .u8 0] 260)) := (Below.refl _ _).alloc (Nat.le_refl _) _
          refine ⟨hb4, ?_⟩
          have hw4 := hw3.trans (hb4.mono hw3.size)
          have hlt12 : V1.heap.size < V3.heap.size := hlt hy3
          have hy4 := block_below hb4 hy3
          have hx4 := hnew V3 (.cells #[.int .u8 0, .int .u8 0, .int .u8 0, .int .u8 0, .int .u8 0, .int .u8 0, .int .u8 0, .int .u8 0, .int .u8 0, .int .u8 0, .int .u8 0] 260)
          have lhx := hw3.size
          have hne : V3.heap.size ≠ V1.heap.size := (Nat.ne_of_lt hlt12).symm
          refine store_box (v := .agg ((codeOf a).map u8).toArray) (ttOk.get 260 _ rfl) hx4 (by rfl) rfl (by rfl) ?_
          refine store_box (v := .agg ((codeOf b).map u8).toArray) (ttOk.get 260 _ rfl) ((setRow_old (Ne.symm hne)).trans hy4) (by rfl) rfl (by rfl) ?_
          refine ⟨(V3.heap.size, V1.heap.size), ⟨.cons rfl (.cons rfl .nil), rfl⟩, (setRow_old hne).trans (setRow_new hx4), setRow_new ((setRow_old (Ne.symm hne)).trans hy4), ?_⟩
          exact below_setRow (below_setRow hw4 lhx _) lhy _
        · have hb3 : Below (V1.alloc (.cells #[.int .u8 0, .int .u8 0, .int .u8 0, .int .u8 0, .int .u8 0, .int .u8 0, .int .u8 0, .int .u8 0, .int .u8 0, .int .u8 0, .int .u8 0] 260)).heap.size (V1.alloc (.cells #[.int .u8 0, .int .u8 0, .int .u8 0, .int .u8 0, .int .u8 0, .int .u8 0, .int .u8 0, .int .u8 0, .int .u8 0, .int .u8 0, .int .u8 0] 260)) ((V1.alloc (.cells #[.int .u8 0, .int .u8 0, .int .u8 0, .int .u8 0, .int .u8 0, .int .u8 0, .int .u8 0, .int .u8 0, .int .u8 0, .int .u8 0, .int .u8 0] 260)).alloc (.cells #[.int .u8 0, .int .u8 0, .int .u8 0, .int .u8 0, .int .u8 0, .int .u8 0, .int .u8 0, .int .u8 0, .int .u8 0, .int .u8 0, .int .u8 0] 260)) := (Below.refl _ _).alloc (Nat.le_refl _) _
          refine ⟨hb3, ?_⟩
          have hw3 := hw2.trans (hb3.mono hw2.size)
          have hlt12 : V1.heap.size < (V1.alloc (.cells #[.int .u8 0, .int .u8 0, .int .u8 0, .int .u8 0, .int .u8 0, .int .u8 0, .int .u8 0, .int .u8 0, .int .u8 0, .int .u8 0, .int .u8 0] 260)).heap.size := hlt hy2
          have hy3 := block_below hb3 hy2
          have hx3 := hnew (V1.alloc (.cells #[.int .u8 0, .int .u8 0, .int .u8 0, .int .u8 0, .int .u8 0, .int .u8 0, .int .u8 0, .int .u8 0, .int .u8 0, .int .u8 0, .int .u8 0] 260)) (.cells #[.int .u8 0, .int .u8 0, .int .u8 0, .int .u8 0, .int .u8 0, .int .u8 0, .int .u8 0, .int .u8 0, .int .u8 0, .int .u8 0, .int .u8 0] 260)
          have lhx := hw2.size
          refine Calls.mono (code_c b _) ?_
          rintro _ V4 ⟨rfl, hb4⟩
          refine ⟨hb4, ?_⟩
          have hw4 := hw3.trans (hb4.mono hw3.size)
          have hy4 := block_below hb4 hy3
          have hx4 := block_below hb4 hx3
          have hne : (V1.alloc (.cells #[.int .u8 0, .int .u8 0, .int .u8 0, .int .u8 0, .int .u8 0, .int .u8 0, .int .u8 0, .int .u8 0, .int .u8 0, .int .u8 0, .int .u8 0] 260)).heap.size ≠ V1.heap.size := (Nat.ne_of_lt hlt12).symm
          refine store_box (v := .agg ((codeOf a).map u8).toArray) (ttOk.get 260 _ rfl) hx4 (by rfl) rfl (by rfl) ?_
          refine store_box (v := .agg ((codeOf b).map u8).toArray) (ttOk.get 260 _ rfl) ((setRow_old (Ne.symm hne)).trans hy4) (by rfl) rfl (by rfl) ?_
          refine ⟨((V1.alloc (.cells #[.int .u8 0, .int .u8 0, .int .u8 0, .int .u8 0, .int .u8 0, .int .u8 0, .int .u8 0, .int .u8 0, .int .u8 0, .int .u8 0, .int .u8 0] 260)).heap.size, V1.heap.size), ⟨.cons rfl (.cons rfl .nil), rfl⟩, (setRow_old hne).trans (setRow_new hx4), setRow_new ((setRow_old (Ne.symm hne)).trans hy4), ?_⟩
          exact below_setRow (below_setRow hw4 lhx _) lhy _
  · refine And.intro ?_ ?_
    · have hb1 : Below W.heap.size W (W.alloc (.cells #[.int .u8 0, .int .u8 0, .int .u8 0, .int .u8 0, .int .u8 0, .int .u8 0, .int .u8 0, .int .u8 0, .int .u8 0, .int .u8 0, .int .u8 0] 260)) := (Below.refl _ _).alloc (Nat.le_refl _) _
      refine ⟨hb1, ?_⟩
      have hw1 := hbW.trans (hb1.mono hbW.size)
      have hx1 := hnew W (.cells #[.int .u8 0, .int .u8 0, .int .u8 0, .int .u8 0, .int .u8 0, .int .u8 0, .int .u8 0, .int .u8 0, .int .u8 0, .int .u8 0, .int .u8 0] 260)
      have lhx := hbW.size
      refine And.intro ?_ ?_
      · refine Calls.mono (code_c a _) ?_
        rintro _ V2 ⟨rfl, hb2⟩
        refine ⟨hb2, ?_⟩
        have hw2 := hw1.trans (hb2.mono hw1.size)
        have hx2 := block_below hb2 hx1
        refine And.intro ?_ ?_
        · refine Calls.mono (code_c b _) ?_
          rintro _ V3 ⟨rfl, hb3⟩
          refine ⟨hb3, ?_⟩
          have hw3 := hw2.trans (hb3.mono hw2.size)
          have hx3 := block_below hb3 hx2
          have hb4 : Below V3.heap.size V3 (V3.alloc (.cells #[.int .u8 0, .int .u8 0, .int .u8 0, .int .u8 0, .int .u8 0, .int .u8 0, .int .u8 0, .int .u8 0, .int .u8 0, .int .u8 0, .int .u8 0] 260)) := (Below.refl _ _).alloc (Nat.le_refl _) _
          refine ⟨hb4, ?_⟩
          have hw4 := hw3.trans (hb4.mono hw3.size)
          have hlt12 : W.heap.size < V3.heap.size := hlt hx3
          have hx4 := block_below hb4 hx3
          have hy4 := hnew V3 (.cells #[.int .u8 0, .int .u8 0, .int .u8 0, .int .u8 0, .int .u8 0, .int .u8 0, .int .u8 0, .int .u8 0, .int .u8 0, .int .u8 0, .int .u8 0] 260)
          have lhy := hw3.size
          have hne : W.heap.size ≠ V3.heap.size := Nat.ne_of_lt hlt12
          refine store_box (v := .agg ((codeOf a).map u8).toArray) (ttOk.get 260 _ rfl) hx4 (by rfl) rfl (by rfl) ?_
          refine store_box (v := .agg ((codeOf b).map u8).toArray) (ttOk.get 260 _ rfl) ((setRow_old (Ne.symm hne)).trans hy4) (by rfl) rfl (by rfl) ?_
          refine ⟨(W.heap.size, V3.heap.size), ⟨.cons rfl (.cons rfl .nil), rfl⟩, (setRow_old hne).trans (setRow_new hx4), setRow_new ((setRow_old (Ne.symm hne)).trans hy4), ?_⟩
          exact below_setRow (below_setRow hw4 lhx _) lhy _
        · have hb3 : Below V2.heap.size V2 (V2.alloc (.cells #[.int .u8 0, .int .u8 0, .int .u8 0, .int .u8 0, .int .u8 0, .int .u8 0, .int .u8 0, .int .u8 0, .int .u8 0, .int .u8 0, .int .u8 0] 260)) := (Below.refl _ _).alloc (Nat.le_refl _) _
          refine ⟨hb3, ?_⟩
          have hw3 := hw2.trans (hb3.mono hw2.size)
          have hlt12 : W.heap.size < V2.heap.size := hlt hx2
          have hx3 := block_below hb3 hx2
          have hy3 := hnew V2 (.cells #[.int .u8 0, .int .u8 0, .int .u8 0, .int .u8 0, .int .u8 0, .int .u8 0, .int .u8 0, .int .u8 0, .int .u8 0, .int .u8 0, .int .u8 0] 260)
          have lhy := hw2.size
          refine Calls.mono (code_c b _) ?_
          rintro _ V4 ⟨rfl, hb4⟩
          refine ⟨hb4, ?_⟩
          have hw4 := hw3.trans (hb4.mono hw3.size)
          have hx4 := block_below hb4 hx3
          have hy4 := block_below hb4 hy3
          have hne : W.heap.size ≠ V2.heap.size := Nat.ne_of_lt hlt12
          refine store_box (v := .agg ((codeOf a).map u8).toArray) (ttOk.get 260 _ rfl) hx4 (by rfl) rfl (by rfl) ?_
          refine store_box (v := .agg ((codeOf b).map u8).toArray) (ttOk.get 260 _ rfl) ((setRow_old (Ne.symm hne)).trans hy4) (by rfl) rfl (by rfl) ?_
          refine ⟨(W.heap.size, V2.heap.size), ⟨.cons rfl (.cons rfl .nil), rfl⟩, (setRow_old hne).trans (setRow_new hx4), setRow_new ((setRow_old (Ne.symm hne)).trans hy4), ?_⟩
          exact below_setRow (below_setRow hw4 lhx _) lhy _
      · have hb2 : Below (W.alloc (.cells #[.int .u8 0, .int .u8 0, .int .u8 0, .int .u8 0, .int .u8 0, .int .u8 0, .int .u8 0, .int .u8 0, .int .u8 0, .int .u8 0, .int .u8 0] 260)).heap.size (W.alloc (.cells #[.int .u8 0, .int .u8 0, .int .u8 0, .int .u8 0, .int .u8 0, .int .u8 0, .int .u8 0, .int .u8 0, .int .u8 0, .int .u8 0, .int .u8 0] 260)) ((W.alloc (.cells #[.int .u8 0, .int .u8 0, .int .u8 0, .int .u8 0, .int .u8 0, .int .u8 0, .int .u8 0, .int .u8 0, .int .u8 0, .int .u8 0, .int .u8 0] 260)).alloc (.cells #[.int .u8 0, .int .u8 0, .int .u8 0, .int .u8 0, .int .u8 0, .int .u8 0, .int .u8 0, .int .u8 0, .int .u8 0, .int .u8 0, .int .u8 0] 260)) := (Below.refl _ _).alloc (Nat.le_refl _) _
        refine ⟨hb2, ?_⟩
        have hw2 := hw1.trans (hb2.mono hw1.size)
        have hlt12 : W.heap.size < (W.alloc (.cells #[.int .u8 0, .int .u8 0, .int .u8 0, .int .u8 0, .int .u8 0, .int .u8 0, .int .u8 0, .int .u8 0, .int .u8 0, .int .u8 0, .int .u8 0] 260)).heap.size := hlt hx1
        have hx2 := block_below hb2 hx1
        have hy2 := hnew (W.alloc (.cells #[.int .u8 0, .int .u8 0, .int .u8 0, .int .u8 0, .int .u8 0, .int .u8 0, .int .u8 0, .int .u8 0, .int .u8 0, .int .u8 0, .int .u8 0] 260)) (.cells #[.int .u8 0, .int .u8 0, .int .u8 0, .int .u8 0, .int .u8 0, .int .u8 0, .int .u8 0, .int .u8 0, .int .u8 0, .int .u8 0, .int .u8 0] 260)
        have lhy := hw1.size
        refine Calls.mono (code_c a _) ?_
        rintro _ V3 ⟨rfl, hb3⟩
        refine ⟨hb3, ?_⟩
        have hw3 := hw2.trans (hb3.mono hw2.size)
        have hx3 := block_below hb3 hx2
        have hy3 := block_below hb3 hy2
        refine Calls.mono (code_c b _) ?_
        rintro _ V4 ⟨rfl, hb4⟩
        refine ⟨hb4, ?_⟩
        have hw4 := hw3.trans (hb4.mono hw3.size)
        have hx4 := block_below hb4 hx3
        have hy4 := block_below hb4 hy3
        have hne : W.heap.size ≠ (W.alloc (.cells #[.int .u8 0, .int .u8 0, .int .u8 0, .int .u8 0, .int .u8 0, .int .u8 0, .int .u8 0, .int .u8 0, .int .u8 0, .int .u8 0, .int .u8 0] 260)).heap.size := Nat.ne_of_lt hlt12
        refine store_box (v := .agg ((codeOf a).map u8).toArray) (ttOk.get 260 _ rfl) hx4 (by rfl) rfl (by rfl) ?_
        refine store_box (v := .agg ((codeOf b).map u8).toArray) (ttOk.get 260 _ rfl) ((setRow_old (Ne.symm hne)).trans hy4) (by rfl) rfl (by rfl) ?_
        refine ⟨(W.heap.size, (W.alloc (.cells #[.int .u8 0, .int .u8 0, .int .u8 0, .int .u8 0, .int .u8 0, .int .u8 0, .int .u8 0, .int .u8 0, .int .u8 0, .int .u8 0, .int .u8 0] 260)).heap.size), ⟨.cons rfl (.cons rfl .nil), rfl⟩, (setRow_old hne).trans (setRow_new hx4), setRow_new ((setRow_old (Ne.symm hne)).trans hy4), ?_⟩
        exact below_setRow (below_setRow hw4 lhx _) lhy _
    · have hb1 : Below W.heap.size W (W.alloc (.cells #[.int .u8 0, .int .u8 0, .int .u8 0, .int .u8 0, .int .u8 0, .int .u8 0, .int .u8 0, .int .u8 0, .int .u8 0, .int .u8 0, .int .u8 0] 260)) := (Below.refl _ _).alloc (Nat.le_refl _) _
      refine ⟨hb1, ?_⟩
      have hw1 := hbW.trans (hb1.mono hbW.size)
      have hy1 := hnew W (.cells #[.int .u8 0, .int .u8 0, .int .u8 0, .int .u8 0, .int .u8 0, .int .u8 0, .int .u8 0, .int .u8 0, .int .u8 0, .int .u8 0, .int .u8 0] 260)
      have lhy := hbW.size
      refine And.intro ?_ ?_
      · refine Calls.mono (code_c a _) ?_
        rintro _ V2 ⟨rfl, hb2⟩
        refine ⟨hb2, ?_⟩
        have hw2 := hw1.trans (hb2.mono hw1.size)
        have hy2 := block_below hb2 hy1
        refine And.intro ?_ ?_
        · refine Calls.mono (code_c b _) ?_
          rintro _ V3 ⟨rfl, hb3⟩
          refine ⟨hb3, ?_⟩
          have hw3 := hw2.trans (hb3.mono hw2.size)
          have hy3 := block_below hb3 hy2
          have hb4 : Below V3.heap.size V3 (V3.alloc (.cells #[.int .u8 0, .int .u8 0, .int .u8 0, .int .u8 0, .int .u8 0, .int .u8 0, .int .u8 0, .int .u8 0, .int .u8 0, .int .u8 0, .int .u8 0] 260)) := (Below.refl _ _).alloc (Nat.le_refl _) _
          refine ⟨hb4, ?_⟩
          have hw4 := hw3.trans (hb4.mono hw3.size)
          have hlt12 : W.heap.size < V3.heap.size := hlt hy3
          have hy4 := block_below hb4 hy3
          have hx4 := hnew V3 (.cells #[.int .u8 0, .int .u8 0, .int .u8 0, .int .u8 0, .int .u8 0, .int .u8 0, .int .u8 0, .int .u8 0, .int .u8 0, .int .u8 0, .int .u8 0] 260)
          have lhx := hw3.size
          have hne : V3.heap.size ≠ W.heap.size := (Nat.ne_of_lt hlt12).symm
          refine store_box (v := .agg ((codeOf a).map u8).toArray) (ttOk.get 260 _ rfl) hx4 (by rfl) rfl (by rfl) ?_
          refine store_box (v := .agg ((codeOf b).map u8).toArray) (ttOk.get 260 _ rfl) ((setRow_old (Ne.symm hne)).trans hy4) (by rfl) rfl (by rfl) ?_
          refine ⟨(V3.heap.size, W.heap.size), ⟨.cons rfl (.cons rfl .nil), rfl⟩, (setRow_old hne).trans (setRow_new hx4), setRow_new ((setRow_old (Ne.symm hne)).trans hy4), ?_⟩
          exact below_setRow (below_setRow hw4 lhx _) lhy _
        · have hb3 : Below V2.heap.size V2 (V2.alloc (.cells #[.int .u8 0, .int .u8 0, .int .u8 0, .int .u8 0, .int .u8 0, .int .u8 0, .int .u8 0, .int .u8 0, .int .u8 0, .int .u8 0, .int .u8 0] 260)) := (Below.refl _ _).alloc (Nat.le_refl _) _
          refine ⟨hb3, ?_⟩
          have hw3 := hw2.trans (hb3.mono hw2.size)
          have hlt12 : W.heap.size < V2.heap.size := hlt hy2
          have hy3 := block_below hb3 hy2
          have hx3 := hnew V2 (.cells #[.int .u8 0, .int .u8 0, .int .u8 0, .int .u8 0, .int .u8 0, .int .u8 0, .int .u8 0, .int .u8 0, .int .u8 0, .int .u8 0, .int .u8 0] 260)
          have lhx := hw2.size
          refine Calls.mono (code_c b _) ?_
          rintro _ V4 ⟨rfl, hb4⟩
          refine ⟨hb4, ?_⟩
          have hw4 := hw3.trans (hb4.mono hw3.size)
          have hy4 := block_below hb4 hy3
          have hx4 := block_below hb4 hx3
          have hne : V2.heap.size ≠ W.heap.size := (Nat.ne_of_lt hlt12).symm
          refine store_box (v := .agg ((codeOf a).map u8).toArray) (ttOk.get 260 _ rfl) hx4 (by rfl) rfl (by rfl) ?_
          refine store_box (v := .agg ((codeOf b).map u8).toArray) (ttOk.get 260 _ rfl) ((setRow_old (Ne.symm hne)).trans hy4) (by rfl) rfl (by rfl) ?_
          refine ⟨(V2.heap.size, W.heap.size), ⟨.cons rfl (.cons rfl .nil), rfl⟩, (setRow_old hne).trans (setRow_new hx4), setRow_new ((setRow_old (Ne.symm hne)).trans hy4), ?_⟩
          exact below_setRow (below_setRow hw4 lhx _) lhy _
      · have hb2 : Below (W.alloc (.cells #[.int .u8 0, .int .u8 0, .int .u8 0, .int .u8 0, .int .u8 0, .int .u8 0, .int .u8 0, .int .u8 0, .int .u8 0, .int .u8 0, .int .u8 0] 260)).heap.size (W.alloc (.cells #[.int .u8 0, .int .u8 0, .int .u8 0, .int .u8 0, .int .u8 0, .int .u8 0, .int .u8 0, .int .u8 0, .int .u8 0, .int .u8 0, .int .u8 0] 260)) ((W.alloc (.cells #[.int .u8 0, .int .u8 0, .int .u8 0, .int .u8 0, .int .u8 0, .int .u8 0, .int .u8 0, .int .u8 0, .int .u8 0, .int .u8 0, .int .u8 0] 260)).alloc (.cells #[.int .u8 0, .int .u8 0, .int .u8 0, .int .u8 0, .int .u8 0, .int .u8 0, .int .u8 0, .int .u8 0, .int .u8 0, .int .u8 0, .int .u8 0] 260)) := (Below.refl _ _).alloc (Nat.le_refl _) _
        refine ⟨hb2, ?_⟩
        have hw2 := hw1.trans (hb2.mono hw1.size)
        have hlt12 : W.heap.size < (W.alloc (.cells #[.int .u8 0, .int .u8 0, .int .u8 0, .int .u8 0, .int .u8 0, .int .u8 0, .int .u8 0, .int .u8 0, .int .u8 0, .int .u8 0, .int .u8 0] 260)).heap.size := hlt hy1
        have hy2 := block_below hb2 hy1
        have hx2 := hnew (W.alloc (.cells #[.int .u8 0, .int .u8 0, .int .u8 0, .int .u8 0, .int .u8 0, .int .u8 0, .int .u8 0, .int .u8 0, .int .u8 0, .int .u8 0, .int .u8 0] 260)) (.cells #[.int .u8 0, .int .u8 0, .int .u8 0, .int .u8 0, .int .u8 0, .int .u8 0, .int .u8 0, .int .u8 0, .int .u8 0, .int .u8 0, .int .u8 0] 260)
        have lhx := hw1.size
        refine Calls.mono (code_c a _) ?_
        rintro _ V3 ⟨rfl, hb3⟩
        refine ⟨hb3, ?_⟩
        have hw3 := hw2.trans (hb3.mono hw2.size)
        have hy3 := block_below hb3 hy2
        have hx3 := block_below hb3 hx2
        refine Calls.mono (code_c b _) ?_
        rintro _ V4 ⟨rfl, hb4⟩
        refine ⟨hb4, ?_⟩
        have hw4 := hw3.trans (hb4.mono hw3.size)
        have hy4 := block_below hb4 hy3
        have hx4 := block_below hb4 hx3
        have hne : (W.alloc (.cells #[.int .u8 0, .int .u8 0, .int .u8 0, .int .u8 0, .int .u8 0, .int .u8 0, .int .u8 0, .int .u8 0, .int .u8 0, .int .u8 0, .int .u8 0] 260)).heap.size ≠ W.heap.size := (Nat.ne_of_lt hlt12).symm
        refine store_box (v := .agg ((codeOf a).map u8).toArray) (ttOk.get 260 _ rfl) hx4 (by rfl) rfl (by rfl) ?_
        refine store_box (v := .agg ((codeOf b).map u8).toArray) (ttOk.get 260 _ rfl) ((setRow_old (Ne.symm hne)).trans hy4) (by rfl) rfl (by rfl) ?_
        refine ⟨((W.alloc (.cells #[.int .u8 0, .int .u8 0, .int .u8 0, .int .u8 0, .int .u8 0, .int .u8 0, .int .u8 0, .int .u8 0, .int .u8 0, .int .u8 0, .int .u8 0] 260)).heap.size, W.heap.size), ⟨.cons rfl (.cons rfl .nil), rfl⟩, (setRow_old hne).trans (setRow_new hx4), setRow_new ((setRow_old (Ne.symm hne)).trans hy4), ?_⟩
        exact below_setRow (below_setRow hw4 lhx _) lhy _
end Go.Proofs.YthgmcegmgjoafaaGreatDoor
namespace Go.Proofs.YthgmcegmgjoafaaGreatDoor
open Go.Vc Go.RowKit Go.Sei

/-- What the comparison needs of a world: the mode in its box, the table of classes. -/
def Good (gm : Nat) (mode : UInt8) (X : World) : Prop := X.heap[gm]? = some (.cells #[u8 mode] 5 (0, 0)) ∧ Glob X ∧ 1 < X.heap.size

theorem queue_k (m : Msg) (mode : UInt8) (w : World) (hg : Glob w) : Calls Tryz.prog 99 #[m.val, u8 mode] w fun e w' => e = .returned (.agg ((qbs mode m).map u8).toArray) ∧ Below w.heap.size w w' :=
  (queue_c m mode w hg).mono fun _ _ h => h

theorem Cmp_c (gm : Nat) (mode : UInt8) (m n : Msg) (w : World) (hG : Good gm mode w) :
    Calls Tryz.prog 102 ([m.val, n.val] ++ (#[.pointer (some ⟨gm, 0, none⟩)] : Array Value).toList).toArray w fun e w' => ∃ v : Int, e = .returned (.int .i64 v) ∧ decide (v < 0) = (keyO (mkey mode)).lt m n ∧ Below w.heap.size w w' := by
  obtain ⟨hm, hg, _⟩ := hG
  refine calls_of_M (S := sg 25) (sgOk _) (args := [m.val, n.val, .pointer (some ⟨gm, 0, none⟩)]) (.c .p (.s (.s .p (.d (.c .p .p) .p)) .p)) Tryz.func102 rfl rfl (Nat.le_of_ble_eq_true rfl) rfl ?_
  refine ⟨Nat × Nat, fun s => ⟨[(2, .pointer (some ⟨gm, 0, none⟩)), (3, .pointer (some ⟨s.1, 0, none⟩)), (4, .pointer (some ⟨s.2, 0, none⟩)), (5, .int .i64 0)], []⟩,
    fun s V => V.heap[s.1]? = some (.cells m.val.cells 53 (0, 0)) ∧ V.heap[s.2]? = some (.cells n.val.cells 53 (0, 0)) ∧ Below w.heap.size w V, ?_, ?_⟩
  · exact ⟨(w.heap.size, (w.alloc (.cells m.val.cells 53)).heap.size), ⟨.cons rfl (.cons rfl (.cons rfl (.cons rfl .nil))), rfl⟩, hold (.cells n.val.cells 53) (hnew w (.cells m.val.cells 53)), hnew (w.alloc (.cells m.val.cells 53)) (.cells n.val.cells 53), ((Below.refl _ _).alloc (Nat.le_refl _) _).alloc (by simp) _⟩
  rintro ⟨q1, q2⟩ W ⟨f1, f2, hb1⟩
  have hm1 := block_below hb1 hm
  have hg1 := hg.below hb1
  refine ⟨_, cells_head (cells_block hm1), ?_⟩
  refine And.intro (fun h => ?_) (fun h => ?_)
  · have h : mode ≠ 1 := fun e => by subst e; simp at h
    refine ⟨Nat × Nat, fun s => ⟨[(6, .pointer (some ⟨s.1, 0, none⟩)), (7, .pointer (some ⟨s.2, 0, none⟩))], []⟩,
      fun s V => V.heap[s.1]? = some (.cells ((qbs mode m).map u8).toArray 194 (0, 0)) ∧ V.heap[s.2]? = some (.cells ((qbs mode n).map u8).toArray 194 (0, 0)) ∧ Below w.heap.size w V, ?_, ?_⟩
    rotate_left
    · rintro ⟨g, k⟩ V ⟨f1, f2, hb⟩
      have hb' := hb.drew
      have f1' := hdr f1
      have f2' := hdr f2
      refine DrawE.ord [] [0, 1, 2, 3] (by kernel_rfl) ?_
      refine Calls.mono (CompareL_c _ _ _ _ (qbs mode m) (qbs mode n) _ (bytes_row f1') (bytes_row f2') (Nat.le_of_ble_eq_true rfl)) ?_
      rintro _ _ ⟨rfl, rfl⟩
      refine ⟨Below.refl _ _, ?_⟩
      exact ⟨_, rfl, by simp only [keyO, mkey, if_neg h], hb'⟩
    refine DrawE.treeQ [8, 9] (.op 0 (.op 1 (.op 3 (.op 4 (.alt (.op 2 (.alt (.op 5 (.alt (.op 6 (.op 7 (.op 8 (.op 9 (.nil))))) (.op 7 (.op 6 (.op 8 (.op 9 (.nil))))))) (.alt (.op 6 (.alt (.op 5 (.op 7 (.op 8 (.op 9 (.nil))))) (.op 7 (.op 5 (.op 8 (.op 9 (.nil))))))) (.op 7 (.alt (.op 5 (.op 6 (.op 8 (.op 9 (.nil))))) (.op 6 (.op 5 (.op 8 (.op 9 (.nil)))))))))) (.alt (.op 6 (.alt (.op 2 (.alt (.op 5 (.op 7 (.op 8 (.op 9 (.nil))))) (.op 7 (.op 5 (.op 8 (.op 9 (.nil))))))) (.op 7 (.op 2 (.op 5 (.op 8 (.op 9 (.nil)))))))) (.op 7 (.alt (.op 2 (.alt (.op 5 (.op 6 (.op 8 (.op 9 (.nil))))) (.op 6 (.op 5 (.op 8 (.op 9 (.nil))))))) (.op 6 (.op 2 (.op 5 (.op 8 (.op 9 (.nil)))))))))))))) (by kernel_rfl) ?_
    have hG0 := hdr hm1
    have hw0 := hb1.drew
    have hg0 : Glob W.drew := hg1
    have f1 := hdr f1
    have f2 := hdr f2
    have hqq1 := hlt f1
    have hqq2 := hlt f2
    refine ⟨m.enc, rfl, cells_block f1, hqq1, ?_⟩
    refine ⟨_, cells_head (cells_block hG0), ?_⟩
    refine ⟨n.enc, rfl, cells_block f2, hqq2, ?_⟩
    refine ⟨_, cells_head (cells_block hG0), ?_⟩
    have hqm := hqq1
    have hqn := hqq2
    refine And.intro ?_ ?_
    · refine Calls.mono (queue_k m mode _ hg0) ?_
      rintro _ V1 ⟨rfl, hb1⟩
      refine ⟨hb1, ?_⟩
      have hw1 := hw0.trans (hb1.mono hw0.size)
      have hg1 := hg0.below hb1
      refine And.intro ?_ ?_
      · refine Calls.mono (queue_k n mode _ hg1) ?_
        rintro _ V2 ⟨rfl, hb2⟩
        refine ⟨hb2, ?_⟩
        have hw2 := hw1.trans (hb2.mono hw1.size)
        have hg2 := hg1.below hb2
        refine And.intro ?_ ?_
        · have hb3 : Below V2.heap.size V2 (V2.alloc (.cells #[.int .u8 0, .int .u8 0, .int .u8 0] 194)) := (Below.refl _ _).alloc (Nat.le_refl _) _
          refine ⟨hb3, ?_⟩
          have hw3 := hw2.trans (hb3.mono hw2.size)
          have hg3 := hg2.below hb3
          have hx3 := hnew V2 (.cells #[.int .u8 0, .int .u8 0, .int .u8 0] 194)
          have lhx := hw2.size
          have hb4 : Below (V2.alloc (.cells #[.int .u8 0, .int .u8 0, .int .u8 0] 194)).heap.size (V2.alloc (.cells #[.int .u8 0, .int .u8 0, .int .u8 0] 194)) ((V2.alloc (.cells #[.int .u8 0, .int .u8 0, .int .u8 0] 194)).alloc (.cells #[.int .u8 0, .int .u8 0, .int .u8 0] 194)) := (Below.refl _ _).alloc (Nat.le_refl _) _
          refine ⟨hb4, ?_⟩
          have hw4 := hw3.trans (hb4.mono hw3.size)
          have hg4 := hg3.below hb4
          have hlt12 : V2.heap.size < (V2.alloc (.cells #[.int .u8 0, .int .u8 0, .int .u8 0] 194)).heap.size := hlt hx3
          have hx4 := block_below hb4 hx3
          have hy4 := hnew (V2.alloc (.cells #[.int .u8 0, .int .u8 0, .int .u8 0] 194)) (.cells #[.int .u8 0, .int .u8 0, .int .u8 0] 194)
          have lhy := hw3.size
          have hne : V2.heap.size ≠ (V2.alloc (.cells #[.int .u8 0, .int .u8 0, .int .u8 0] 194)).heap.size := Nat.ne_of_lt hlt12
          refine store_box (v := .agg ((qbs mode m).map u8).toArray) (ttOk.get 194 _ rfl) hx4 (by rfl) rfl (by rfl) ?_
          refine store_box (v := .agg ((qbs mode n).map u8).toArray) (ttOk.get 194 _ rfl) ((setRow_old (Ne.symm hne)).trans hy4) (by rfl) rfl (by rfl) ?_
          refine ⟨(V2.heap.size, (V2.alloc (.cells #[.int .u8 0, .int .u8 0, .int .u8 0] 194)).heap.size), ⟨.cons rfl (.cons rfl .nil), rfl⟩, (setRow_old hne).trans (setRow_new hx4), setRow_new ((setRow_old (Ne.symm hne)).trans hy4), ?_⟩
          exact below_setRow (below_setRow hw4 lhx _) lhy _
        · have hb3 : Below V2.heap.size V2 (V2.alloc (.cells #[.int .u8 0, .int .u8 0, .int .u8 0] 194)) := (Below.refl _ _).alloc (Nat.le_refl _) _
          refine ⟨hb3, ?_⟩
          have hw3 := hw2.trans (hb3.mono hw2.size)
          have hg3 := hg2.below hb3
          have hy3 := hnew V2 (.cells #[.int .u8 0, .int .u8 0, .int .u8 0] 194)
          have lhy := hw2.size
          have hb4 : Below (V2.alloc (.cells #[.int .u8 0, .int .u8 0, .int .u8 0] 194)).heap.size (V2.alloc (.cells #[.int .u8 0, .int .u8 0, .int .u8 0] 194)) ((V2.alloc (.cells #[.int .u8 0, .int .u8 0, .int .u8 0] 194)).alloc (.cells #[.int .u8 0, .int .u8 0, .int .u8 0] 194)) := (Below.refl _ _).alloc (Nat.le_refl _) _
          refine ⟨hb4, ?_⟩
          have hw4 := hw3.trans (hb4.mono hw3.size)
          have hg4 := hg3.below hb4
          have hlt12 : V2.heap.size < (V2.alloc (.cells #[.int .u8 0, .int .u8 0, .int .u8 0] 194)).heap.size := hlt hy3
          have hy4 := block_below hb4 hy3
          have hx4 := hnew (V2.alloc (.cells #[.int .u8 0, .int .u8 0, .int .u8 0] 194)) (.cells #[.int .u8 0, .int .u8 0, .int .u8 0] 194)
          have lhx := hw3.size
          have hne : (V2.alloc (.cells #[.int .u8 0, .int .u8 0, .int .u8 0] 194)).heap.size ≠ V2.heap.size := (Nat.ne_of_lt hlt12).symm
          refine store_box (v := .agg ((qbs mode m).map u8).toArray) (ttOk.get 194 _ rfl) hx4 (by rfl) rfl (by rfl) ?_
          refine store_box (v := .agg ((qbs mode n).map u8).toArray) (ttOk.get 194 _ rfl) ((setRow_old (Ne.symm hne)).trans hy4) (by rfl) rfl (by rfl) ?_
          refine ⟨((V2.alloc (.cells #[.int .u8 0, .int .u8 0, .int .u8 0] 194)).heap.size, V2.heap.size), ⟨.cons rfl (.cons rfl .nil), rfl⟩, (setRow_old hne).trans (setRow_new hx4), setRow_new ((setRow_old (Ne.symm hne)).trans hy4), ?_⟩
          exact below_setRow (below_setRow hw4 lhx _) lhy _
      · refine And.intro ?_ ?_
        · have hb2 : Below V1.heap.size V1 (V1.alloc (.cells #[.int .u8 0, .int .u8 0, .int .u8 0] 194)) := (Below.refl _ _).alloc (Nat.le_refl _) _
          refine ⟨hb2, ?_⟩
          have hw2 := hw1.trans (hb2.mono hw1.size)
          have hg2 := hg1.below hb2
          have hx2 := hnew V1 (.cells #[.int .u8 0, .int .u8 0, .int .u8 0] 194)
          have lhx := hw1.size
          refine And.intro ?_ ?_
          · refine Calls.mono (queue_k n mode _ hg2) ?_
            rintro _ V3 ⟨rfl, hb3⟩
            refine ⟨hb3, ?_⟩
            have hw3 := hw2.trans (hb3.mono hw2.size)
            have hg3 := hg2.below hb3
            have hx3 := block_below hb3 hx2
            have hb4 : Below V3.heap.size V3 (V3.alloc (.cells #[.int .u8 0, .int .u8 0, .int .u8 0] 194)) := (Below.refl _ _).alloc (Nat.le_refl _) _
            refine ⟨hb4, ?_⟩
            have hw4 := hw3.trans (hb4.mono hw3.size)
            have hg4 := hg3.below hb4
            have hlt12 : V1.heap.size < V3.heap.size := hlt hx3
            have hx4 := block_below hb4 hx3
            have hy4 := hnew V3 (.cells #[.int .u8 0, .int .u8 0, .int .u8 0] 194)
            have lhy := hw3.size
            have hne : V1.heap.size ≠ V3.heap.size := Nat.ne_of_lt hlt12
            refine store_box (v := .agg ((qbs mode m).map u8).toArray) (ttOk.get 194 _ rfl) hx4 (by rfl) rfl (by rfl) ?_
            refine store_box (v := .agg ((qbs mode n).map u8).toArray) (ttOk.get 194 _ rfl) ((setRow_old (Ne.symm hne)).trans hy4) (by rfl) rfl (by rfl) ?_
            refine ⟨(V1.heap.size, V3.heap.size), ⟨.cons rfl (.cons rfl .nil), rfl⟩, (setRow_old hne).trans (setRow_new hx4), setRow_new ((setRow_old (Ne.symm hne)).trans hy4), ?_⟩
            exact below_setRow (below_setRow hw4 lhx _) lhy _
          · have hb3 : Below (V1.alloc (.cells #[.int .u8 0, .int .u8 0, .int .u8 0] 194)).heap.size (V1.alloc (.cells #[.int .u8 0, .int .u8 0, .int .u8 0] 194)) ((V1.alloc (.cells #[.int .u8 0, .int .u8 0, .int .u8 0] 194)).alloc (.cells #[.int .u8 0, .int .u8 0, .int .u8 0] 194)) := (Below.refl _ _).alloc (Nat.le_refl _) _
            refine ⟨hb3, ?_⟩
            have hw3 := hw2.trans (hb3.mono hw2.size)
            have hg3 := hg2.below hb3
            have hlt12 : V1.heap.size < (V1.alloc (.cells #[.int .u8 0, .int .u8 0, .int .u8 0] 194)).heap.size := hlt hx2
            have hx3 := block_below hb3 hx2
            have hy3 := hnew (V1.alloc (.cells #[.int .u8 0, .int .u8 0, .int .u8 0] 194)) (.cells #[.int .u8 0, .int .u8 0, .int .u8 0] 194)
            have lhy := hw2.size
            refine Calls.mono (queue_k n mode _ hg3) ?_
            rintro _ V4 ⟨rfl, hb4⟩
            refine ⟨hb4, ?_⟩
            have hw4 := hw3.trans (hb4.mono hw3.size)
            have hg4 := hg3.below hb4
            have hx4 := block_below hb4 hx3
            have hy4 := block_below hb4 hy3
            have hne : V1.heap.size ≠ (V1.alloc (.cells #[.int .u8 0, .int .u8 0, .int .u8 0] 194)).heap.size := Nat.ne_of_lt hlt12
            refine store_box (v := .agg ((qbs mode m).map u8).toArray) (ttOk.get 194 _ rfl) hx4 (by rfl) rfl (by rfl) ?_
            refine store_box (v := .agg ((qbs mode n).map u8).toArray) (ttOk.get 194 _ rfl) ((setRow_old (Ne.symm hne)).trans hy4) (by rfl) rfl (by rfl) ?_
            refine ⟨(V1.heap.size, (V1.alloc (.cells #[.int .u8 0, .int .u8 0, .int .u8 0] 194)).heap.size), ⟨.cons rfl (.cons rfl .nil), rfl⟩, (setRow_old hne).trans (setRow_new hx4), setRow_new ((setRow_old (Ne.symm hne)).trans hy4), ?_⟩
            exact below_setRow (below_setRow hw4 lhx _) lhy _
        · have hb2 : Below V1.heap.size V1 (V1.alloc (.cells #[.int .u8 0, .int .u8 0, .int .u8 0] 194)) := (Below.refl _ _).alloc (Nat.le_refl _) _
          refine ⟨hb2, ?_⟩
          have hw2 := hw1.trans (hb2.mono hw1.size)
          have hg2 := hg1.below hb2
          have hy2 := hnew V1 (.cells #[.int .u8 0, .int .u8 0, .int .u8 0] 194)
          have lhy := hw1.size
          refine And.intro ?_ ?_
          · refine Calls.mono (queue_k n mode _ hg2) ?_
            rintro _ V3 ⟨rfl, hb3⟩
            refine ⟨hb3, ?_⟩
            have hw3 := hw2.trans (hb3.mono hw2.size)
            have hg3 := hg2.below hb3
            have hy3 := block_below hb3 hy2
            have hb4 : Below V3.heap.size V3 (V3.alloc (.cells #[.int .u8 0, .int .u8 0, .int .u8 0] 194)) := (Below.refl _ _).alloc (Nat.le_refl _) _
            refine ⟨hb4, ?_⟩
            have hw4 := hw3.trans (hb4.mono hw3.size)
            have hg4 := hg3.below hb4
            have hlt12 : V1.heap.size < V3.heap.size := hlt hy3
            have hy4 := block_below hb4 hy3
            have hx4 := hnew V3 (.cells #[.int .u8 0, .int .u8 0, .int .u8 0] 194)
            have lhx := hw3.size
            have hne : V3.heap.size ≠ V1.heap.size := (Nat.ne_of_lt hlt12).symm
            refine store_box (v := .agg ((qbs mode m).map u8).toArray) (ttOk.get 194 _ rfl) hx4 (by rfl) rfl (by rfl) ?_
            refine store_box (v := .agg ((qbs mode n).map u8).toArray) (ttOk.get 194 _ rfl) ((setRow_old (Ne.symm hne)).trans hy4) (by rfl) rfl (by rfl) ?_
            refine ⟨(V3.heap.size, V1.heap.size), ⟨.cons rfl (.cons rfl .nil), rfl⟩, (setRow_old hne).trans (setRow_new hx4), setRow_new ((setRow_old (Ne.symm hne)).trans hy4), ?_⟩
            exact below_setRow (below_setRow hw4 lhx _) lhy _
          · have hb3 : Below (V1.alloc (.cells #[.int .u8 0, .int .u8 0, .int .u8 0] 194)).heap.size (V1.alloc (.cells #[.int .u8 0, .int .u8 0, .int .u8 0] 194)) ((V1.alloc (.cells #[.int .u8 0, .int .u8 0, .int .u8 0] 194)).alloc (.cells #[.int .u8 0, .int .u8 0, .int .u8 0] 194)) := (Below.refl _ _).alloc (Nat.le_refl _) _
            refine ⟨hb3, ?_⟩
            have hw3 := hw2.trans (hb3.mono hw2.size)
            have hg3 := hg2.below hb3
            have hlt12 : V1.heap.size < (V1.alloc (.cells #[.int .u8 0, .int .u8 0, .int .u8 0] 194)).heap.size := hlt hy2
            have hy3 := block_below hb3 hy2
            have hx3 := hnew (V1.alloc (.cells #[.int .u8 0, .int .u8 0, .int .u8 0] 194)) (.cells #[.int .u8 0, .int .u8 0, .int .u8 0] 194)
            have lhx := hw2.size
            refine Calls.mono (queue_k n mode _ hg3) ?_
            rintro _ V4 ⟨rfl, hb4⟩
            refine ⟨hb4, ?_⟩
            have hw4 := hw3.trans (hb4.mono hw3.size)
            have hg4 := hg3.below hb4
            have hy4 := block_below hb4 hy3
            have hx4 := block_below hb4 hx3
            have hne : (V1.alloc (.cells #[.int .u8 0, .int .u8 0, .int .u8 0] 194)).heap.size ≠ V1.heap.size := (Nat.ne_of_lt hlt12).symm
            refine store_box (v := .agg ((qbs mode m).map u8).toArray) (ttOk.get 194 _ rfl) hx4 (by rfl) rfl (by rfl) ?_
            refine store_box (v := .agg ((qbs mode n).map u8).toArray) (ttOk.get 194 _ rfl) ((setRow_old (Ne.symm hne)).trans hy4) (by rfl) rfl (by rfl) ?_
            refine ⟨((V1.alloc (.cells #[.int .u8 0, .int .u8 0, .int .u8 0] 194)).heap.size, V1.heap.size), ⟨.cons rfl (.cons rfl .nil), rfl⟩, (setRow_old hne).trans (setRow_new hx4), setRow_new ((setRow_old (Ne.symm hne)).trans hy4), ?_⟩
            exact below_setRow (below_setRow hw4 lhx _) lhy _
    · refine And.intro ?_ ?_
      · have hb1 : Below W.drew.heap.size W.drew (W.drew.alloc (.cells #[.int .u8 0, .int .u8 0, .int .u8 0] 194)) := (Below.refl _ _).alloc (Nat.le_refl _) _
        refine ⟨hb1, ?_⟩
        have hw1 := hw0.trans (hb1.mono hw0.size)
        have hg1 := hg0.below hb1
        have hx1 := hnew W.drew (.cells #[.int .u8 0, .int .u8 0, .int .u8 0] 194)
        have lhx := hw0.size
        refine And.intro ?_ ?_
        · refine Calls.mono (queue_k m mode _ hg1) ?_
          rintro _ V2 ⟨rfl, hb2⟩
          refine ⟨hb2, ?_⟩
          have hw2 := hw1.trans (hb2.mono hw1.size)
          have hg2 := hg1.below hb2
          have hx2 := block_below hb2 hx1
          refine And.intro ?_ ?_
          · refine Calls.mono (queue_k n mode _ hg2) ?_
            rintro _ V3 ⟨rfl, hb3⟩
            refine ⟨hb3, ?_⟩
            have hw3 := hw2.trans (hb3.mono hw2.size)
            have hg3 := hg2.below hb3
            have hx3 := block_below hb3 hx2
            have hb4 : Below V3.heap.size V3 (V3.alloc (.cells #[.int .u8 0, .int .u8 0, .int .u8 0] 194)) := (Below.refl _ _).alloc (Nat.le_refl _) _
            refine ⟨hb4, ?_⟩
            have hw4 := hw3.trans (hb4.mono hw3.size)
            have hg4 := hg3.below hb4
            have hlt12 : W.drew.heap.size < V3.heap.size := hlt hx3
            have hx4 := block_below hb4 hx3
            have hy4 := hnew V3 (.cells #[.int .u8 0, .int .u8 0, .int .u8 0] 194)
            have lhy := hw3.size
            have hne : W.drew.heap.size ≠ V3.heap.size := Nat.ne_of_lt hlt12
            refine store_box (v := .agg ((qbs mode m).map u8).toArray) (ttOk.get 194 _ rfl) hx4 (by rfl) rfl (by rfl) ?_
            refine store_box (v := .agg ((qbs mode n).map u8).toArray) (ttOk.get 194 _ rfl) ((setRow_old (Ne.symm hne)).trans hy4) (by rfl) rfl (by rfl) ?_
            refine ⟨(W.drew.heap.size, V3.heap.size), ⟨.cons rfl (.cons rfl .nil), rfl⟩, (setRow_old hne).trans (setRow_new hx4), setRow_new ((setRow_old (Ne.symm hne)).trans hy4), ?_⟩
            exact below_setRow (below_setRow hw4 lhx _) lhy _
          · have hb3 : Below V2.heap.size V2 (V2.alloc (.cells #[.int .u8 0, .int .u8 0, .int .u8 0] 194)) := (Below.refl _ _).alloc (Nat.le_refl _) _
            refine ⟨hb3, ?_⟩
            have hw3 := hw2.trans (hb3.mono hw2.size)
            have hg3 := hg2.below hb3
            have hlt12 : W.drew.heap.size < V2.heap.size := hlt hx2
            have hx3 := block_below hb3 hx2
            have hy3 := hnew V2 (.cells #[.int .u8 0, .int .u8 0, .int .u8 0] 194)
            have lhy := hw2.size
            refine Calls.mono (queue_k n mode _ hg3) ?_
            rintro _ V4 ⟨rfl, hb4⟩
            refine ⟨hb4, ?_⟩
            have hw4 := hw3.trans (hb4.mono hw3.size)
            have hg4 := hg3.below hb4
            have hx4 := block_below hb4 hx3
            have hy4 := block_below hb4 hy3
            have hne : W.drew.heap.size ≠ V2.heap.size := Nat.ne_of_lt hlt12
            refine store_box (v := .agg ((qbs mode m).map u8).toArray) (ttOk.get 194 _ rfl) hx4 (by rfl) rfl (by rfl) ?_
            refine store_box (v := .agg ((qbs mode n).map u8).toArray) (ttOk.get 194 _ rfl) ((setRow_old (Ne.symm hne)).trans hy4) (by rfl) rfl (by rfl) ?_
            refine ⟨(W.drew.heap.size, V2.heap.size), ⟨.cons rfl (.cons rfl .nil), rfl⟩, (setRow_old hne).trans (setRow_new hx4), setRow_new ((setRow_old (Ne.symm hne)).trans hy4), ?_⟩
            exact below_setRow (below_setRow hw4 lhx _) lhy _
        · have hb2 : Below (W.drew.alloc (.cells #[.int .u8 0, .int .u8 0, .int .u8 0] 194)).heap.size (W.drew.alloc (.cells #[.int .u8 0, .int .u8 0, .int .u8 0] 194)) ((W.drew.alloc (.cells #[.int .u8 0, .int .u8 0, .int .u8 0] 194)).alloc (.cells #[.int .u8 0, .int .u8 0, .int .u8 0] 194)) := (Below.refl _ _).alloc (Nat.le_refl _) _
          refine ⟨hb2, ?_⟩
          have hw2 := hw1.trans (hb2.mono hw1.size)
          have hg2 := hg1.below hb2
          have hlt12 : W.drew.heap.size < (W.drew.alloc (.cells #[.int .u8 0, .int .u8 0, .int .u8 0] 194)).heap.size := hlt hx1
          have hx2 := block_below hb2 hx1
          have hy2 := hnew (W.drew.alloc (.cells #[.int .u8 0, .int .u8 0, .int .u8 0] 194)) (.cells #[.int .u8 0, .int .u8 0, .int .u8 0] 194)
          have lhy := hw1.size
          refine Calls.mono (queue_k m mode _ hg2) ?_
          rintro _ V3 ⟨rfl, hb3⟩
          refine ⟨hb3, ?_⟩
          have hw3 := hw2.trans (hb3.mono hw2.size)
          have hg3 := hg2.below hb3
          have hx3 := block_below hb3 hx2
          have hy3 := block_below hb3 hy2
          refine Calls.mono (queue_k n mode _ hg3) ?_
          rintro _ V4 ⟨rfl, hb4⟩
          refine ⟨hb4, ?_⟩
          have hw4 := hw3.trans (hb4.mono hw3.size)
          have hg4 := hg3.below hb4
          have hx4 := block_below hb4 hx3
          have hy4 := block_below hb4 hy3
          have hne : W.drew.heap.size ≠ (W.drew.alloc (.cells #[.int .u8 0, .int .u8 0, .int .u8 0] 194)).heap.size := Nat.ne_of_lt hlt12
          refine store_box (v := .agg ((qbs mode m).map u8).toArray) (ttOk.get 194 _ rfl) hx4 (by rfl) rfl (by rfl) ?_
          refine store_box (v := .agg ((qbs mode n).map u8).toArray) (ttOk.get 194 _ rfl) ((setRow_old (Ne.symm hne)).trans hy4) (by rfl) rfl (by rfl) ?_
          refine ⟨(W.drew.heap.size, (W.drew.alloc (.cells #[.int .u8 0, .int .u8 0, .int .u8 0] 194)).heap.size), ⟨.cons rfl (.cons rfl .nil), rfl⟩, (setRow_old hne).trans (setRow_new hx4), setRow_new ((setRow_old (Ne.symm hne)).trans hy4), ?_⟩
          exact below_setRow (below_setRow hw4 lhx _) lhy _
      · have hb1 : Below W.drew.heap.size W.drew (W.drew.alloc (.cells #[.int .u8 0, .int .u8 0, .int .u8 0] 194)) := (Below.refl _ _).alloc (Nat.le_refl _) _
        refine ⟨hb1, ?_⟩
        have hw1 := hw0.trans (hb1.mono hw0.size)
        have hg1 := hg0.below hb1
        have hy1 := hnew W.drew (.cells #[.int .u8 0, .int .u8 0, .int .u8 0] 194)
        have lhy := hw0.size
        refine And.intro ?_ ?_
        · refine Calls.mono (queue_k m mode _ hg1) ?_
          rintro _ V2 ⟨rfl, hb2⟩
          refine ⟨hb2, ?_⟩
          have hw2 := hw1.trans (hb2.mono hw1.size)
          have hg2 := hg1.below hb2
          have hy2 := block_below hb2 hy1
          refine And.intro ?_ ?_
          · refine Calls.mono (queue_k n mode _ hg2) ?_
            rintro _ V3 ⟨rfl, hb3⟩
            refine ⟨hb3, ?_⟩
            have hw3 := hw2.trans (hb3.mono hw2.size)
            have hg3 := hg2.below hb3
            have hy3 := block_below hb3 hy2
            have hb4 : Below V3.heap.size V3 (V3.alloc (.cells #[.int .u8 0, .int .u8 0, .int .u8 0] 194)) := (Below.refl _ _).alloc (Nat.le_refl _) _
            refine ⟨hb4, ?_⟩
            have hw4 := hw3.trans (hb4.mono hw3.size)
            have hg4 := hg3.below hb4
            have hlt12 : W.drew.heap.size < V3.heap.size := hlt hy3
            have hy4 := block_below hb4 hy3
            have hx4 := hnew V3 (.cells #[.int .u8 0, .int .u8 0, .int .u8 0] 194)
            have lhx := hw3.size
            have hne : V3.heap.size ≠ W.drew.heap.size := (Nat.ne_of_lt hlt12).symm
            refine store_box (v := .agg ((qbs mode m).map u8).toArray) (ttOk.get 194 _ rfl) hx4 (by rfl) rfl (by rfl) ?_
            refine store_box (v := .agg ((qbs mode n).map u8).toArray) (ttOk.get 194 _ rfl) ((setRow_old (Ne.symm hne)).trans hy4) (by rfl) rfl (by rfl) ?_
            refine ⟨(V3.heap.size, W.drew.heap.size), ⟨.cons rfl (.cons rfl .nil), rfl⟩, (setRow_old hne).trans (setRow_new hx4), setRow_new ((setRow_old (Ne.symm hne)).trans hy4), ?_⟩
            exact below_setRow (below_setRow hw4 lhx _) lhy _
          · have hb3 : Below V2.heap.size V2 (V2.alloc (.cells #[.int .u8 0, .int .u8 0, .int .u8 0] 194)) := (Below.refl _ _).alloc (Nat.le_refl _) _
            refine ⟨hb3, ?_⟩
            have hw3 := hw2.trans (hb3.mono hw2.size)
            have hg3 := hg2.below hb3
            have hlt12 : W.drew.heap.size < V2.heap.size := hlt hy2
            have hy3 := block_below hb3 hy2
            have hx3 := hnew V2 (.cells #[.int .u8 0, .int .u8 0, .int .u8 0] 194)
            have lhx := hw2.size
            refine Calls.mono (queue_k n mode _ hg3) ?_
            rintro _ V4 ⟨rfl, hb4⟩
            refine ⟨hb4, ?_⟩
            have hw4 := hw3.trans (hb4.mono hw3.size)
            have hg4 := hg3.below hb4
            have hy4 := block_below hb4 hy3
            have hx4 := block_below hb4 hx3
            have hne : V2.heap.size ≠ W.drew.heap.size := (Nat.ne_of_lt hlt12).symm
            refine store_box (v := .agg ((qbs mode m).map u8).toArray) (ttOk.get 194 _ rfl) hx4 (by rfl) rfl (by rfl) ?_
            refine store_box (v := .agg ((qbs mode n).map u8).toArray) (ttOk.get 194 _ rfl) ((setRow_old (Ne.symm hne)).trans hy4) (by rfl) rfl (by rfl) ?_
            refine ⟨(V2.heap.size, W.drew.heap.size), ⟨.cons rfl (.cons rfl .nil), rfl⟩, (setRow_old hne).trans (setRow_new hx4), setRow_new ((setRow_old (Ne.symm hne)).trans hy4), ?_⟩
            exact below_setRow (below_setRow hw4 lhx _) lhy _
        · have hb2 : Below (W.drew.alloc (.cells #[.int .u8 0, .int .u8 0, .int .u8 0] 194)).heap.size (W.drew.alloc (.cells #[.int .u8 0, .int .u8 0, .int .u8 0] 194)) ((W.drew.alloc (.cells #[.int .u8 0, .int .u8 0, .int .u8 0] 194)).alloc (.cells #[.int .u8 0, .int .u8 0, .int .u8 0] 194)) := (Below.refl _ _).alloc (Nat.le_refl _) _
          refine ⟨hb2, ?_⟩
          have hw2 := hw1.trans (hb2.mono hw1.size)
          have hg2 := hg1.below hb2
          have hlt12 : W.drew.heap.size < (W.drew.alloc (.cells #[.int .u8 0, .int .u8 0, .int .u8 0] 194)).heap.size := hlt hy1
          have hy2 := block_below hb2 hy1
          have hx2 := hnew (W.drew.alloc (.cells #[.int .u8 0, .int .u8 0, .int .u8 0] 194)) (.cells #[.int .u8 0, .int .u8 0, .int .u8 0] 194)
          have lhx := hw1.size
          refine Calls.mono (queue_k m mode _ hg2) ?_
          rintro _ V3 ⟨rfl, hb3⟩
          refine ⟨hb3, ?_⟩
          have hw3 := hw2.trans (hb3.mono hw2.size)
          have hg3 := hg2.below hb3
          have hy3 := block_below hb3 hy2
          have hx3 := block_below hb3 hx2
          refine Calls.mono (queue_k n mode _ hg3) ?_
          rintro _ V4 ⟨rfl, hb4⟩
          refine ⟨hb4, ?_⟩
          have hw4 := hw3.trans (hb4.mono hw3.size)
          have hg4 := hg3.below hb4
          have hy4 := block_below hb4 hy3
          have hx4 := block_below hb4 hx3
          have hne : (W.drew.alloc (.cells #[.int .u8 0, .int .u8 0, .int .u8 0] 194)).heap.size ≠ W.drew.heap.size := (Nat.ne_of_lt hlt12).symm
          refine store_box (v := .agg ((qbs mode m).map u8).toArray) (ttOk.get 194 _ rfl) hx4 (by rfl) rfl (by rfl) ?_
          refine store_box (v := .agg ((qbs mode n).map u8).toArray) (ttOk.get 194 _ rfl) ((setRow_old (Ne.symm hne)).trans hy4) (by rfl) rfl (by rfl) ?_
          refine ⟨((W.drew.alloc (.cells #[.int .u8 0, .int .u8 0, .int .u8 0] 194)).heap.size, W.drew.heap.size), ⟨.cons rfl (.cons rfl .nil), rfl⟩, (setRow_old hne).trans (setRow_new hx4), setRow_new ((setRow_old (Ne.symm hne)).trans hy4), ?_⟩
          exact below_setRow (below_setRow hw4 lhx _) lhy _
  · have h : mode = 1 := by
      have h : ((mode.toNat : Int) = 1) := by simpa using h
      exact u8_eq.1 h
    subst h
    refine ⟨m.enc, rfl, cells_block f1, hlt f1, ?_⟩
    refine ⟨n.enc, rfl, cells_block f2, hlt f2, ?_⟩
    refine Calls.mono (Less_c m n W) ?_
    rintro _ V ⟨rfl, hbV⟩
    have hbV2 := hb1.trans (hbV.mono hb1.size)
    have f1V := block_below hbV f1
    have f2V := block_below hbV f2
    refine And.intro (fun h => ?_) (fun h => ?_)
    · exact ⟨-1, rfl, by simpa [keyO, mkey] using h, hbV2⟩
    · refine ⟨n.enc, rfl, cells_block f2V, hlt f2V, ?_⟩
      refine ⟨m.enc, rfl, cells_block f1V, hlt f1V, ?_⟩
      refine Calls.mono (Less_c n m V) ?_
      rintro _ V2 ⟨rfl, hbV3⟩
      have hbV4 := hbV2.trans (hbV3.mono hbV2.size)
      refine And.intro (fun h2 => ?_) (fun h2 => ?_)
      · exact ⟨1, rfl, by simpa [keyO, mkey] using h, hbV4⟩
      · exact ⟨0, rfl, by simpa [keyO, mkey] using h, hbV4⟩

theorem cell_same {A B : World} {g : Nat} (h : B.heap[g]? = A.heap[g]?) (o : Nat) : B.cell? ⟨g, o, none⟩ = A.cell? ⟨g, o, none⟩ := by
  simp only [World.cell?, h]

theorem cmpOk (gm : Nat) (mode : UInt8) (g : Nat) (h0 : 1 ≠ g) (hm : gm ≠ g) : CmpOk #[.pointer (some ⟨gm, 0, none⟩)] (keyO (mkey mode)) g (Good gm mode) where
  run X hX m n := Cmp_c gm mode m n X hX
  keep A B h k := by
    obtain ⟨h1, h2, h3⟩ := h
    refine ⟨(k.block gm (hlt h1) (by simpa using hm)).trans h1, ?_, Nat.lt_of_lt_of_le h3 k.size⟩
    refine cells_mk fun i v hv => ?_
    have := cells_at h2 hv
    rw [← this]
    exact cell_same (k.block 1 h3 (by simpa using h0)) _
end Go.Proofs.YthgmcegmgjoafaaGreatDoor
namespace Go.Proofs.YthgmcegmgjoafaaGreatDoor
open Go.Vc Go.RowKit Go.Sei

theorem own_weaken {B B' cap : Nat} {w : World} {p : Option Addr} {l : List Msg} (h : OwnS Msg.E 53 B w p cap l) (hB : B' ≤ B) : OwnS Msg.E 53 B' w p cap l := by
  obtain ⟨h1, h2⟩ := h
  refine ⟨h1, h2.imp id ?_⟩
  rintro ⟨g, c, cur, e1, e2, rest⟩
  exact ⟨g, c, cur, e1, by omega, rest⟩
end Go.Proofs.YthgmcegmgjoafaaGreatDoor
namespace Go.Proofs.YthgmcegmgjoafaaGreatDoor
open Go.Vc Go.RowKit Go.Sei

theorem insertion0_c (p : Option Addr) (cap : Nat) (f : Value) (w : World) : Calls Tryz.prog 200 #[.slice p 0 cap, .int .i64 0, .int .i64 0, f] w fun e w' => (∃ v, e = .returned v) ∧ w = w' := by
  refine calls_of_E (S := sg 53) (sgOk _) (args := [.slice p 0 cap, .int .i64 0, .int .i64 0, f]) Tryz.func200 rfl rfl (Nat.le_of_ble_eq_true rfl) rfl ?_
  refine ⟨1, (wrap_i64 (by omega)).trans (by omega), ?_⟩
  refine ⟨Unit, fun _ => ⟨[(0, .slice p 0 cap), (1, .int .i64 0), (2, .int .i64 0), (3, f), (8, .int .i64 1)], []⟩, fun _ V => w = V, fun _ => 0, (), ⟨.cons rfl (.cons rfl (.cons rfl (.cons rfl (.cons rfl .nil)))), rfl⟩, rfl, ?_⟩
  rintro _ _ rfl
  refine And.intro (fun h => absurd (of_decide_eq_true h) (by omega)) (fun _ => ?_)
  exact And.intro ⟨_, rfl⟩ rfl
theorem stable0_c (p : Option Addr) (cap : Nat) (f : Value) (w : World) : Calls Tryz.prog 164 #[.slice p 0 cap, .int .i64 0, f] w fun e w' => (∃ v, e = .returned v) ∧ w = w' := by
  refine calls_of_E (S := sg 63) (sgOk _) (args := [.slice p 0 cap, .int .i64 0, f]) Tryz.func164 rfl rfl (Nat.le_of_ble_eq_true rfl) rfl ?_
  refine ⟨Unit, fun _ => ⟨[(0, .slice p 0 cap), (1, .int .i64 0), (2, f), (6, .int .i64 20), (7, .int .i64 0), (8, .int .i64 20)], []⟩, fun _ V => w = V, fun _ => 0, (), ⟨.cons rfl (.cons rfl (.cons rfl (.cons rfl (.cons rfl (.cons rfl .nil))))), rfl⟩, rfl, ?_⟩
  rintro _ _ rfl
  refine And.intro (fun h => absurd (of_decide_eq_true h) (by omega)) (fun _ => ?_)
  refine Calls.mono (insertion0_c p cap f w) ?_
  rintro e _ ⟨⟨v, rfl⟩, rfl⟩
  refine ⟨Unit, fun _ => ⟨[(0, .slice p 0 cap), (1, .int .i64 0), (2, f), (6, .int .i64 20)], []⟩, fun _ V => w = V, fun _ => 0, (), ⟨.cons rfl (.cons rfl (.cons rfl (.cons rfl .nil))), rfl⟩, rfl, ?_⟩
  rintro _ _ rfl
  refine And.intro (fun h => absurd (of_decide_eq_true h) (by omega)) (fun _ => ?_)
  exact And.intro ⟨_, rfl⟩ rfl
theorem sort0_c (p : Option Addr) (cap : Nat) (f : Value) (w : World) : Calls Tryz.prog 101 #[.slice p 0 cap, f] w fun e w' => (∃ v, e = .returned v) ∧ w = w' := by
  refine calls_of_E (S := sg 9) (sgOk _) (args := [.slice p 0 cap, f]) Tryz.func101 rfl rfl (Nat.le_of_ble_eq_true rfl) rfl ?_
  refine Calls.mono (stable0_c p cap f w) ?_
  rintro e _ ⟨⟨v, rfl⟩, rfl⟩
  exact And.intro ⟨_, rfl⟩ rfl

theorem Sort_c (p : Option Addr) (cap : Nat) (l : List Msg) (mode : UInt8) (w : World) (hl : SlR Msg.E w p l) (hk : p = none → cap = 0) (hg : Glob w) (hn : l.length ≤ 1000000000) :
    Calls Tryz.prog 57 #[.slice p l.length cap, u8 mode] w fun e w' => ∃ r p' cap', e = .returned (.slice p' r.length cap') ∧ (knownB mode = true → IsSort mode l r) ∧ (knownB mode = false → r = l) ∧
      OwnS Msg.E 53 w.heap.size w' p' cap' r ∧ Below w.heap.size w w' := by
  have h0 : 1 < w.heap.size := World.block_lt_of_cell? w _ (cells_head hg)
  refine calls_of_M (S := sg 17) (sgOk _) (args := [.slice p l.length cap, u8 mode]) (.s .p (.c .p .p)) Tryz.func57 rfl rfl (Nat.le_of_ble_eq_true rfl) rfl ?_
  refine ⟨Option Addr × Nat, fun s => ⟨[(3, .pointer (some ⟨w.heap.size, 0, none⟩)), (5, .slice s.1 l.length s.2)], []⟩,
    fun s V => V.heap[w.heap.size]? = some (.cells #[u8 mode] 5 (0, 0)) ∧ OwnS Msg.E 53 (w.heap.size + 1) V s.1 s.2 l ∧ Below w.heap.size w V, ?_, ?_⟩
  · refine ⟨⟨by decide, by decide, rfl⟩, [.slice p l.length cap], rfl, ?_⟩
    have hb1 : Below w.heap.size w (w.alloc (.cells #[u8 mode] 5)) := (Below.refl _ _).alloc (Nat.le_refl _) _
    have f1 := hnew w (.cells #[u8 mode] 5)
    have hb2 : Below (w.alloc (.cells #[u8 mode] 5)).heap.size (w.alloc (.cells #[u8 mode] 5)) ((w.alloc (.cells #[u8 mode] 5)).alloc (.cells #[.slice p l.length cap] 45)) := (Below.refl _ _).alloc (Nat.le_refl _) _
    have hb12 := hb1.trans (hb2.mono hb1.size)
    have ht : total [⟨p, cap, l⟩] = l := by simp [total]
    refine Calls.mono (Concat_c (some ⟨(w.alloc (.cells #[u8 mode] 5)).heap.size, 0, none⟩) 1 [⟨p, cap, l⟩] _ (SlR.of_cells (by simp) cells_new) (fun q hq => ?_) (by rw [ht]; exact hn) (by simp)) ?_
    · simp only [List.mem_cons, List.not_mem_nil, or_false] at hq
      subst hq
      exact ⟨hl.below hb12, hk⟩
    rintro e V ⟨p', cap', rfl, ho, hb3⟩
    rw [ht] at ho ⊢
    exact ⟨(p', cap'), ⟨.cons rfl (.cons rfl .nil), rfl⟩, block_below hb3 (block_below hb2 f1), own_weaken ho (by simp), hb12.trans (hb3.mono hb12.size)⟩
  rintro ⟨p1, c1⟩ V ⟨f1, ho, hb⟩
  refine ⟨_, cells_head (cells_block f1), ?_⟩
  refine Calls.mono (known_c mode V) ?_
  rintro e _ ⟨rfl, rfl⟩
  refine And.intro (fun h => ?_) (fun h => ?_)
  · have h : knownB mode = false := by simpa using h
    exact ⟨l, p1, c1, rfl, fun h2 => absurd (h.symm.trans h2) (by decide), fun _ => rfl, own_weaken ho (by omega), hb⟩
  have h : knownB mode = true := by simpa using h
  rcases ho.inv with ⟨e1, e2, e3⟩ | ⟨g, cur, e1, hBg, hgr, hlc, hcm, hcs, htk⟩
  · subst e3
    refine Calls.mono (sort0_c p1 c1 _ V) ?_
    rintro e _ ⟨⟨v, rfl⟩, rfl⟩
    exact ⟨[], p1, c1, rfl, fun _ => ⟨[], by simp [Srt], by simp, rfl⟩, fun _ => rfl, own_weaken ho (by omega), hb⟩
  · dsimp only at e1
    subst e1
    have hrow : RowM V g (cur.toList.drop (l.length * 11)) (List.map Prod.fst l.zipIdx) := by
      rw [zip_fst]
      show V.heap[g]? = _
      rw [hgr, ← htk]
      show some (Obj.cells cur 53 (0, 0)) = some (Obj.cells (cur.toList.take (l.length * 11) ++ cur.toList.drop (l.length * 11)).toArray 53 (0, 0))
      rw [List.take_append_drop]
    have hgl : g ≠ w.heap.size := by omega
    refine Calls.mono (sortStable_c #[.pointer (some ⟨w.heap.size, 0, none⟩)] (mO mode) (Good w.heap.size mode) g c1 l.length (cur.toList.drop (l.length * 11)) l.zipIdx V (cmpOk w.heap.size mode g (by omega) (Ne.symm hgl)) hn ⟨f1, hg.below hb, Nat.lt_of_lt_of_le h0 hb.size⟩ hrow (zip_places l 0) (by simp)) ?_
    rintro e W ⟨⟨v, rfl⟩, ⟨ys, y1, y2, y3⟩, hgW⟩
    have hlen : (List.map Prod.fst ys).length = l.length := by rw [List.length_map, y2.length_eq]; simp
    refine ⟨List.map Prod.fst ys, some ⟨g, 0, none⟩, c1, by rw [hlen]; rfl, fun _ => ⟨ys, y1, y2, rfl⟩, fun h2 => absurd (h.symm.trans h2) (by decide), ?_, hb.grown hgW hb.size (fun k e => by simp at e; omega)⟩
    refine ⟨flat_len _, .inr ⟨g, c1, _, rfl, by omega, y3, by omega, hcm, ?_, ?_⟩⟩
    · have hcl : cur.toList.length = cur.size := rfl
      have h11 : Msg.E.sz = 11 := rfl
      rw [h11] at hcs
      simp only [List.size_toArray, List.length_append, List.length_drop, flat_len, hlen, hcl, h11]
      have : l.length * 11 ≤ c1 * 11 := Nat.mul_le_mul_right _ hlc
      omega
    · simp only []
      rw [List.take_append_of_le_length (by rw [flat_len]; exact Nat.le_refl _), List.take_of_length_le (by rw [flat_len]; exact Nat.le_refl _)]

theorem own_cap {B cap : Nat} {w : World} {p : Option Addr} {l : List Msg} (h : OwnS Msg.E 53 B w p cap l) : l.length ≤ cap ∧ (p = none → cap = 0) := by
  rcases h.inv with ⟨_, h2, h3⟩ | ⟨g, cur, h1, _, _, h2, _⟩
  · subst h3; exact ⟨by simp, fun _ => h2⟩
  · exact ⟨h2, fun e => by rw [h1] at e; cases e⟩
end Go.Proofs.YthgmcegmgjoafaaGreatDoor
namespace Go.Proofs.YthgmcegmgjoafaaGreatDoor
open Go.Vc Go.RowKit Go.Sei

theorem Equal_c (p1 p2 : Option Addr) (cap1 cap2 : Nat) (l1 l2 : List Msg) (w : World) (h1 : SlR Msg.E w p1 l1) (h2 : SlR Msg.E w p2 l2) (hn : l1.length ≤ 1000000000) :
    Calls Tryz.prog 56 #[.slice p1 l1.length cap1, .slice p2 l2.length cap2] w fun e w' => e = .returned (.bool (decide (l1 = l2))) ∧ Below w.heap.size w w' := by
  refine calls_of_E (S := sg 26) (sgOk _) (args := [.slice p1 l1.length cap1, .slice p2 l2.length cap2]) Tryz.func56 rfl rfl (Nat.le_of_ble_eq_true rfl) rfl ?_
  refine And.intro (fun h => ?_) (fun h => ?_)
  · have h := nt h
    refine And.intro (rb ?_) (Below.refl _ _)
    rw [decide_eq_false (fun e => h (by rw [e]))]
  have h := nf h
  refine ⟨Nat, fun k => ⟨[(0, .slice p1 l1.length cap1), (1, .slice p2 l2.length cap2), (4, .bool false), (12, .int .i64 l1.length), (13, .int .i64 (k : Nat))], []⟩,
    fun k X => k ≤ l1.length ∧ Below w.heap.size w X ∧ l1.take k = l2.take k, fun k => l1.length - k, 0, ⟨.cons rfl (.cons rfl (.cons rfl (.cons rfl (.cons rfl .nil)))), rfl⟩, ⟨Nat.zero_le _, Below.refl _ _, by simp⟩, ?_⟩
  rintro k X ⟨hk, hbX, hm⟩
  refine And.intro (fun h => ?_) (fun h => ?_)
  · have h := of_decide_eq_true h
    have hkl : k < l1.length := by omega
    have hkl2 : k < l2.length := by omega
    obtain ⟨b1, o1, rfl, hb1, hc1⟩ := (h1.below hbX.drew).at hkl
    obtain ⟨b2, o2, rfl, hb2, hc2⟩ := (h2.below hbX.drew).at hkl2
    refine DrawE.ord [] [0, 1, 2, 3, 4, 5, 6, 7, 8] (by kernel_rfl) ?_
    refine ⟨k, rfl, hkl, ?_⟩
    refine ⟨l1[k].enc, rfl, hc1 k hkl, hb1, ?_⟩
    refine ⟨k, rfl, hkl2, ?_⟩
    refine ⟨l2[k].enc, rfl, hc2 k hkl2, hb2, ?_⟩
    refine ⟨_, fun w => neq_msg _ _ l1[k] l2[k] w, ?_⟩
    refine And.intro (fun h => ?_) (fun h => ?_)
    · have h : ¬ l1[k] = l2[k] := by simpa using h
      refine And.intro (rb ?_) hbX.drew
      rw [decide_eq_false (fun e => h (by simp only [e]))]
    · have h : l1[k] = l2[k] := by simpa using h
      refine ⟨_, wrap_i64 (by omega), ?_⟩
      refine ⟨k + 1, ⟨.cons rfl (.cons rfl (.cons rfl (.cons rfl (.cons rfl .nil)))), rfl⟩, ⟨hkl, hbX.drew, ?_⟩, by dsimp only; omega⟩
      rw [List.take_succ_eq_append_getElem hkl, List.take_succ_eq_append_getElem hkl2, hm, h]
  · have h := of_decide_eq_false h
    refine And.intro (rb ?_) hbX
    rw [List.take_of_length_le (by omega), List.take_of_length_le (by omega)] at hm
    rw [decide_eq_true hm]
end Go.Proofs.YthgmcegmgjoafaaGreatDoor
namespace Go.Proofs.YthgmcegmgjoafaaGreatDoor
open Go.Vc Go.RowKit Go.Sei

theorem Same_c (p1 p2 : Option Addr) (cap1 cap2 : Nat) (a b : List Msg) (mode : UInt8) (w : World) (h1 : SlR Msg.E w p1 a) (h2 : SlR Msg.E w p2 b) (k1 : p1 = none → cap1 = 0) (k2 : p2 = none → cap2 = 0) (hg : Glob w)
    (hn1 : a.length ≤ 1000000000) (hn2 : b.length ≤ 1000000000) :
    Calls Tryz.prog 14 #[.slice p1 a.length cap1, .slice p2 b.length cap2, u8 mode] w fun e w' => ∃ v : Bool, e = .returned (.bool v) ∧ (v = true ↔ knownB mode = true ∧ EqM mode a b) ∧ Below w.heap.size w w' := by
  refine calls_of_E (S := sg 25) (sgOk _) (args := [.slice p1 a.length cap1, .slice p2 b.length cap2, u8 mode]) Tryz.func14 rfl rfl (Nat.le_of_ble_eq_true rfl) rfl ?_
  refine Calls.mono (known_c mode w) ?_
  rintro e _ ⟨rfl, rfl⟩
  refine And.intro (fun h => ?_) (fun h => ?_)
  · refine And.intro (fun hle => ?_) (fun hle => ?_)
    · refine Calls.mono (Sort_c p1 cap1 a mode w h1 k1 hg hn1) ?_
      rintro e V ⟨r, q1, c1, rfl, s1, _, ho1, hb1⟩
      refine Calls.mono (Sort_c p2 cap2 b mode V (h2.below hb1) k2 (hg.below hb1) hn2) ?_
      rintro e W ⟨s, q2, c2, rfl, s2, _, ho2, hb2⟩
      have hr := (s1 h).perm.length_eq
      refine Calls.mono (Equal_c q1 q2 c1 c2 r s W (ho1.row.below hb2) ho2.row (by omega)) ?_
      rintro e X ⟨rfl, hb3⟩
      have hb12 := hb1.trans (hb2.mono hb1.size)
      refine ⟨_, rfl, ?_, hb12.trans (hb3.mono hb12.size)⟩
      rw [decide_eq_true_iff, isSort_eq (s1 h) (s2 h)]
      exact ⟨fun e => ⟨h, e⟩, fun e => e.2⟩
    · refine ⟨false, rfl, ⟨fun h => (by cases h), fun ⟨_, e⟩ => ?_⟩, Below.refl _ _⟩
      have := e.perm.length_eq
      have hle := of_decide_eq_false hle
      omega
  · refine And.intro (fun h => by cases h) (fun _ => ?_)
    exact ⟨false, rfl, ⟨fun h => (by cases h), fun ⟨e, _⟩ => by rw [h] at e; cases e⟩, Below.refl _ _⟩
end Go.Proofs.YthgmcegmgjoafaaGreatDoor
namespace Go.Proofs.YthgmcegmgjoafaaGreatDoor
open Go.Vc Go.RowKit Go.Sei
set_option linter.unusedVariables false

theorem turnC_kind (to : List Int) (c : Cnd) : (turnC to c).kind = c.kind := by rw [turnC_eq]; rfl
theorem condB_turn {n lo : Nat} {to : List Int} (hto : ∀ k, k < n → 0 ≤ to.getD k 0 ∧ to.getD k 0 < n) (h4 : n ≤ 4) : ∀ (d : Nat) (c : Cnd), condB n lo d c = true → condB n lo d (turnC to c) = true
  | 0, c, h => by obtain ⟨k, t, n, v, kids⟩ := c; cases h
  | d + 1, c, h => by
    have hp := condB_parts h
    rw [condB_succ] at h ⊢
    rw [turnC_eq]
    have hk : ∀ l : List Cnd, (∀ x ∈ l, condB n lo d x = true) → (l.map (turnC to)).all (condB n lo d) = true := fun l hl => by
      rw [List.all_eq_true]
      intro x hx
      obtain ⟨y, hy, rfl⟩ := List.mem_map.1 hx
      exact condB_turn hto h4 d y (hl y hy)
    have hk' := hk c.kids hp.2.2
    have hl : (c.kids.map (turnC to)).length = c.kids.length := List.length_map _
    have ht : ¬ c.kind = 1 → turnT to c.kind c.thread = c.thread := fun h => by unfold turnT; rw [if_neg h]
    have ht1 : c.kind = 1 → (turnT to c.kind c.thread).toNat < n := fun h => by
      unfold turnT
      rw [if_pos h]
      have := hto c.thread.toNat (hp.1 h)
      rw [UInt8.toNat_ofNat', Nat.mod_eq_of_lt (by omega)]
      omega
    generalize hx : turnT to c.kind c.thread = tt at ht ht1 ⊢
    generalize hy : c.kids.map (turnC to) = kk at hk' hl ⊢
    unfold bareL at h ⊢
    show (if c.kind = 0 then ((decide (tt = 0) && (decide (c.n = 0) && decide (c.val = 0))) && decide (kk.length = 0)) else if c.kind = 1 then (decide (tt.toNat < n) && (decide (c.n.toNat < 8) && decide (kk.length = 0))) else if c.kind = 2 then (decide (c.n.toNat < lo) && (decide (tt = 0) && decide (kk.length = 0))) else if c.kind = 3 ∨ c.kind = 4 then ((decide (tt = 0) && (decide (c.n = 0) && decide (c.val = 0))) && (decide (2 ≤ kk.length) && kk.all (condB n lo d))) else if c.kind = 5 then ((decide (tt = 0) && (decide (c.n = 0) && decide (c.val = 0))) && (decide (kk.length = 1) && kk.all (condB n lo d))) else false) = true
    by_cases h0 : c.kind = 0
    · rw [if_pos h0] at h ⊢
      rw [hl, ht (by rw [h0]; decide)]; exact h
    rw [if_neg h0] at h ⊢
    by_cases h1 : c.kind = 1
    · rw [if_pos h1] at h ⊢
      rw [hl, decide_eq_true (ht1 h1)]
      rw [Bool.and_eq_true] at h ⊢
      exact ⟨rfl, h.2⟩
    rw [if_neg h1] at h ⊢
    by_cases h2 : c.kind = 2
    · rw [if_pos h2] at h ⊢
      rw [hl, ht h1]; exact h
    rw [if_neg h2] at h ⊢
    by_cases h3 : c.kind = 3 ∨ c.kind = 4
    · rw [if_pos h3] at h ⊢
      rw [hl, ht h1, hk']
      rw [Bool.and_eq_true, Bool.and_eq_true (a := decide (2 ≤ _))] at h ⊢
      exact ⟨h.1, h.2.1, rfl⟩
    rw [if_neg h3] at h ⊢
    by_cases h5 : c.kind = 5
    · rw [if_pos h5] at h ⊢
      rw [hl, ht h1, hk']
      rw [Bool.and_eq_true, Bool.and_eq_true (a := decide (_ = 1))] at h ⊢
      exact ⟨h.1, h.2.1, rfl⟩
    rw [if_neg h5] at h
    cases h
theorem turnC_comp {n lo : Nat} {ta tb tc : List Int} (hta : ∀ k, k < n → 0 ≤ ta.getD k 0 ∧ ta.getD k 0 < n) (h4 : n ≤ 4) (h : ∀ k, k < n → tb.getD (ta.getD k 0).toNat 0 = tc.getD k 0) : ∀ (d : Nat) (c : Cnd), condB n lo d c = true → turnC tb (turnC ta c) = turnC tc c
  | 0, c, hc => by obtain ⟨k, t, n, v, kids⟩ := c; cases hc
  | d + 1, c, hc => by
    have hp := condB_parts hc
    rw [turnC_eq tb, turnC_eq ta, turnC_eq tc]
    show Cnd.mk c.kind (turnT tb c.kind (turnT ta c.kind c.thread)) c.n c.val ((c.kids.map (turnC ta)).map (turnC tb)) = _
    rw [List.map_map]
    have e1 : c.kids.map (turnC tb ∘ turnC ta) = c.kids.map (turnC tc) := List.map_congr_left fun x hx => turnC_comp hta h4 h d x (hp.2.2 x hx)
    rw [e1]
    congr 1
    unfold turnT
    by_cases h1 : c.kind = 1
    · rw [if_pos h1, if_pos h1, if_pos h1]
      have ht := hp.1 h1
      have := hta c.thread.toNat ht
      rw [UInt8.toNat_ofNat', Nat.mod_eq_of_lt (by omega), h _ ht]
    · rw [if_neg h1, if_neg h1, if_neg h1]
section
variable {n : Nat} {m : Bool} {a b : List Int} (h1 : 1 ≤ n) (h4 : n ≤ 4)
include h1 h4
theorem back_rng (ha : a ∈ grpL n m) : ∀ k, k < n → 0 ≤ (backL a).getD k 0 ∧ (backL a).getD k 0 < n := fun k hk => by
  rw [(inv_of h1 h4 ha).2 k hk]
  exact (inv_of h1 h4 ha).1.tr k hk
theorem grp_rng (ha : a ∈ grpL n m) : a.length = n ∧ ∀ x ∈ a, 0 ≤ x ∧ x < n := by
  have h := (grp m h1 h4).small a ha
  refine ⟨h.2, fun x hx => ?_⟩
  have := (small_perm h.1).2 x hx
  omega
theorem okPrg_turn {p : Prg} (hp : p.threads.length = n) (hok : okPrg p = true) (ha : a ∈ grpL n m) : okPrg (turnP a p) = true := by
  have hO := okPrg_parts hok
  have hr := grp_rng h1 h4 ha
  have hl : (turnP a p).threads.length = n := by
    show (pickL [] p.threads a).length = n
    unfold pickL; rw [List.length_map, hr.1]
  have hm : ∀ t ∈ (turnP a p).threads, t ∈ p.threads := fun t ht => by
    have ht : t ∈ pickL [] p.threads a := ht
    unfold pickL at ht
    obtain ⟨i, hi, rfl⟩ := List.mem_map.1 ht
    have := hr.2 i hi
    have h0 : i.toNat < p.threads.length := by omega
    rw [List.getD_eq_getElem?_getD, List.getElem?_eq_getElem h0]
    exact List.getElem_mem h0
  have hc := condB_turn (lo := p.locs.length) (back_rng h1 h4 ha) h4 20 p.cond (by rw [← hp]; exact hO.cond)
  unfold okPrg at hok ⊢
  rw [hl]
  simp only [Bool.and_eq_true] at hok ⊢
  obtain ⟨q1, q2, ⟨q3, q4, q5⟩, q6, q7, q8⟩ := hok
  refine ⟨q1, q2, ⟨decide_eq_true h1, decide_eq_true h4, ?_⟩, ?_, q7, hc⟩
  · exact List.all_eq_true.2 fun t ht => List.all_eq_true.1 q5 t (hm t ht)
  · exact List.all_eq_true.2 fun t ht => List.all_eq_true.1 q6 t (hm t ht)
theorem turns_turn {p : Prg} {g : Geo} (hg : g.c = n) (ht : turnsL p g = true) (ha : a ∈ grpL n m) : turnsL (turnP a p) g = true := by
  have hr := grp_rng h1 h4 ha
  have hl : (turnP a p).threads.length = n := by
    show (pickL [] p.threads a).length = n
    unfold pickL; rw [List.length_map, hr.1]
  unfold turnsL at ht ⊢
  rw [Bool.and_eq_true, Bool.and_eq_true, decide_eq_true_eq] at ht ⊢
  have hp : p.threads.length = n := by have := ht.2.1; omega
  exact ⟨ht.1, by rw [hl]; omega, okPrg_turn h1 h4 hp ht.2.2 ha⟩
theorem turnP_comp {p : Prg} (hp : p.threads.length = n) (hok : okPrg p = true) (ha : a ∈ grpL n m) (hb : b ∈ grpL n m) : turnP b (turnP a p) = turnP (pickL 0 a b) p := by
  have hO := okPrg_parts hok
  have ra := grp_rng h1 h4 ha
  have rb := grp_rng h1 h4 hb
  have hc := (grp m h1 h4).comp a ha b hb
  unfold turnP
  congr 1
  · exact pick_pick fun x hx => by have := rb.2 x hx; omega
  · refine turnC_comp (n := n) (lo := p.locs.length) (back_rng h1 h4 ha) h4 (fun k hk => ?_) 20 p.cond (by rw [← hp]; exact hO.cond)
    have r := back_rng h1 h4 ha k hk
    rw [(inv_of h1 h4 hb).2 _ (by omega), (inv_of h1 h4 ha).2 k hk, (inv_of h1 h4 hc).2 k hk, to_comp h1 h4 ha hb k hk]
theorem fits_turn {g : Geo} {s : Sy} {pr : Bool} {to : List Int} (hg : g.c = n) (ha : a ∈ grpL n m) (h : fitsB g s = true) : fitsB g (turnS n pr to a s) = true := by
  have hr := grp_rng h1 h4 ha
  unfold fitsB fit4 at h ⊢
  simp only [Bool.and_eq_true, decide_eq_true_eq] at h ⊢
  obtain ⟨⟨⟨⟨q1, q2⟩, q3⟩, q4⟩, q5, q6⟩ := h
  have hl : ∀ {α : Type} (d : α) (xs : List α), ((pickL d xs a).length : Int) = g.c := fun d xs => by
    unfold pickL; rw [List.length_map, hr.1, hg]
  have hm : ∀ {α : Type} (d : α) (xs : List α) (f : α → Bool), (xs.length : Int) = g.c → xs.all f = true → (pickL d xs a).all f = true := fun d xs f hx hf => by
    refine List.all_eq_true.2 fun t ht => ?_
    unfold pickL at ht
    obtain ⟨i, hi, rfl⟩ := List.mem_map.1 ht
    have := hr.2 i hi
    have h0 : i.toNat < xs.length := by omega
    rw [List.getD_eq_getElem?_getD, List.getElem?_eq_getElem h0]
    exact List.all_eq_true.1 hf _ (List.getElem_mem h0)
  refine ⟨⟨⟨⟨q1, hl _ _⟩, hl _ _⟩, ?_⟩, hm _ _ _ q2 q5, hm _ _ _ q3 q6⟩
  show (s.net.map (turnM n to)).length ≤ 64
  rw [List.length_map]; exact q4
end
theorem bufS_mem {l : List Cor} {c : Cor} (h : c ∈ l) : c.buf.length ≤ bufS l := by
  unfold bufS
  induction l with
  | nil => cases h
  | cons x r ih =>
    rw [List.map_cons, List.sum_cons]
    rcases List.mem_cons.1 h with rfl | h
    · omega
    · have := ih h; omega
/-- A turned system is small. -/
structure SmT (s : Sy) : Prop where
  cores : s.cores.length ≤ 1000000000
  caches : s.caches.length ≤ 1000000000
  net : s.net.length ≤ 1000000000
  buf : ∀ c ∈ s.cores, c.buf.length ≤ 1000000000
theorem small_t {s : Sy} (h : smallSy s) : SmT s := by
  unfold smallSy at h
  exact ⟨by omega, by omega, by omega, fun c hc => by have := bufS_mem hc; omega⟩
theorem fits_t {g : Geo} {s : Sy} (h : fitsB g s = true) : SmT s := by
  unfold fitsB fit4 at h
  simp only [Bool.and_eq_true, decide_eq_true_eq] at h
  obtain ⟨⟨⟨⟨q1, q2⟩, q3⟩, q4⟩, q5, q6⟩ := h
  have := (geoR_spec q1).1
  refine ⟨by omega, by omega, by omega, fun c hc => ?_⟩
  have h := List.all_eq_true.1 q5 c hc
  unfold bufB at h
  have := of_decide_eq_true h
  omega
end Go.Proofs.YthgmcegmgjoafaaGreatDoor
namespace Go.Proofs.YthgmcegmgjoafaaGreatDoor
open Go.Vc Go.RowKit Go.Sei
set_option linter.unusedVariables false

section
variable {p : Prg} {g : Geo} {md : UInt8} {vs : List Value} {w : World}
theorem turnNet_c {n mode : UInt8} {pa pb : Option Addr} {ca cb : Nat} {la lb : List Msg} (hw : WldV w.heap.size w vs p g md) (h1 : vs.all Value.oneCell' = true) (ra : SlR Msg.E w pa la) (hka : pa = none → ca = 0) (rb' : SlR Msg.E w pb lb) (hkb : pb = none → cb = 0) (hT : GlobT w) (hU : GlobU w) (hG : Glob w) :
    Calls Tryz.prog 3 #[.agg vs.toArray, u8 n, .slice pa la.length ca, .slice pb lb.length cb, u8 mode] w fun e w' => e = .returned (.bool true) ∧ Below w.heap.size w w' := by
  refine calls_of_M (S := sg 77) (sgOk _) (args := [.agg vs.toArray, u8 n, .slice pa la.length ca, .slice pb lb.length cb, u8 mode]) (.s .p (.c .p (.c .p (.s .p (.c .p (.c .p .p)))))) Tryz.func3 rfl rfl (Nat.le_of_ble_eq_true rfl) rfl ?_
  obtain ⟨L, hL⟩ : ∃ L, L = w.heap.size := ⟨_, rfl⟩
  have q3 : some (Value.pointer (some ⟨w.heap.size, 0, none⟩)) = some (Value.pointer (some ⟨L, 0, none⟩)) := by rw [hL]
  have hb0 : Below w.heap.size w (w.alloc (.cells vs.toArray 44)) := (Below.refl _ w).alloc (Nat.le_refl _) _
  have hW0 : Wb w vs p g md L (w.alloc (.cells vs.toArray 44)) := ⟨by rw [hL]; exact hnew w _, hw.below hb0, hT.below hb0, hb0⟩
  -- pick
  refine ⟨(PrmR × Bool) × Nat, fun s => ⟨[(2, .slice pa la.length ca), (3, .slice pb lb.length cb), (4, u8 mode), (5, .pointer (some ⟨L, 0, none⟩)), (11, .pointer (some ⟨s.2, 0, none⟩)), (12, .bool s.1.2)], []⟩, fun s X => Wb w vs p g md L X ∧ PickI (allL p g md) s.1 X ∧ X.heap[s.2]? = some (.cells #[.slice s.1.1.2.1 s.1.1.1.length s.1.1.2.2] 46 (0, 0)), ?_, ?_⟩
  · refine ⟨vs, hw.len, cells_block (hnew w _), hlt (hnew w _), ?_⟩
    refine Calls.mono (pick_c hW0.b.size hW0.v hW0.T) ?_
    rintro e V ⟨hbV, ⟨h0, rfl⟩ | ⟨a, q, c, ha, rfl, hs⟩⟩
    · refine store_new (X := V) (v := .slice none 0 0) (ttOk.get 46 _ rfl) rfl rfl rfl fun Y hbY fY sY => ?_
      exact ⟨((([], none, 0), false), V.heap.size), ⟨.cons rfl (.cons rfl (.cons rfl (.cons q3 (.cons rfl (.cons rfl .nil))))), rfl⟩, (hW0.below hbV).below hbY, .inr ⟨rfl, h0⟩, fY⟩
    · refine store_new (X := V) (v := .slice q a.length c) (ttOk.get 46 _ rfl) rfl rfl rfl fun Y hbY fY sY => ?_
      exact ⟨(((a, q, c), true), V.heap.size), ⟨.cons rfl (.cons rfl (.cons rfl (.cons q3 (.cons rfl (.cons rfl .nil))))), rfl⟩, (hW0.below hbV).below hbY, .inl ⟨rfl, List.mem_of_getElem? ha, hs.below hbY⟩, fY⟩
  clear hb0 hW0 q3
  rintro ⟨⟨⟨a, qa, cq⟩, oa⟩, P⟩ X ⟨hX, hA, fP⟩
  dsimp only at fP ⊢
  refine ⟨Unit, fun _ => ⟨[(2, .slice pa la.length ca), (3, .slice pb lb.length cb), (4, u8 mode), (5, .pointer (some ⟨L, 0, none⟩)), (11, .pointer (some ⟨P, 0, none⟩))], []⟩, fun _ Y => X = Y ∧ (a ∈ allL p g md ∧ SlR Go.Sei.intE X qa a) ∧ la.length ≤ 30 ∧ lb.length ≤ 30, ?_, ?_⟩
  · have fin : ∀ {R : Ending → World → Prop}, (∀ w', Below w.heap.size w w' → R (.returned (.bool true)) w') → Calls Tryz.prog 7 #[] X R := fun hR => Calls.mono (awake_c hX.T) fun e Z ⟨he, hbZ⟩ => by rw [he]; exact hR _ (hX.below hbZ).b
    rcases hA with ⟨rfl, ha, sa⟩ | ⟨rfl, _⟩
    · refine brF ?_
      refine And.intro (fun h => ?_) (fun h => ?_)
      · refine brT ?_
        exact fin fun w' hb => ⟨rfl, hb⟩
      · have h : ¬ (30 : Int) < la.length := of_decide_eq_false h
        refine And.intro (fun h2 => ?_) (fun h2 => ?_)
        · exact fin fun w' hb => ⟨rfl, hb⟩
        · have h2 : ¬ (30 : Int) < lb.length := of_decide_eq_false h2
          exact ⟨(), ⟨.cons rfl (.cons rfl (.cons rfl (.cons rfl (.cons rfl .nil)))), rfl⟩, rfl, ⟨ha, sa⟩, by omega, by omega⟩
    · refine brT ?_
      refine brT ?_
      refine brT ?_
      exact fin fun w' hb => ⟨rfl, hb⟩
  clear hA
  rintro _ _ ⟨rfl, ⟨ha, sa⟩, na, nb⟩
  have ht : turnsL p g = true := allL_some fun h => by rw [h] at ha; cases ha
  obtain ⟨N, hN, hN1, hN4, hNt, hok⟩ := turns_parts ht
  have hal := allL_grp (md := md) ht hN
  rw [hal] at ha
  have hf : (turnsL p g && suitsL g md a) = true := by rw [ht, grp_suits hN ha]; rfl
  obtain ⟨hla, _⟩ := grp_rng hN1 hN4 ha
  obtain ⟨hrng, hinj⟩ := grp_inj hN1 hN4 ha
  -- the first list
  refine ⟨Option Addr × Nat, fun s => ⟨[(2, .slice pa la.length ca), (3, .slice pb lb.length cb), (4, u8 mode), (13, .func (.func 8) #[] #[.pointer (some ⟨L, 0, none⟩), .pointer (some ⟨P, 0, none⟩)]), (14, .slice s.1 (la.map (turnM N (toN a N))).length s.2), (15, .bool true)], []⟩,
    fun s Y => Below X.heap.size X Y ∧ SlR Msg.E Y s.1 (la.map (turnM N (toN a N))) ∧ (s.1 = none → s.2 = 0), ?_, ?_⟩
  · refine Calls.mono (apply_c hX.b.size hX.c fP hX.v hX.T (hU.below hX.b) (hG.below hX.b) h1 sa hf hN hla hN1 hN4 ha (ra.below hX.b) na) ?_
    rintro e V ⟨q', c', rfl, hr, h0, hbV⟩
    exact ⟨(q', c'), ⟨.cons rfl (.cons rfl (.cons rfl (.cons rfl (.cons rfl (.cons rfl .nil))))), rfl⟩, hbV, hr, h0⟩
  rintro ⟨qc, cc⟩ Y ⟨hbY, rc, kc⟩
  dsimp only at rc kc ⊢
  have hY := hX.below hbY
  -- the second list
  refine ⟨Option Addr × Nat, fun s => ⟨[(2, .slice pa la.length ca), (3, .slice pb lb.length cb), (4, u8 mode), (14, .slice qc (la.map (turnM N (toN a N))).length cc), (15, .bool true), (16, .slice s.1 (lb.map (turnM N (toN a N))).length s.2), (17, .bool true)], []⟩,
    fun s Z => Below Y.heap.size Y Z ∧ SlR Msg.E Z s.1 (lb.map (turnM N (toN a N))) ∧ (s.1 = none → s.2 = 0), ?_, ?_⟩
  · refine Calls.mono (apply_c hY.b.size hY.c (block_below hbY fP) hY.v hY.T (hU.below hY.b) (hG.below hY.b) h1 (sa.below hbY) hf hN hla hN1 hN4 ha (rb'.below hY.b) nb) ?_
    rintro e V ⟨q', c', rfl, hr, h0, hbV⟩
    exact ⟨(q', c'), ⟨.cons rfl (.cons rfl (.cons rfl (.cons rfl (.cons rfl (.cons rfl (.cons rfl .nil)))))), rfl⟩, hbV, hr, h0⟩
  rintro ⟨qd, cd⟩ Z ⟨hbZ, rd, kd⟩
  dsimp only at rd kd ⊢
  have hZ := hY.below hbZ
  have rc := rc.below hbZ
  have nc : (la.map (turnM N (toN a N))).length ≤ 1000000000 := by rw [List.length_map]; omega
  have nd : (lb.map (turnM N (toN a N))).length ≤ 1000000000 := by rw [List.length_map]; omega
  -- the end
  refine brT ?_
  refine brT ?_
  refine Calls.mono (Next_c qc cc _ mode Z rc (hG.below hZ.b) nc) ?_
  rintro e V1 ⟨p1, c1, rfl, s1, hb1⟩
  have h1V := hZ.below hb1
  refine Calls.mono (Next_c pa ca la mode V1 (ra.below h1V.b) (hG.below h1V.b) (by omega)) ?_
  rintro e V2 ⟨p2, c2, rfl, s2, hb2⟩
  have h2V := h1V.below hb2
  have hnl : ∀ l : List Msg, (nextL l mode).length ≤ l.length := fun l => by
    unfold nextL upto
    split
    · exact Nat.le_trans (List.length_filter_le _ _) (by simp)
    · simp
  refine Calls.mono (Ints_c (s1.below hb2) s2 (by rw [nats_len]; have := hnl (la.map (turnM N (toN a N))); rw [List.length_map] at this; omega)) ?_
  rintro e V3 ⟨rfl, hb3⟩
  have h3V := h2V.below hb3
  refine brE (by rw [next_turn hN4 hrng hinj]; exact decide_eq_true rfl) ?_
  have hb13 := (hb1.trans (hb2.mono hb1.size)).trans (hb3.mono (hb1.trans (hb2.mono hb1.size)).size)
  refine Calls.mono (Same_c qc qd cc cd _ _ mode V3 (rc.below hb13) (rd.below hb13) kc kd (hG.below h3V.b) nc nd) ?_
  rintro e V4 ⟨v4, rfl, i4, hb4⟩
  have h4V := h3V.below hb4
  refine Calls.mono (Same_c pa pb ca cb la lb mode V4 (ra.below h4V.b) (rb'.below h4V.b) hka hkb (hG.below h4V.b) (by omega) (by omega)) ?_
  rintro e V5 ⟨v5, rfl, i5, hb5⟩
  have h5V := h4V.below hb5
  have e45 : v4 = v5 := by
    rw [Bool.eq_iff_iff, i4, i5, eqM_turn hN4 hrng hinj]
  refine ⟨_, fun w => eql_bool _ _ v4 v5 w, ?_⟩
  refine brE (decide_eq_true e45) ?_
  refine Calls.mono (awake_c h5V.T) ?_
  rintro e V6 ⟨rfl, hb6⟩
  exact ⟨rfl, (h5V.below hb6).b⟩
end
end Go.Proofs.YthgmcegmgjoafaaGreatDoor
namespace Go.Proofs.YthgmcegmgjoafaaGreatDoor
open Go.Vc Go.RowKit Go.Sei
open Go.ChangeShapes Go.WideShapes Go.ChangeAt
set_option linter.unusedVariables false

section
variable {H : Type} {enc : TypeId × Value → H} {P : Program} {w : World} {base : Nat} {spare : Nat → Bool} {held : Bool} {fuel : Nat} {t : TypeId} {cs : List Value} {x : DataW H × List MemPlace}
theorem open_u8 (ht : P.underlying t = some (.int .u8)) (h : DataW.trod enc P w base spare held fuel t cs = some x) : ∃ b : UInt8, cs = [u8 b] ∧ x.1 = .lit (.int .u8 b.toNat) := by
  obtain ⟨n, rfl, rfl, hw⟩ := DataW.trod_int ht h
  have hb := bounds_u8 hw
  have e : ((UInt8.ofNat n.toNat).toNat : Int) = n := by
    rw [UInt8.toNat_ofNat']; omega
  exact ⟨UInt8.ofNat n.toNat, by rw [u8, e], by rw [e]⟩

theorem open_u8s {n : Nat} {e : TypeId} (ht : P.underlying t = some (.array n e)) (he : P.underlying e = some (.int .u8)) (hc : P.cellsOf e = 1) (hn : P.cellsOf t = n)
    (h : DataW.trod enc P w base spare held fuel t cs = some x) : ∃ bs : List UInt8, bs.length = n ∧ cs = bs.map u8 ∧ x.1 = .agg (bs.map fun b => .lit (.int .u8 b.toNat)) := by
  obtain ⟨xs, m, rfl, rfl, hl, hx, hel⟩ := DataW.trod_array ht h
  rw [hn] at hl
  have each : ∀ i (h : i < n), ∃ b : UInt8, cs[i]? = some (u8 b) ∧ xs[i]?.map (·.1) = some (.lit (.int .u8 b.toNat)) := fun i hi => by
    have h1 := hel i hi
    rw [hc, List.getElem?_eq_getElem (by omega)] at h1
    obtain ⟨b, h2, h3⟩ := open_u8 he h1
    refine ⟨b, ?_, by rw [List.getElem?_eq_getElem (by omega), Option.map_some, h3]⟩
    have : ((cs.drop (i * 1)).take 1)[0]? = some (u8 b) := by rw [h2]; rfl
    simpa using this
  have : ∀ k, k ≤ n → ∃ bs : List UInt8, bs.length = k ∧ cs.take k = bs.map u8 ∧ (xs.take k).map (·.1) = bs.map fun b => .lit (.int .u8 b.toNat) := by
    intro k
    induction k with
    | zero => exact fun _ => ⟨[], rfl, by simp, by simp⟩
    | succ k ih =>
      intro hk
      obtain ⟨bs, h1, h2, h3⟩ := ih (by omega)
      obtain ⟨b, h4, h5⟩ := each k (by omega)
      have hk1 : k < cs.length := by omega
      have hk2 : k < xs.length := by omega
      rw [List.getElem?_eq_getElem hk1] at h4
      rw [List.getElem?_eq_getElem hk2] at h5
      refine ⟨bs ++ [b], by simp [h1], ?_, ?_⟩
      · rw [List.take_succ_eq_append_getElem hk1, h2, Option.some.inj h4]; simp
      · rw [List.take_succ_eq_append_getElem hk2, List.map_append, h3]
        simp at h5
        simp [h5]
  obtain ⟨bs, h1, h2, h3⟩ := this n (Nat.le_refl _)
  rw [List.take_of_length_le (by omega)] at h2 h3
  exact ⟨bs, h1, h2, by rw [← h3]⟩

theorem open_i (ht : P.underlying t = some (.int .i64)) (h : DataW.trod enc P w base spare held fuel t cs = some x) : ∃ b : Int, cs = [i64 b] ∧ x.1 = .lit (.int .i64 b) := by
  obtain ⟨n, rfl, rfl, _⟩ := DataW.trod_int ht h
  exact ⟨n, rfl, rfl⟩
theorem open_is {n : Nat} {e : TypeId} (ht : P.underlying t = some (.array n e)) (he : P.underlying e = some (.int .i64)) (hc : P.cellsOf e = 1) (hn : P.cellsOf t = n)
    (h : DataW.trod enc P w base spare held fuel t cs = some x) : ∃ bs : List Int, bs.length = n ∧ cs = bs.map i64 ∧ x.1 = .agg (bs.map fun b => .lit (.int .i64 b)) := by
  obtain ⟨xs, m, rfl, rfl, hl, hx, hel⟩ := DataW.trod_array ht h
  rw [hn] at hl
  have each : ∀ i (h : i < n), ∃ b : Int, cs[i]? = some (i64 b) ∧ xs[i]?.map (·.1) = some (.lit (.int .i64 b)) := fun i hi => by
    have h1 := hel i hi
    rw [hc, List.getElem?_eq_getElem (by omega)] at h1
    obtain ⟨b, h2, h3⟩ := open_i he h1
    refine ⟨b, ?_, by rw [List.getElem?_eq_getElem (by omega), Option.map_some, h3]⟩
    have : ((cs.drop (i * 1)).take 1)[0]? = some (i64 b) := by rw [h2]; rfl
    simpa using this
  have : ∀ k, k ≤ n → ∃ bs : List Int, bs.length = k ∧ cs.take k = bs.map i64 ∧ (xs.take k).map (·.1) = bs.map fun b => .lit (.int .i64 b) := by
    intro k
    induction k with
    | zero => exact fun _ => ⟨[], rfl, by simp, by simp⟩
    | succ k ih =>
      intro hk
      obtain ⟨bs, h1, h2, h3⟩ := ih (by omega)
      obtain ⟨b, h4, h5⟩ := each k (by omega)
      have hk1 : k < cs.length := by omega
      have hk2 : k < xs.length := by omega
      rw [List.getElem?_eq_getElem hk1] at h4
      rw [List.getElem?_eq_getElem hk2] at h5
      refine ⟨bs ++ [b], by simp [h1], ?_, ?_⟩
      · rw [List.take_succ_eq_append_getElem hk1, h2, Option.some.inj h4]; simp
      · rw [List.take_succ_eq_append_getElem hk2, List.map_append, h3]
        simp at h5
        simp [h5]
  obtain ⟨bs, h1, h2, h3⟩ := this n (Nat.le_refl _)
  rw [List.take_of_length_le (by omega)] at h2 h3
  exact ⟨bs, h1, h2, by rw [← h3]⟩

end
theorem cells5 : Tryz.prog.cellsOf 5 = 1 := by kernel_rfl
theorem cells4 : Tryz.prog.cellsOf 4 = 1 := by kernel_rfl
theorem add_none (b o i : Nat) : (⟨b, o, none⟩ : Addr).add i = ⟨b, o + i, none⟩ := by
  unfold Addr.add
  by_cases h : i = 0
  · simp [h]
  · simp [h]

section
variable {w : World} {base : Nat} {cs : List Value}
theorem cells_of_run {a : Addr} {n : Nat} (hn : 0 < n) (h : w.cells? base a n = some cs) : a.spot = none ∧ a.block < w.heap.size ∧ Cells w ⟨a.block, a.off, none⟩ cs := by
  obtain ⟨_, hl, hc⟩ := World.cells?_some h
  have h0 := hc 0 hn
  rw [List.getElem?_eq_getElem (by omega)] at h0
  have hs : a.spot = none := by simpa [Addr.add] using World.cell?_spot h0
  obtain ⟨b, o, s⟩ := a
  dsimp only at hs
  subst hs
  refine ⟨rfl, World.block_lt_of_cell? _ _ h0, cells_mk fun i v hv => ?_⟩
  have hi : i < n := by have := (List.getElem?_eq_some_iff.1 hv).1; omega
  have := (hc i hi).trans hv
  rw [add_none] at this
  exact this

end
theorem ok_slice {P : Program} {w : World} {r : Reach} {base : Nat} {t e : TypeId} {v : Value} (ht : P.underlying t = some (.slice e)) (h : Value.okWide P w r base t v) :
    ∃ a len cap, v = .slice a len cap ∧ len ≤ cap ∧ (a = none → cap = 0) := by
  simp only [Value.okWide, ht, Cell.okWide] at h
  cases v with
  | slice a len cap =>
    cases a with
    | none =>
      refine ⟨none, len, cap, rfl, ?_⟩
      unfold Cell.ok at h
      rw [ht] at h
      split at h <;> simp_all
    | some a =>
      refine ⟨some a, len, cap, rfl, ?_, fun h => by cases h⟩
      unfold Cell.ok at h
      rw [ht] at h
      split at h <;> simp_all
  | _ => simp_all [Cell.ok]

theorem seat_own : ownKnob Tryz.prog.godebug = none := by kernel_rfl
theorem seat_laidOut : laidOutB Tryz.prog = true := by kernel_rfl
section
variable {H : Type} {enc : TypeId × Value → H} {P : Program} {w : World} {base : Nat} {spare : Nat → Bool} {held : Bool} {fuel : Nat} {t e : TypeId} {cs : List Value} {x : DataW H × List MemPlace}
/-- What every reading of a type's cells comes to. -/
def Opens (enc : TypeId × Value → H) (P : Program) (w : World) (base : Nat) (spare : Nat → Bool) (held : Bool) (t : TypeId) (R : List Value → Prop) : Prop :=
  ∀ fuel cs x, DataW.trod enc P w base spare held fuel t cs = some x → R cs
theorem Opens.field {fs : Array Field} {R : List Value → Prop} {i : Nat} {f : Field} {n : Nat} {xs : List (DataW H × List MemPlace)} {m : Nat} (hel : ∀ (i : Nat) (f : Field), fs[i]? = some f → DataW.trod enc P w base spare held m f.type ((cs.drop f.offset).take (P.cellsOf f.type)) = xs[i]?)
    (hl : xs.length = fs.size) (hi : fs[i]? = some f) {o : Nat} (hoo : f.offset = o) (hn : P.cellsOf f.type = n) (ho : Opens enc P w base spare held f.type R) : R ((cs.drop o).take n) := by
  subst hoo
  have h1 := hel i f hi
  have : i < fs.size := (Array.getElem?_eq_some_iff.1 hi).1
  rw [List.getElem?_eq_getElem (by omega), hn] at h1
  exact ho _ _ _ h1
theorem opens_u8 (ht : P.underlying t = some (.int .u8)) : Opens enc P w base spare held t fun cs => ∃ b : UInt8, cs = [u8 b] := fun fuel cs x h => by
  obtain ⟨b, h, _⟩ := open_u8 ht h
  exact ⟨b, h⟩
theorem opens_bool (ht : P.underlying t = some .bool) : Opens enc P w base spare held t fun cs => ∃ b : Bool, cs = [.bool b] := fun fuel cs x h => by
  obtain ⟨b, h, _⟩ := DataW.trod_bool ht h
  exact ⟨b, h⟩
theorem opens_int (ht : P.underlying t = some (.int .i64)) : Opens enc P w base spare held t fun cs => ∃ b : Int, cs = [.int .i64 b] := fun fuel cs x h => by
  obtain ⟨n, h, _, _⟩ := DataW.trod_int ht h
  exact ⟨n, h⟩
theorem opens_u64 (ht : P.underlying t = some (.int .u64)) : Opens enc P w base spare held t fun cs => ∃ n : Nat, n < 18446744073709551616 ∧ cs = [.int .u64 (n : Int)] := fun fuel cs x h => by
  obtain ⟨n, rfl, _, hw⟩ := DataW.trod_int ht h
  have hb : 0 ≤ n ∧ n ≤ 18446744073709551615 := by
    simp only [Lit.wf, decide_eq_true_eq, Bool.and_eq_true] at hw
    first
      | exact ⟨by simpa [IntKind.min, IntKind.signed, IntKind.bits] using hw.1, by simpa [IntKind.max, IntKind.signed, IntKind.bits] using hw.2⟩
      | (simp [IntKind.min, IntKind.max, IntKind.signed, IntKind.bits] at hw; omega)
  exact ⟨n.toNat, by omega, by congr 2; omega⟩
theorem opens_u8s {n : Nat} (ht : P.underlying t = some (.array n e)) (he : P.underlying e = some (.int .u8)) (hc : P.cellsOf e = 1) (hn : P.cellsOf t = n) : Opens enc P w base spare held t fun cs => ∃ bs : List UInt8, bs.length = n ∧ cs = bs.map u8 := fun fuel cs x h => by
  obtain ⟨bs, h1, h2, _⟩ := open_u8s ht he hc hn h
  exact ⟨bs, h1, h2⟩

theorem list_of {β : Type} {n : Nat} (i0 : β) {Q : Nat → β → Prop} (h : ∀ i, i < n → ∃ b, Q i b) : ∃ bs : List β, bs.length = n ∧ ∀ i (hi : i < bs.length), Q i bs[i] := by
  have h2 : ∀ i, ∃ b, i < n → Q i b := fun i => by
    by_cases hi : i < n
    · obtain ⟨b, hb⟩ := h i hi; exact ⟨b, fun _ => hb⟩
    · exact ⟨i0, fun h => absurd h hi⟩
  obtain ⟨g, hg⟩ := Classical.axiomOfChoice h2
  refine ⟨(List.range n).map g, by simp, fun i hi => ?_⟩
  simp only [List.getElem_map, List.getElem_range]
  exact hg i (by simpa using hi)
theorem flat_of {β : Type} {f : β → List Value} {sz : Nat} : ∀ (bs : List β) (cs : List Value), cs.length = bs.length * sz → (∀ i (h : i < bs.length), (cs.drop (i * sz)).take sz = f bs[i]) → cs = bs.flatMap f
  | [], cs, hl, _ => by simpa using hl
  | b :: r, cs, hl, h => by
    have h0 := h 0 (by simp)
    simp only [Nat.zero_mul, List.drop_zero, List.getElem_cons_zero] at h0
    rw [List.flatMap_cons, ← h0]
    conv => lhs; rw [← List.take_append_drop sz cs]
    congr 1
    refine flat_of (sz := sz) r (cs.drop sz) (by rw [List.length_drop, hl, List.length_cons, Nat.add_mul]; omega) fun i hi => ?_
    have h1 := h (i + 1) (by simpa using hi)
    rw [List.drop_drop]
    simpa [Nat.add_mul, Nat.add_comm] using h1
theorem opens_arr {β : Type} (i0 : β) {f : β → List Value} {Q : β → Prop} {n sz : Nat} (ht : P.underlying t = some (.array n e)) (hc : P.cellsOf e = sz) (hn : P.cellsOf t = n * sz) (ho : Opens enc P w base spare held e fun cs => ∃ b, Q b ∧ cs = f b) :
    Opens enc P w base spare held t fun cs => ∃ bs : List β, bs.length = n ∧ (∀ b ∈ bs, Q b) ∧ cs = bs.flatMap f := fun fuel cs x h => by
  obtain ⟨xs, m, rfl, rfl, hl, hx, hel⟩ := DataW.trod_array ht h
  rw [hn] at hl
  have each : ∀ i, i < n → ∃ b : β, Q b ∧ (cs.drop (i * sz)).take sz = f b := fun i hi => by
    have h1 := hel i hi
    rw [hc, List.getElem?_eq_getElem (by omega)] at h1
    exact ho _ _ _ h1
  obtain ⟨bs, h1, h2⟩ := list_of i0 each
  refine ⟨bs, h1, fun b hb => ?_, flat_of bs cs (by rw [hl, h1]) fun i hi => (h2 i hi).2⟩
  obtain ⟨i, hi, rfl⟩ := List.getElem_of_mem hb
  exact (h2 i hi).1
theorem opens_sl {β : Type} (i0 : β) {f : β → List Value} {Q : β → Prop} {sz : Nat} (hp : 0 < sz) (ht : P.underlying t = some (.slice e)) (hc : P.cellsOf e = sz) (ho : Opens enc P w base spare held e fun cs => ∃ b, Q b ∧ cs = f b) :
    Opens enc P w base spare held t fun cs => ∃ (p : Option Addr) (cap : Nat) (l : List β), cs = [.slice p l.length cap] ∧ l.length ≤ 9223372036854775807 ∧ (p = none → cap = 0) ∧ (∀ b ∈ l, Q b) ∧ ∃ b o, (l.length = 0 ∨ p = some ⟨b, o, none⟩) ∧ ∀ i (hi : i < l.length), b < w.heap.size ∧ Cells w ⟨b, o + i * sz, none⟩ (f l[i]) := fun fuel cs x h => by
  rcases DataW.trod_slice ht h with ⟨rfl, _⟩ | ⟨a, len, cap, elems, rest, n, _, rfl, _, _, hlc, hcm, hlen, hel, _, _⟩
  · exact ⟨none, 0, [], rfl, by simp, fun _ => rfl, by simp, 0, 0, .inl rfl, fun i hi => by simp at hi⟩
  · have each : ∀ i, i < len → ∃ m : β, Q m ∧ (a.add (i * sz)).spot = none ∧ (a.add (i * sz)).block < w.heap.size ∧ Cells w ⟨(a.add (i * sz)).block, (a.add (i * sz)).off, none⟩ (f m) := fun i hi => by
      have h1 := hel i hi
      rw [hc, List.getElem?_eq_getElem (by omega), Option.bind_eq_some_iff] at h1
      obtain ⟨cs, h2, h3⟩ := h1
      obtain ⟨m, hq, rfl⟩ := ho _ _ _ h3
      exact ⟨m, hq, cells_of_run hp h2⟩
    obtain ⟨l, h1, h2⟩ := list_of i0 each
    have hm : maxLen = 9223372036854775807 := rfl
    refine ⟨some a, cap, l, by rw [h1], by omega, (fun h => by cases h), fun b hb => ?_, a.block, a.off, ?_, fun i hi => ?_⟩
    · obtain ⟨i, hi, rfl⟩ := List.getElem_of_mem hb
      exact (h2 i hi).1
    · by_cases h00 : l.length = 0
      · exact .inl h00
      · right
        have hsp : a.spot = none := by
          have := (h2 0 (by omega)).2.1
          simpa [Addr.add] using this
        obtain ⟨b, o, s⟩ := a
        dsimp only at hsp
        subst hsp
        rfl
    · have hsp : a.spot = none := by
        have := (h2 0 (by omega)).2.1
        simpa [Addr.add] using this
      obtain ⟨b, o, s⟩ := a
      dsimp only at hsp
      subst hsp
      have := (h2 i hi).2.2
      rw [add_none] at this
      exact this
theorem cut (cs : List Value) (o n o' : Nat) (h : o + n = o') : cs.drop o = (cs.drop o).take n ++ cs.drop o' := by
  rw [← h, ← List.drop_drop, List.take_append_drop]
end
theorem cC (t n : Nat) (h : Tryz.prog.cellsOf t = n) : Tryz.prog.cellsOf t = n := h
theorem returns_and_sized {H : Type} {enc : TypeId × Value → H} {a : Assume} {C : Checked} {os : Os} {f : FuncId} {fn : Func} {s : ChangeSpec} {conds : List PathCond} {apart fresh handsOn again : Bool} {X : World → Array Value → Prop}
    (hX : ∀ (w w' : World) (args : Array Value), w.heap = w'.heap → X w args → X w' args)
    (own : ownKnob C.prog.godebug = none) (started : os.Started) (noInit : C.prog.inits.idxOf? f = none) (hfn : C.prog.funcs[f]? = some fn)
    (witness : ∃ (w : World) (tape : Tape) (i : Input), w.os = os ∧ (w.forCall tape i).Shaped C.prog ∧ i.vars = [] ∧ Input.okWide C.prog (w.forCall tape i) .any w.heap.size f i ∧
      ((s.pre enc C.prog fn conds apart (w.forCall tape i).memory i.args ∧ X (w.forCall tape i).memory i.args) ∧ sizedMet enc C.prog fn (OpenSpec.ofChange s) apart (w.forCall tape i).memory i.args) ∧ a.holds C.prog (lone (Frame.enter C.prog f i.args .normal) [] (w.forCall tape i)))
    (contract : ∀ (W : World) (base : Nat) (args : Array Value) (ds gs : List (DataW H)) (before : List MemPlace),
      (∀ (j : Nat) t v, fn.params[j]? = some t → args[j]? = some v → Value.okWide C.prog W .any base t v) →
      DataW.Whole enc C.prog fn.params.toList s.vars apart W args.toList ds gs before → X W args → W.ShapedOpen C.prog →
      (∃ ds gs before, DataW.Whole enc C.prog fn.params.toList (OpenSpec.ofChange s).vars apart W args.toList ds gs before ∧ ∀ n ∈ DataW.weightsEach C.prog (fn.params.toList ++ (OpenSpec.ofChange s).bare.plain.varTypes C.prog) (ds ++ gs), n ≤ reachBytes) →
      Calls C.prog f args W fun e W' => ∃ v, e = .returned v ∧ s.post enc C.prog fn apart fresh handsOn again W args v W') :
    ReturnsInHanded a C os f .any (fun w args => (s.pre enc C.prog fn conds apart w args ∧ X w args) ∧ sizedMet enc C.prog fn (OpenSpec.ofChange s) apart w args) (s.post enc C.prog fn apart fresh handsOn again) := by
  refine returnsInHanded_of_calls own started noInit witness ?_
  intro w tape i _ hsh _ hok hpre hholds
  obtain ⟨_, _, _, fn', hfn', _, _, _, _, hval⟩ := hok
  have e : fn' = fn := Option.some.inj (hfn'.symm.trans hfn)
  subst e
  obtain ⟨⟨⟨ds, gs, before, hw, hc⟩, hx⟩, hz⟩ := hpre
  have hw' := DataW.Whole.of_heap (w' := w.forCall tape i) (by rfl) hw
  obtain ⟨_, ds2, gs2, before2, hw2, hall⟩ := hz
  refine (contract (w.forCall tape i) w.heap.size i.args ds gs before hval hw' (hX _ _ _ (by rfl) hx) hsh ⟨ds2, gs2, before2, DataW.Whole.of_heap (w' := w.forCall tape i) (by rfl) hw2, fun n hn => of_decide_eq_true (List.all_eq_true.1 hall n hn)⟩).mono fun e W' ⟨v, he, hp⟩ => ?_
  subst he
  exact ChangeSpec.post_blind hp

section
variable {H : Type} {enc : TypeId × Value → H} {P : Program} {w : World} {base : Nat} {spare : Nat → Bool} {held : Bool} {fuel : Nat} {t : TypeId} {cs : List Value} {x : DataW H × List MemPlace}
/-- All weights of a reading lie within the reach. -/
def Wgt (P : Program) (t : TypeId) (d : DataW H) : Prop := ∀ n ∈ d.weights P t, n ≤ reachBytes
theorem wgt_mem {ds : List (DataW H)} {e : TypeId} (h : ∀ n ∈ DataW.weightsAll P e ds, n ≤ reachBytes) : ∀ d ∈ ds, Wgt P e d := by
  induction ds with
  | nil => intro d hd; cases hd
  | cons a r ih =>
    intro d hd
    simp only [DataW.weightsAll, List.mem_append] at h
    rcases List.mem_cons.1 hd with rfl | hd
    · exact fun n hn => h n (.inl hn)
    · exact ih (fun n hn => h n (.inr hn)) d hd
theorem wgt_slice {e : TypeId} (ht : P.underlying t = some (.slice e)) {a : Option Addr} {len cap : Nat} (h : DataW.trod enc P w base spare held fuel t [.slice a len cap] = some x) (hw : Wgt P t x.1) (hb : Nat.ble 1 (P.bytesOf e) = true) :
    len ≤ reachBytes ∧ ∀ i, i < len → ∃ aa cs n y, a = some aa ∧ w.cells? base (aa.add (i * P.cellsOf e)) (P.cellsOf e) = some cs ∧ DataW.trod enc P w base spare held n e cs = some y ∧ Wgt P e y.1 := by
  rcases DataW.trod_slice ht h with ⟨hcs, hx⟩ | ⟨aa, l, c, elems, rest, n, _, hcs, hx, _, _, _, hlen, hel, _, _⟩
  · simp only [List.cons.injEq, Value.slice.injEq, and_true] at hcs
    obtain ⟨rfl, rfl, rfl⟩ := hcs
    exact ⟨Nat.zero_le _, fun i hi => absurd hi (Nat.not_lt_zero _)⟩
  · simp only [List.cons.injEq, Value.slice.injEq, and_true] at hcs
    obtain ⟨rfl, rfl, rfl⟩ := hcs
    subst hx
    have hw' : ∀ m, m ∈ ((elems.map (·.1)).length + (rest.map (·.1)).length) * P.bytesOf e :: (DataW.weightsAll P e (elems.map (·.1)) ++ DataW.weightsAll P e (rest.map (·.1))) → m ≤ reachBytes := fun m hm => by
      refine hw m ?_
      simp only [DataW.weights, ht]
      exact hm
    have hb := Nat.le_of_ble_eq_true hb
    constructor
    · have h1 := hw' _ List.mem_cons_self
      simp only [List.length_map] at h1
      have : elems.length * 1 ≤ (elems.length + rest.length) * P.bytesOf e := Nat.mul_le_mul (Nat.le_add_right _ _) hb
      omega
    · intro i hi
      have h1 := hel i hi
      rw [List.getElem?_eq_getElem (by omega), Option.bind_eq_some_iff] at h1
      obtain ⟨cs, h2, h3⟩ := h1
      refine ⟨aa, cs, n, _, rfl, h2, h3, ?_⟩
      refine wgt_mem (ds := elems.map (·.1)) (fun m hm => hw' m (List.mem_cons_of_mem _ (List.mem_append_left _ hm))) _ ?_
      exact List.mem_map_of_mem (List.getElem_mem _)
theorem wgt_field {fs : Array Field} (ht : P.underlying t = some (.struct fs)) (h : DataW.trod enc P w base spare held fuel t cs = some x) (hw : Wgt P t x.1) {i : Nat} {f : Field} (hf : fs[i]? = some f) {T o k : Nat} {vs : List Value} (hT : f.type = T) (hO : f.offset = o) (hk : P.cellsOf T = k) (hv : (cs.drop o).take k = vs) :
    ∃ n y, DataW.trod enc P w base spare held n T vs = some y ∧ Wgt P T y.1 := by
  subst hT hO hk hv
  obtain ⟨xs, n, rfl, rfl, hl, hx, hel⟩ := DataW.trod_struct ht h
  have h1 := hel i f hf
  have hi : i < xs.length := by rw [hx]; exact (Array.getElem?_eq_some_iff.1 hf).1
  rw [List.getElem?_eq_getElem hi] at h1
  refine ⟨n, _, h1, fun m hm => hw m ?_⟩
  simp only [DataW.weights, ht]
  refine DataW.weights_mem_each (j := i) (t := f.type) (d := xs[i].1) ?_ ?_ m hm
  · rw [List.getElem?_map]
    have : fs.toList[i]? = some f := by simpa using hf
    rw [this]; rfl
  · rw [List.getElem?_map, List.getElem?_eq_getElem hi]; rfl
end

end Go.Proofs.YthgmcegmgjoafaaGreatDoor
namespace Go.Proofs.YthgmcegmgjoafaaGreatDoor
open Go.Vc Go.RowKit Go.Sei
open Go.ChangeShapes Go.WideShapes Go.ChangeAt
set_option linter.unusedVariables false

theorem cell_one {P : Program} {w : World} {r : Reach} {base : Nat} {u : TypeId} {v : Value} (h : Cell.okWide P w r base u v) : v.oneCell' = true := by
  cases v with
  | agg cs =>
    exfalso
    unfold Cell.okWide at h
    split at h <;> rename_i h1 <;> first | cases h1 | skip
    all_goals
      unfold Cell.ok at h
      split at h <;> rename_i h2 <;> first | cases h2 | exact h
  | tuple cs =>
    exfalso
    unfold Cell.okWide at h
    split at h <;> rename_i h1 <;> first | cases h1 | skip
    all_goals
      unfold Cell.ok at h
      split at h <;> rename_i h2 <;> first | cases h2 | exact h
  | _ => rfl
theorem okWide_one {P : Program} {w : World} {r : Reach} {base : Nat} {t : TypeId} {a : Array Value} {fs : Array Field} (ht : P.underlying t = some (.struct fs)) (h : Value.okWide P w r base t (.agg a)) : a.toList.all Value.oneCell' = true := by
  unfold Value.okWide at h
  rw [ht] at h
  obtain ⟨cs, h0, _, ts, _, _, h1⟩ := h
  simp only [Value.agg.injEq] at h0
  subst h0
  rw [List.all_eq_true]
  intro v hv
  obtain ⟨i, hi, rfl⟩ := List.getElem_of_mem hv
  obtain ⟨u, _, h2⟩ := h1 i a.toList[i] (by simp)
  exact cell_one h2

section
variable {H : Type} {enc : TypeId × Value → H} {P : Program} {w : World} {base : Nat} {spare : Nat → Bool} {held : Bool} {fuel F : Nat} {t e : TypeId} {cs : List Value} {x : DataW H × List MemPlace}
/-- What every small enough reading of a type's cells comes to. -/
def OpensW (enc : TypeId × Value → H) (P : Program) (w : World) (base : Nat) (spare : Nat → Bool) (held : Bool) (F : Nat) (t : TypeId) (R : List Value → Prop) : Prop :=
  ∀ n, n < F → ∀ cs x, DataW.trod enc P w base spare held n t cs = some x → Wgt P t x.1 → R cs
theorem opensW_of {R : List Value → Prop} (h : Opens enc P w base spare held t R) : OpensW enc P w base spare held F t R := fun n _ cs x h1 _ => h n cs x h1
theorem OpensW.field {fs : Array Field} {R : List Value → Prop} (ht : P.underlying t = some (.struct fs)) (h : DataW.trod enc P w base spare held fuel t cs = some x) (hw : Wgt P t x.1) (hF : fuel ≤ F) {i : Nat} {f : Field} (hf : fs[i]? = some f) {T o k : Nat} (hT : f.type = T) (hO : f.offset = o) (hk : P.cellsOf T = k)
    (ho : OpensW enc P w base spare held F T R) : R ((cs.drop o).take k) := by
  subst hT hO hk
  obtain ⟨xs, n, rfl, rfl, hl, hx, hel⟩ := DataW.trod_struct ht h
  have h1 := hel i f hf
  have hi : i < xs.length := by rw [hx]; exact (Array.getElem?_eq_some_iff.1 hf).1
  rw [List.getElem?_eq_getElem hi] at h1
  refine ho n (by omega) _ _ h1 fun m hm => hw m ?_
  simp only [DataW.weights, ht]
  refine DataW.weights_mem_each (j := i) (t := f.type) (d := xs[i].1) ?_ ?_ m hm
  · rw [List.getElem?_map]
    have : fs.toList[i]? = some f := by simpa using hf
    rw [this]; rfl
  · rw [List.getElem?_map, List.getElem?_eq_getElem hi]; rfl
theorem opensW_str (ht : P.underlying t = some .string) : OpensW enc P w base spare held F t fun cs => ∃ s : List UInt8, s.length ≤ 140737488351232 ∧ cs = [strV s] := fun n _ cs x h hw => by
  obtain ⟨s, rfl, rfl, _⟩ := DataW.trod_string ht h
  refine ⟨s.data.toList, hw _ (by simp [DataW.weights]), ?_⟩
  unfold strV bs
  rw [Array.toArray_toList]
theorem opensW_sl {β : Type} (i0 : β) {f : β → List Value} {Q : β → Prop} {sz : Nat} (hp : 0 < sz) (ht : P.underlying t = some (.slice e)) (hc : P.cellsOf e = sz) (hb : Nat.ble 1 (P.bytesOf e) = true) (ho : OpensW enc P w base spare held F e fun cs => ∃ b, Q b ∧ cs = f b) :
    OpensW enc P w base spare held (F + 1) t fun cs => ∃ (p : Option Addr) (cap : Nat) (l : List β), cs = [.slice p l.length cap] ∧ (l.length ≤ 140737488351232 ∧ l.length * P.bytesOf e ≤ 140737488351232) ∧ l.length ≤ cap ∧ (∀ b ∈ l, Q b) ∧ ∃ b o, (l.length = 0 ∨ p = some ⟨b, o, none⟩) ∧ ∀ i (hi : i < l.length), b < w.heap.size ∧ Cells w ⟨b, o + i * sz, none⟩ (f l[i]) := fun n hn cs x h hw => by
  rcases DataW.trod_slice ht h with ⟨rfl, _⟩ | ⟨a, len, cap, elems, rest, n, rfl, rfl, hx, _, hlc, hcm, hlen, hel, _, _⟩
  · exact ⟨none, 0, [], rfl, ⟨by simp, by simp⟩, by simp, by simp, 0, 0, .inl rfl, fun i hi => by simp at hi⟩
  · subst hx
    have hw' : ∀ m, m ∈ ((elems.map (·.1)).length + (rest.map (·.1)).length) * P.bytesOf e :: (DataW.weightsAll P e (elems.map (·.1)) ++ DataW.weightsAll P e (rest.map (·.1))) → m ≤ reachBytes := fun m hm => by
      refine hw m ?_
      simp only [DataW.weights, ht]
      exact hm
    have hb := Nat.le_of_ble_eq_true hb
    have hlb : len ≤ 140737488351232 ∧ len * P.bytesOf e ≤ 140737488351232 := by
      have h1 := hw' _ List.mem_cons_self
      simp only [List.length_map] at h1
      have : elems.length * 1 ≤ (elems.length + rest.length) * P.bytesOf e := Nat.mul_le_mul (Nat.le_add_right _ _) hb
      have h2 : elems.length * P.bytesOf e ≤ (elems.length + rest.length) * P.bytesOf e := Nat.mul_le_mul (Nat.le_add_right _ _) (Nat.le_refl _)
      have hr : reachBytes = 140737488351232 := rfl
      rw [← hlen]
      omega
    have each : ∀ i, i < len → ∃ m : β, Q m ∧ (a.add (i * sz)).spot = none ∧ (a.add (i * sz)).block < w.heap.size ∧ Cells w ⟨(a.add (i * sz)).block, (a.add (i * sz)).off, none⟩ (f m) := fun i hi => by
      have h1 := hel i hi
      rw [hc, List.getElem?_eq_getElem (by omega), Option.bind_eq_some_iff] at h1
      obtain ⟨cs, h2, h3⟩ := h1
      obtain ⟨m, hq, rfl⟩ := ho n (by omega) _ _ h3 (wgt_mem (ds := elems.map (·.1)) (fun m hm => hw' m (List.mem_cons_of_mem _ (List.mem_append_left _ hm))) _ (List.mem_map_of_mem (List.getElem_mem _)))
      exact ⟨m, hq, cells_of_run hp h2⟩
    obtain ⟨l, h1, h2⟩ := list_of i0 each
    refine ⟨some a, cap, l, by rw [h1], by rw [h1]; exact hlb, by omega, fun b hb => ?_, a.block, a.off, ?_, fun i hi => ?_⟩
    · obtain ⟨i, hi, rfl⟩ := List.getElem_of_mem hb
      exact (h2 i hi).1
    · by_cases h00 : l.length = 0
      · exact .inl h00
      · right
        have hsp : a.spot = none := by
          have := (h2 0 (by omega)).2.1
          simpa [Addr.add] using this
        obtain ⟨b, o, s⟩ := a
        dsimp only at hsp
        subst hsp
        rfl
    · have hsp : a.spot = none := by
        have := (h2 0 (by omega)).2.1
        simpa [Addr.add] using this
      obtain ⟨b, o, s⟩ := a
      dsimp only at hsp
      subst hsp
      have := (h2 i hi).2.2
      rw [add_none] at this
      exact this
theorem row_of {α : Type} {E : Enc α} {p : Option Addr} {l : List α} (h : ∃ b o, (l.length = 0 ∨ p = some ⟨b, o, none⟩) ∧ ∀ i (hi : i < l.length), b < w.heap.size ∧ Cells w ⟨b, o + i * E.sz, none⟩ (E.enc l[i])) : RowB E w.heap.size w p l := by
  obtain ⟨b, o, hp, hc⟩ := h
  by_cases h0 : l = []
  · exact .inl h0
  · have hl0 : 0 < l.length := List.length_pos_iff.2 h0
    rcases hp with hp | rfl
    · omega
    · exact RowB.of_slr (.inr ⟨b, o, rfl, (hc 0 hl0).1, fun i hi => (hc i hi).2⟩)
end
section
variable {H : Type} {enc : TypeId × Value → H} {w : World} {base : Nat} {spare : Nat → Bool} {held : Bool} {F : Nat}
theorem opens_arg : Opens enc Tryz.prog w base spare held 168 fun cs => ∃ (r : Bool) (n : UInt8), cs = [.bool r, u8 n] := fun fuel cs x h => by
  obtain ⟨xs, m, rfl, rfl, hl, hx, hel⟩ := DataW.trod_struct Tryz.underlying168 h
  rw [cC 168 2 (by kernel_rfl)] at hl
  obtain ⟨b0, e0⟩ := Opens.field (o := 0) (i := 0) hel hx rfl rfl cells4 (opens_bool Tryz.underlying4)
  obtain ⟨b1, e1⟩ := Opens.field (o := 1) (i := 1) hel hx rfl rfl cells5 (opens_u8 Tryz.underlying5)
  refine ⟨b0, b1, ?_⟩
  have h0 : cs = cs.drop 0 := rfl
  have h9 : cs.drop 2 = [] := List.drop_of_length_le (by omega)
  rw [h0, cut cs 0 1 1 rfl, cut cs 1 1 2 rfl, e0, e1, h9]
  rfl
theorem opens_ins : Opens enc Tryz.prog w base spare held 170 fun cs => ∃ x : InsD, True ∧ cs = insE.enc x := fun fuel cs x h => by
  obtain ⟨xs, m, rfl, rfl, hl, hx, hel⟩ := DataW.trod_struct Tryz.underlying170 h
  rw [cC 170 10 (by kernel_rfl)] at hl
  obtain ⟨b0, e0⟩ := Opens.field (o := 0) (i := 0) hel hx rfl rfl cells5 (opens_u8 Tryz.underlying5)
  obtain ⟨b1, e1⟩ := Opens.field (o := 1) (i := 1) hel hx rfl rfl cells5 (opens_u8 Tryz.underlying5)
  obtain ⟨b2, e2⟩ := Opens.field (o := 2) (i := 2) hel hx rfl rfl cells5 (opens_u8 Tryz.underlying5)
  obtain ⟨r3, n3, e3⟩ := Opens.field (o := 3) (i := 3) hel hx rfl rfl (cC 168 2 (by kernel_rfl)) opens_arg
  obtain ⟨r4, n4, e4⟩ := Opens.field (o := 5) (i := 4) hel hx rfl rfl (cC 168 2 (by kernel_rfl)) opens_arg
  obtain ⟨b5, e5⟩ := Opens.field (o := 7) (i := 5) hel hx rfl rfl cells5 (opens_u8 Tryz.underlying5)
  obtain ⟨b6, e6⟩ := Opens.field (o := 8) (i := 6) hel hx rfl rfl cells5 (opens_u8 Tryz.underlying5)
  obtain ⟨b7, e7⟩ := Opens.field (o := 9) (i := 7) hel hx rfl rfl cells5 (opens_u8 Tryz.underlying5)
  refine ⟨⟨b0, b1, b2, r3, n3, r4, n4, b5, b6, b7⟩, trivial, ?_⟩
  have h0 : cs = cs.drop 0 := rfl
  have h9 : cs.drop 10 = [] := List.drop_of_length_le (by omega)
  rw [h0, cut cs 0 1 1 rfl, cut cs 1 1 2 rfl, cut cs 2 1 3 rfl, cut cs 3 2 5 rfl, cut cs 5 2 7 rfl, cut cs 7 1 8 rfl, cut cs 8 1 9 rfl, cut cs 9 1 10 rfl, e0, e1, e2, e3, e4, e5, e6, e7, h9]
  rfl
theorem opensW_thr : OpensW enc Tryz.prog w base spare held F 166 fun cs => ∃ x : ThrR, (x.1.length ≤ 140737488351232 ∧ RowB insE w.heap.size w x.2.1 x.1) ∧ cs = thrE.enc x := fun n hn cs x h hw => by
  obtain ⟨p, cap, l, h1, h2, _, _, h3⟩ := opensW_sl (F := n) (⟨0, 0, 0, false, 0, false, 0, 0, 0, 0⟩ : InsD) (f := insE.enc) (Q := fun _ => True) (sz := 10) (by decide) Tryz.underlying166 (by kernel_rfl) (by kernel_rfl) (opensW_of opens_ins) n (Nat.lt_succ_self n) cs x h hw
  exact ⟨(l, p, cap), ⟨h2.1, row_of h3⟩, h1⟩
/-- A condition's reading, of any depth. -/
theorem opensW_cnd : ∀ F, OpensW enc Tryz.prog w base spare held F 27 fun cs => ∃ x : Cnd × Option Addr × Nat, KidsV w.heap.size w x.2.1 x.1.kids ∧ cs = cndCells x.1 x.2.1 x.2.2
  | 0 => fun n hn => absurd hn (Nat.not_lt_zero _)
  | F + 1 => fun n hn cs x h hw => by
    have ih := opensW_cnd F
    have hF : n ≤ F + 1 := by omega
    have hl : cs.length = 5 := by
      obtain ⟨xs, m, _, _, hl, _, _⟩ := DataW.trod_struct Tryz.underlying27 h
      rw [cC 27 5 (by kernel_rfl)] at hl
      exact hl
    obtain ⟨b0, e0⟩ := OpensW.field (F := F + 1) (o := 0) (i := 0) Tryz.underlying27 h hw hF rfl rfl rfl cells5 (opensW_of (opens_u8 Tryz.underlying5))
    obtain ⟨b1, e1⟩ := OpensW.field (F := F + 1) (o := 1) (i := 1) Tryz.underlying27 h hw hF rfl rfl rfl cells5 (opensW_of (opens_u8 Tryz.underlying5))
    obtain ⟨b2, e2⟩ := OpensW.field (F := F + 1) (o := 2) (i := 2) Tryz.underlying27 h hw hF rfl rfl rfl cells5 (opensW_of (opens_u8 Tryz.underlying5))
    obtain ⟨b3, e3⟩ := OpensW.field (F := F + 1) (o := 3) (i := 3) Tryz.underlying27 h hw hF rfl rfl rfl cells5 (opensW_of (opens_u8 Tryz.underlying5))
    obtain ⟨p, cap, l, e4, hll, _, hQ, b, o, hp, hc⟩ := OpensW.field (F := F + 1) (o := 4) (i := 4) Tryz.underlying27 h hw hF rfl rfl rfl (cC 25 1 (by kernel_rfl))
      (opensW_sl (F := F) ((.mk 0 0 0 0 [], none, 0) : Cnd × Option Addr × Nat) (f := fun x => cndCells x.1 x.2.1 x.2.2) (Q := fun x => KidsV w.heap.size w x.2.1 x.1.kids) (sz := 5) (by decide) Tryz.underlying25 (by kernel_rfl) (by kernel_rfl) ih)
    refine ⟨(.mk b0 b1 b2 b3 (l.map (·.1)), p, cap), ?_, ?_⟩
    · refine .mk p (l.map (·.1)) (by rw [List.length_map]; have := hll.2; rw [show Tryz.prog.bytesOf 27 = 32 by kernel_rfl] at this; exact this) b o (by rw [List.length_map]; exact hp) (fun i => (l.getD i (.mk 0 0 0 0 [], none, 0)).2.1) (fun i => (l.getD i (.mk 0 0 0 0 [], none, 0)).2.2) (fun i hi => ?_) (fun i hi => ?_)
      · have hi' : i < l.length := by rw [List.length_map] at hi; exact hi
        have e : l.getD i (.mk 0 0 0 0 [], none, 0) = l[i] := by rw [List.getD_eq_getElem?_getD, List.getElem?_eq_getElem hi']; rfl
        rw [e, List.getElem_map]
        exact hc i hi'
      · have hi' : i < l.length := by rw [List.length_map] at hi; exact hi
        have e : l.getD i (.mk 0 0 0 0 [], none, 0) = l[i] := by rw [List.getD_eq_getElem?_getD, List.getElem?_eq_getElem hi']; rfl
        rw [e, List.getElem_map]
        exact hQ _ (List.getElem_mem hi')
    · have h0 : cs = cs.drop 0 := rfl
      have h9 : cs.drop 5 = [] := List.drop_of_length_le (by omega)
      rw [h0, cut cs 0 1 1 rfl, cut cs 1 1 2 rfl, cut cs 2 1 3 rfl, cut cs 3 1 4 rfl, cut cs 4 1 5 rfl, e0, e1, e2, e3, e4, h9]
      simp [cndCells, Cnd.kind, Cnd.thread, Cnd.n, Cnd.val, Cnd.kids]
theorem opensW_prg : OpensW enc Tryz.prog w base spare held F 29 fun cs => ∃ p : Prg, PrgV w.heap.size w cs p := fun n hn cs x h hw => by
  have hF : n ≤ n + 1 := Nat.le_succ n
  have hl : cs.length = 10 := by
    obtain ⟨xs, m, _, _, hl, _, _⟩ := DataW.trod_struct Tryz.underlying29 h
    rw [cC 29 10 (by kernel_rfl)] at hl
    exact hl
  obtain ⟨nm, k0, e0⟩ := OpensW.field (F := n + 1) (o := 0) (i := 0) Tryz.underlying29 h hw hF rfl rfl rfl (cC 9 1 (by kernel_rfl)) (opensW_str Tryz.underlying9)
  obtain ⟨p1, c1, l1, e1, k1, kc1, q1, r1⟩ := OpensW.field (F := n + 1) (o := 1) (i := 1) Tryz.underlying29 h hw hF rfl rfl rfl (cC 22 1 (by kernel_rfl))
    (opensW_sl (F := n) ([] : List UInt8) (f := namE.enc) (Q := fun s => s.length ≤ 140737488351232) (sz := 1) (by decide) Tryz.underlying22 (by kernel_rfl) (by kernel_rfl) (opensW_str Tryz.underlying9))
  obtain ⟨p2, c2, l2, e2, k2, kc2, q2, r2⟩ := OpensW.field (F := n + 1) (o := 2) (i := 2) Tryz.underlying29 h hw hF rfl rfl rfl (cC 23 1 (by kernel_rfl))
    (opensW_sl (F := n) (0 : UInt8) (f := byteE.enc) (Q := fun _ => True) (sz := 1) (by decide) Tryz.underlying23 cells5 (by kernel_rfl) (opensW_of (fun fuel cs x h => by
      obtain ⟨b, hb⟩ := opens_u8 Tryz.underlying5 fuel cs x h
      exact ⟨b, trivial, hb⟩)))
  obtain ⟨p3, c3, l3, e3, k3, kc3, q3, r3⟩ := OpensW.field (F := n + 1) (o := 3) (i := 3) Tryz.underlying29 h hw hF rfl rfl rfl (cC 24 1 (by kernel_rfl))
    (opensW_sl (F := n) (([], none, 0) : ThrR) (f := thrE.enc) (Q := fun x => x.1.length ≤ 140737488351232 ∧ RowB insE w.heap.size w x.2.1 x.1) (sz := 1) (by decide) Tryz.underlying24 (by kernel_rfl) (by kernel_rfl) opensW_thr)
  obtain ⟨b4, e4⟩ := OpensW.field (F := n + 1) (o := 4) (i := 4) Tryz.underlying29 h hw hF rfl rfl rfl cells5 (opensW_of (opens_u8 Tryz.underlying5))
  obtain ⟨⟨c, p4, c4⟩, hk, e5⟩ := OpensW.field (F := n + 1) (o := 5) (i := 5) Tryz.underlying29 h hw hF rfl rfl rfl (cC 27 5 (by kernel_rfl)) (opensW_cnd (n + 1))
  refine ⟨⟨nm, l1, l2, l3.map (·.1), b4, c⟩, ⟨k0, k1.1, q1, k2.1, by rw [List.length_map]; exact k3.1, fun l hl => ?_⟩, p1, c1, p2, c2, p3, c3, p4, c4, ?_, row_of r1, row_of r2, ⟨l3, rfl, row_of r3, fun x hx => (q3 x hx).2⟩, hk, kc1⟩
  · obtain ⟨x, hx, rfl⟩ := List.mem_map.1 hl
    exact (q3 x hx).1
  · have h0 : cs = cs.drop 0 := rfl
    have h9 : cs.drop 10 = [] := List.drop_of_length_le (by omega)
    rw [h0, cut cs 0 1 1 rfl, cut cs 1 1 2 rfl, cut cs 2 1 3 rfl, cut cs 3 1 4 rfl, cut cs 4 1 5 rfl, cut cs 5 5 10 rfl, e0, e1, e2, e3, e4, e5, h9]
    simp [prgCells, cndCells]
theorem opens_geo : Opens enc Tryz.prog w base spare held 31 fun cs => ∃ g : Geo, cs = g.enc := fun fuel cs x h => by
  obtain ⟨xs, m, rfl, rfl, hl, hx, hel⟩ := DataW.trod_struct Tryz.underlying31 h
  rw [cC 31 5 (by kernel_rfl)] at hl
  obtain ⟨b0, e0⟩ := Opens.field (o := 0) (i := 0) hel hx rfl rfl (cC 3 1 (by kernel_rfl)) (opens_int Tryz.underlying3)
  obtain ⟨b1, e1⟩ := Opens.field (o := 1) (i := 1) hel hx rfl rfl (cC 3 1 (by kernel_rfl)) (opens_int Tryz.underlying3)
  obtain ⟨b2, e2⟩ := Opens.field (o := 2) (i := 2) hel hx rfl rfl (cC 3 1 (by kernel_rfl)) (opens_int Tryz.underlying3)
  obtain ⟨b3, e3⟩ := Opens.field (o := 3) (i := 3) hel hx rfl rfl (cC 3 1 (by kernel_rfl)) (opens_int Tryz.underlying3)
  obtain ⟨b4, e4⟩ := Opens.field (o := 4) (i := 4) hel hx rfl rfl (cC 3 1 (by kernel_rfl)) (opens_int Tryz.underlying3)
  refine ⟨⟨b0, b1, b2, b3, b4⟩, ?_⟩
  have h0 : cs = cs.drop 0 := rfl
  have h9 : cs.drop 5 = [] := List.drop_of_length_le (by omega)
  rw [h0, cut cs 0 1 1 rfl, cut cs 1 1 2 rfl, cut cs 2 1 3 rfl, cut cs 3 1 4 rfl, cut cs 4 1 5 rfl, e0, e1, e2, e3, e4, h9]
  rfl
theorem opens_rules : Opens enc Tryz.prog w base spare held 33 fun cs => ∃ m v : UInt8, cs[0]? = some (u8 m) ∧ cs[1]? = some (u8 v) := fun fuel cs x h => by
  obtain ⟨xs, m, rfl, rfl, hl, hx, hel⟩ := DataW.trod_struct Tryz.underlying33 h
  obtain ⟨b0, e0⟩ := Opens.field (o := 0) (i := 0) hel hx rfl rfl cells5 (opens_u8 Tryz.underlying5)
  obtain ⟨b1, e1⟩ := Opens.field (o := 1) (i := 1) hel hx rfl rfl cells5 (opens_u8 Tryz.underlying5)
  refine ⟨b0, b1, ?_, ?_⟩
  · have := congrArg (fun l => l[0]?) e0
    simpa using this
  · have := congrArg (fun l => l[0]?) e1
    simpa using this
theorem opensW_wld : OpensW enc Tryz.prog w base spare held F 44 fun cs => ∃ (p : Prg) (g : Geo) (md : UInt8), WldV w.heap.size w cs p g md := fun n hn cs x h hw => by
  have hF : n ≤ n + 1 := Nat.le_succ n
  have hl : cs.length = 585 := by
    obtain ⟨xs, m, _, _, hl, _, _⟩ := DataW.trod_struct Tryz.underlying44 h
    rw [cC 44 585 (by kernel_rfl)] at hl
    exact hl
  obtain ⟨p, hp⟩ := OpensW.field (F := n + 1) (o := 0) (i := 0) Tryz.underlying44 h hw hF rfl rfl rfl (cC 29 10 (by kernel_rfl)) opensW_prg
  obtain ⟨g, e1⟩ := OpensW.field (F := n + 1) (o := 10) (i := 1) Tryz.underlying44 h hw hF rfl rfl rfl (cC 31 5 (by kernel_rfl)) (opensW_of opens_geo)
  obtain ⟨mode, v, _, e2⟩ := OpensW.field (F := n + 1) (o := 15) (i := 2) Tryz.underlying44 h hw hF rfl rfl rfl (cC 33 5 (by kernel_rfl)) (opensW_of opens_rules)
  refine ⟨p, g, v, (cs.drop 0).take 10, cs.drop 15, ?_, hp, ?_, by rw [List.length_drop]; omega⟩
  · rw [← e1, ← cut cs 10 5 15 rfl, ← cut cs 0 10 10 rfl]; rfl
  · rw [List.getElem?_take, if_pos (by decide)] at e2
    exact e2
theorem open_wldv {a : Array Value} {d : DataW H} {p : List MemPlace} (h : DataW.Trod enc Tryz.prog w base spare held 44 (.agg a) d p) (hw : Wgt Tryz.prog 44 d) : ∃ (p : Prg) (g : Geo) (md : UInt8), WldV w.heap.size w a.toList p g md := by
  obtain ⟨fuel, h⟩ := h
  exact opensW_wld (F := fuel + 1) fuel (Nat.lt_succ_self _) _ _ h hw
end
end Go.Proofs.YthgmcegmgjoafaaGreatDoor
namespace Go.Proofs.YthgmcegmgjoafaaGreatDoor
open Go.Vc Go.RowKit Go.Sei
open Go.ChangeShapes Go.WideShapes Go.ChangeAt
set_option linter.unusedVariables false

theorem open_byte {P : Program} {w : World} {r : Reach} {base : Nat} {t : TypeId} {v : Value} (ht : P.underlying t = some (.int .u8)) (h : Value.okWide P w r base t v) : ∃ b : UInt8, v = u8 b := by
  unfold Value.okWide at h
  rw [ht] at h
  cases v with
  | int k n =>
    have h1 : k = .u8 ∧ IntKind.has .u8 n := by
      simp only [Cell.okWide, Cell.ok, ht] at h
      obtain ⟨rfl, h⟩ := h
      exact ⟨rfl, h⟩
    obtain ⟨rfl, h2⟩ := h1
    have h3 : 0 ≤ n ∧ n ≤ 255 := ⟨by have := h2.1; simpa [IntKind.min, IntKind.signed, IntKind.bits] using this, by have := h2.2; simpa [IntKind.max, IntKind.signed, IntKind.bits] using this⟩
    have e : ((UInt8.ofNat n.toNat).toNat : Int) = n := by
      rw [UInt8.toNat_ofNat']; omega
    exact ⟨UInt8.ofNat n.toNat, by rw [u8, e]⟩
  | _ => simp_all [Cell.okWide, Cell.ok]
abbrev seatLaid : List (String × DataW Unit) := [("seisin/geo.bounds", Rows.laid_seisin_geo_bounds), ("seisin/check.needs", Rows.laid_seisin_check_needs)]
theorem globt_of_laid {W : World} (h : laidMetH Tryz.prog seatLaid W) (hsh : W.ShapedOpen Tryz.prog) : GlobT W := by
  have h0 : laidMet Tryz.prog seatLaid W := h
  have h1 := h0.tail
  have bnd : Cells W ⟨2, 0, none⟩ (bndL.map i64) := by
    obtain ⟨ps, ⟨g', t', cs, fuel, p, q, hg', ht', hv, hd, _, _⟩, _⟩ := h0
    obtain rfl := Option.some.inj ((show Tryz.prog.globalNamed "seisin/geo.bounds" = some 2 by kernel_rfl).symm.trans hg')
    obtain rfl := Option.some.inj ((show (Tryz.prog.globals[2]?).map (·.type) = some 185 by kernel_rfl).symm.trans ht')
    obtain ⟨bs, h1, h2, h3⟩ := open_is Tryz.underlying185 Tryz.underlying3 (by kernel_rfl) (by kernel_rfl) hd
    have hbs : bs = bndL := by
      match bs, h1 with
      | [b0, b1, b2, b3, b4], _ =>
        simp only [Rows.laid_seisin_geo_bounds, List.map_cons, List.map_nil, DataW.agg.injEq, List.cons.injEq, DataW.lit.injEq, Lit.int.injEq, true_and, and_true] at h3
        simp only [bndL, List.cons.injEq, and_true]
        obtain ⟨a0, a1, a2, a3, a4⟩ := h3
        exact ⟨a0.symm, a1.symm, a2.symm, a3.symm, a4.symm⟩
    subst hbs
    refine cells_mk fun i v hvv => ?_
    have hc := World.var?_cell hg' hv i
    rw [← hvv, ← h2]
    simpa using hc
  have cls : Cells W ⟨3, 0, none⟩ (needL.map u8) := by
    obtain ⟨ps, ⟨g', t', cs, fuel, p, q, hg', ht', hv, hd, _, _⟩, _⟩ := h1
    obtain rfl := Option.some.inj ((show Tryz.prog.globalNamed "seisin/check.needs" = some 3 by kernel_rfl).symm.trans hg')
    obtain rfl := Option.some.inj ((show (Tryz.prog.globals[3]?).map (·.type) = some 236 by kernel_rfl).symm.trans ht')
    obtain ⟨bs, h1, h2, h3⟩ := open_u8s Tryz.underlying236 Tryz.underlying5 (by kernel_rfl) (by kernel_rfl) hd
    have hbs : bs = needL := by
      match bs, h1 with
      | [b0, b1, b2, b3, b4, b5, b6, b7, b8], _ =>
        simp only [Rows.laid_seisin_check_needs, List.map_cons, List.map_nil, DataW.agg.injEq, List.cons.injEq, DataW.lit.injEq, Lit.int.injEq, true_and, and_true] at h3
        simp only [needL, List.cons.injEq, and_true]
        obtain ⟨a0, a1, a2, a3, a4, a5, a6, a7, a8⟩ := h3
        refine ⟨?_, ?_, ?_, ?_, ?_, ?_, ?_, ?_, ?_⟩ <;> (apply UInt8.toNat_inj.1; simp; omega)
    subst hbs
    refine cells_mk fun i v hvv => ?_
    have hc := World.var?_cell hg' hv i
    rw [← hvv, ← h2]
    simpa using hc
  exact ⟨cls, bnd⟩

def lit1 : DataW Unit → List Value
  | .lit (.int k n) => [.int k n]
  | .lit (.string s) => [.string ⟨s.toArray⟩]
  | _ => []
def lit2 : DataW Unit → List Value
  | .agg ps => ps.flatMap lit1
  | x => lit1 x
def lit3 : DataW Unit → List Value
  | .agg ps => ps.flatMap lit2
  | x => lit1 x
def setG (h : Array Obj) (g : Nat) (cs : List Value) : Array Obj := h.modify g fun
  | .cells _ t frozen => .cells cs.toArray t frozen
  | o => o
def layH (h : Array Obj) : Array Obj :=
  let h1 := setG h 2 (lit3 Rows.laid_seisin_geo_bounds)
  setG h1 3 (lit3 Rows.laid_seisin_check_needs)
noncomputable def laidWorld (os : Os) : World :=
  { World.holding Tryz.prog os ⟨#[], #[], []⟩ with heap := layH (World.holding Tryz.prog os ⟨#[], #[], []⟩).heap }
theorem laidWorld_met (os : Os) (args : Array Value) : laidMetH Tryz.prog seatLaid ((laidWorld os).forCall (fun _ _ => 0) ⟨#[], args, []⟩).memory := by
  show laidMet Tryz.prog seatLaid _
  exact laidMet_of_run' 8 (by kernel_rfl) (by kernel_rfl)
end Go.Proofs.YthgmcegmgjoafaaGreatDoor
namespace Go.Proofs.YthgmcegmgjoafaaGreatDoor
open Go.Vc Go.RowKit Go.Sei
open Go.ChangeShapes Go.WideShapes Go.ChangeAt
set_option linter.unusedVariables false

theorem flat_flat {α β : Type} (f : α → List β) : ∀ l : List (List α), l.flatMap (fun x => x.flatMap f) = l.flatten.flatMap f
  | [] => rfl
  | a :: r => by rw [List.flatMap_cons, flat_flat f r, List.flatten_cons, List.flatMap_append]
def zeroCor : Cor := ⟨0, 0, 0, 0, 0, 0, 0, 0, 0, [], false, false⟩
def zeroLin : Lin := ⟨0, 0, 0, false, 0, 0, 0, 0⟩
def zeroNte : Nte := ⟨0, 0, 0, 0, 0, 0, 0⟩
def zeroCac : Cac := ⟨[], [], 0, 0, 0, 0⟩
def zeroH : Hom := eHom
theorem cells28 : Tryz.prog.cellsOf 51 = 4 := by kernel_rfl
theorem cells30 : Tryz.prog.cellsOf 53 = 11 := by kernel_rfl
section
variable {H : Type} {enc : TypeId × Value → H} {P : Program} {w : World} {base : Nat} {spare : Nat → Bool} {held : Bool} {fuel : Nat} {t e : TypeId} {cs : List Value} {x : DataW H × List MemPlace}
theorem opens_i8 (ht : P.underlying t = some (.int .i8)) : Opens enc P w base spare held t fun cs => ∃ b : UInt8, cs = [.int .i8 (s8 b)] := fun fuel cs x h => by
  obtain ⟨n, rfl, _, hw⟩ := DataW.trod_int ht h
  have hb : -128 ≤ n ∧ n ≤ 127 := by
    simp only [Lit.wf, decide_eq_true_eq, Bool.and_eq_true] at hw
    first
      | exact ⟨by simpa [IntKind.min, IntKind.signed, IntKind.bits] using hw.1, by simpa [IntKind.max, IntKind.signed, IntKind.bits] using hw.2⟩
      | (simp [IntKind.min, IntKind.max, IntKind.signed, IntKind.bits] at hw; omega)
  refine ⟨UInt8.ofNat (n % 256).toNat, ?_⟩
  have e : ((UInt8.ofNat (n % 256).toNat).toNat : Int) = n % 256 := by rw [UInt8.toNat_ofNat']; omega
  unfold s8
  split <;> (congr 2; omega)
end
section
variable {H : Type} {enc : TypeId × Value → H} {w : World} {base : Nat} {spare : Nat → Bool} {held : Bool} {fuel : Nat} {cs : List Value} {x : DataW H × List MemPlace}
set_option maxRecDepth 100000 in
theorem open_msg (h : DataW.trod enc Tryz.prog w base spare held fuel 53 cs = some x) : ∃ m : Msg, cs = m.enc := by
  obtain ⟨xs, n, rfl, rfl, hl, hx, hel⟩ := DataW.trod_struct Tryz.underlying53 h
  rw [cells30] at hl
  have hx : xs.length = 8 := hx
  have e0 : DataW.trod enc Tryz.prog w base spare held n 5 ((cs.drop 0).take (Tryz.prog.cellsOf 5)) = xs[0]? := hel 0 _ rfl
  have e1 : DataW.trod enc Tryz.prog w base spare held n 5 ((cs.drop 1).take (Tryz.prog.cellsOf 5)) = xs[1]? := hel 1 _ rfl
  have e2 : DataW.trod enc Tryz.prog w base spare held n 5 ((cs.drop 2).take (Tryz.prog.cellsOf 5)) = xs[2]? := hel 2 _ rfl
  have e3 : DataW.trod enc Tryz.prog w base spare held n 5 ((cs.drop 3).take (Tryz.prog.cellsOf 5)) = xs[3]? := hel 3 _ rfl
  have e4 : DataW.trod enc Tryz.prog w base spare held n 5 ((cs.drop 4).take (Tryz.prog.cellsOf 5)) = xs[4]? := hel 4 _ rfl
  have e5 : DataW.trod enc Tryz.prog w base spare held n 5 ((cs.drop 5).take (Tryz.prog.cellsOf 5)) = xs[5]? := hel 5 _ rfl
  have e6 : DataW.trod enc Tryz.prog w base spare held n 4 ((cs.drop 6).take (Tryz.prog.cellsOf 4)) = xs[6]? := hel 6 _ rfl
  have e7 : DataW.trod enc Tryz.prog w base spare held n 51 ((cs.drop 7).take (Tryz.prog.cellsOf 51)) = xs[7]? := hel 7 _ rfl
  rw [List.getElem?_eq_getElem (by omega)] at e0 e1 e2 e3 e4 e5 e6 e7
  rw [cells5] at e0 e1 e2 e3 e4 e5
  rw [cells4] at e6
  rw [cells28] at e7
  obtain ⟨b0, e0, _⟩ := open_u8 Tryz.underlying5 e0
  obtain ⟨b1, e1, _⟩ := open_u8 Tryz.underlying5 e1
  obtain ⟨b2, e2, _⟩ := open_u8 Tryz.underlying5 e2
  obtain ⟨b3, e3, _⟩ := open_u8 Tryz.underlying5 e3
  obtain ⟨b4, e4, _⟩ := open_u8 Tryz.underlying5 e4
  obtain ⟨b5, e5, _⟩ := open_u8 Tryz.underlying5 e5
  obtain ⟨b6, e6, _⟩ := DataW.trod_bool Tryz.underlying4 e6
  obtain ⟨bs, h7, e7, _⟩ := open_u8s Tryz.underlying51 Tryz.underlying5 cells5 cells28 e7
  match cs, hl with
  | [c0, c1, c2, c3, c4, c5, c6, c7, c8, c9, c10], _ =>
    match bs, h7 with
    | [d0, d1, d2, d3], _ =>
      simp at e0 e1 e2 e3 e4 e5 e6 e7
      obtain ⟨rfl, rfl, rfl, rfl⟩ := e7
      subst e0 e1 e2 e3 e4 e5 e6
      exact ⟨⟨b0, b1, b2, b3, b4, b5, b6, d0, d1, d2, d3⟩, rfl⟩

theorem open_msgv {a : Array Value} {d : DataW H} {p : List MemPlace} (h : DataW.Trod enc Tryz.prog w base spare held 53 (.agg a) d p) : ∃ m : Msg, Value.agg a = m.val := by
  obtain ⟨fuel, h⟩ := h
  obtain ⟨m, hm⟩ := open_msg h
  have : a.toList = m.enc := hm
  exact ⟨m, by unfold Msg.val; rw [← this]⟩
theorem open_bytes {v : Value} {p : List MemPlace} {d : DataW H} {a0 : Option Addr} {len0 cap0 : Nat} (hv : v = .slice a0 len0 cap0)
    (h : DataW.Trod enc Tryz.prog w base spare held 23 v d p) : ∃ l : List UInt8, l.length = len0 ∧ SlR byteE w a0 l := by
  subst hv
  obtain ⟨fuel, h⟩ := h
  rcases DataW.trod_slice Tryz.underlying23 h with ⟨hcs, _⟩ | ⟨a, len, cap, elems, rest, n, _, hcs, _, _, _, _, hlen, hel, _, _⟩
  · simp [Value.cells] at hcs
    obtain ⟨rfl, rfl, rfl⟩ := hcs
    exact ⟨[], rfl, .nil⟩
  · simp [Value.cells] at hcs
    obtain ⟨rfl, rfl, rfl⟩ := hcs
    have each : ∀ i, i < len0 → ∃ m : UInt8, (a.add (i * 1)).spot = none ∧ (a.add (i * 1)).block < w.heap.size ∧ Cells w ⟨(a.add (i * 1)).block, (a.add (i * 1)).off, none⟩ (byteE.enc m) := fun i hi => by
      have h1 := hel i hi
      rw [cells5, List.getElem?_eq_getElem (by omega), Option.bind_eq_some_iff] at h1
      obtain ⟨cs, h2, h3⟩ := h1
      obtain ⟨m, rfl, _⟩ := open_u8 Tryz.underlying5 h3
      exact ⟨m, cells_of_run (by decide) h2⟩
    by_cases h00 : len0 = 0
    · exact ⟨[], h00.symm, .nil⟩
    have hsp : a.spot = none := by
      obtain ⟨m, h3, _⟩ := each 0 (by omega)
      simpa [Addr.add] using h3
    obtain ⟨b, o, s⟩ := a
    dsimp only at hsp
    subst hsp
    have each : ∀ i, i < len0 → ∃ m : UInt8, b < w.heap.size ∧ Cells w ⟨b, o + i * 1, none⟩ (byteE.enc m) := fun i hi => by
      obtain ⟨m, _, h4, h5⟩ := each i hi
      rw [add_none] at h4 h5
      exact ⟨m, h4, h5⟩
    have all : ∀ k, k ≤ len0 → ∃ l : List UInt8, l.length = k ∧ ∀ i (h : i < l.length), Cells w ⟨b, o + i * 1, none⟩ (byteE.enc l[i]) := by
      intro k
      induction k with
      | zero => exact fun _ => ⟨[], rfl, fun i h => absurd h (by simp)⟩
      | succ k ih =>
        intro hk
        obtain ⟨l, h1, h2⟩ := ih (by omega)
        obtain ⟨m, _, h3⟩ := each k (by omega)
        refine ⟨l ++ [m], by simp [h1], fun i hi => ?_⟩
        by_cases hik : i < l.length
        · rw [List.getElem_append_left hik]; exact h2 i hik
        · have : i = k := by simp [h1] at hi; omega
          subst this
          rw [List.getElem_append_right (by omega)]
          simpa [h1] using h3
    obtain ⟨l, h1, h2⟩ := all len0 (Nat.le_refl _)
    refine ⟨l, h1, ?_⟩
    obtain ⟨m, h4, _⟩ := each 0 (by omega)
    exact .inr ⟨b, o, rfl, h4, h2⟩
theorem open_ints {v : Value} {p : List MemPlace} {d : DataW H} {a0 : Option Addr} {len0 cap0 : Nat} (hv : v = .slice a0 len0 cap0)
    (h : DataW.Trod enc Tryz.prog w base spare held 46 v d p) : ∃ l : List Int, l.length = len0 ∧ SlR Go.Sei.intE w a0 l := by
  subst hv
  obtain ⟨fuel, h⟩ := h
  rcases DataW.trod_slice Tryz.underlying46 h with ⟨hcs, _⟩ | ⟨a, len, cap, elems, rest, n, _, hcs, _, _, _, _, hlen, hel, _, _⟩
  · simp [Value.cells] at hcs
    obtain ⟨rfl, rfl, rfl⟩ := hcs
    exact ⟨[], rfl, .nil⟩
  · simp [Value.cells] at hcs
    obtain ⟨rfl, rfl, rfl⟩ := hcs
    have each : ∀ i, i < len0 → ∃ m : Int, (a.add (i * 1)).spot = none ∧ (a.add (i * 1)).block < w.heap.size ∧ Cells w ⟨(a.add (i * 1)).block, (a.add (i * 1)).off, none⟩ (Go.Sei.intE.enc m) := fun i hi => by
      have h1 := hel i hi
      rw [cC 3 1 (by kernel_rfl), List.getElem?_eq_getElem (by omega), Option.bind_eq_some_iff] at h1
      obtain ⟨cs, h2, h3⟩ := h1
      obtain ⟨m, rfl, _⟩ := open_i Tryz.underlying3 h3
      exact ⟨m, cells_of_run (by decide) h2⟩
    by_cases h00 : len0 = 0
    · exact ⟨[], h00.symm, .nil⟩
    have hsp : a.spot = none := by
      obtain ⟨m, h3, _⟩ := each 0 (by omega)
      simpa [Addr.add] using h3
    obtain ⟨b, o, s⟩ := a
    dsimp only at hsp
    subst hsp
    have each : ∀ i, i < len0 → ∃ m : Int, b < w.heap.size ∧ Cells w ⟨b, o + i * 1, none⟩ (Go.Sei.intE.enc m) := fun i hi => by
      obtain ⟨m, _, h4, h5⟩ := each i hi
      rw [add_none] at h4 h5
      exact ⟨m, h4, h5⟩
    have all : ∀ k, k ≤ len0 → ∃ l : List Int, l.length = k ∧ ∀ i (h : i < l.length), Cells w ⟨b, o + i * 1, none⟩ (Go.Sei.intE.enc l[i]) := by
      intro k
      induction k with
      | zero => exact fun _ => ⟨[], rfl, fun i h => absurd h (by simp)⟩
      | succ k ih =>
        intro hk
        obtain ⟨l, h1, h2⟩ := ih (by omega)
        obtain ⟨m, _, h3⟩ := each k (by omega)
        refine ⟨l ++ [m], by simp [h1], fun i hi => ?_⟩
        by_cases hik : i < l.length
        · rw [List.getElem_append_left hik]; exact h2 i hik
        · have : i = k := by simp [h1] at hi; omega
          subst this
          rw [List.getElem_append_right (by omega)]
          simpa [h1] using h3
    obtain ⟨l, h1, h2⟩ := all len0 (Nat.le_refl _)
    refine ⟨l, h1, ?_⟩
    obtain ⟨m, h4, _⟩ := each 0 (by omega)
    exact .inr ⟨b, o, rfl, h4, h2⟩
end
section
variable {H : Type} {enc : TypeId × Value → H} {w : World} {base : Nat} {spare : Nat → Bool} {held : Bool}
theorem opens_sto : Opens enc Tryz.prog w base spare held 155 fun cs => ∃ x : Sto, True ∧ cs = stoE.enc x := fun fuel cs x h => by
  obtain ⟨xs, m, rfl, rfl, hl, hx, hel⟩ := DataW.trod_struct Tryz.underlying155 h
  rw [cC 155 2 (by kernel_rfl)] at hl
  obtain ⟨b0, e0⟩ := Opens.field (o := 0) (i := 0) hel hx rfl rfl cells5 (opens_u8 Tryz.underlying5)
  obtain ⟨b1, e1⟩ := Opens.field (o := 1) (i := 1) hel hx rfl rfl cells5 (opens_u8 Tryz.underlying5)
  refine ⟨⟨b0, b1⟩, trivial, ?_⟩
  have h0 : cs = cs.drop 0 := rfl
  have h9 : cs.drop 2 = [] := List.drop_of_length_le (by omega)
  rw [h0, cut cs 0 1 1 rfl, cut cs 1 1 2 rfl, e0, e1, h9]
  rfl
theorem opens_lin : Opens enc Tryz.prog w base spare held 143 fun cs => ∃ x : Lin, True ∧ cs = linE.enc x := fun fuel cs x h => by
  obtain ⟨xs, m, rfl, rfl, hl, hx, hel⟩ := DataW.trod_struct Tryz.underlying143 h
  rw [cC 143 8 (by kernel_rfl)] at hl
  obtain ⟨b0, e0⟩ := Opens.field (o := 0) (i := 0) hel hx rfl rfl cells5 (opens_u8 Tryz.underlying5)
  obtain ⟨b1, e1⟩ := Opens.field (o := 1) (i := 1) hel hx rfl rfl cells5 (opens_u8 Tryz.underlying5)
  obtain ⟨b2, e2⟩ := Opens.field (o := 2) (i := 2) hel hx rfl rfl (cC 141 1 (by kernel_rfl)) (opens_i8 Tryz.underlying141)
  obtain ⟨b3, e3⟩ := Opens.field (o := 3) (i := 3) hel hx rfl rfl cells4 (opens_bool Tryz.underlying4)
  obtain ⟨bs, h4, e4⟩ := Opens.field (o := 4) (i := 4) hel hx rfl rfl cells28 (opens_u8s Tryz.underlying51 Tryz.underlying5 cells5 cells28)
  match bs, h4 with
  | [d0, d1, d2, d3], _ =>
  refine ⟨⟨b0, b1, b2, b3, d0, d1, d2, d3⟩, trivial, ?_⟩
  have h0 : cs = cs.drop 0 := rfl
  have h9 : cs.drop 8 = [] := List.drop_of_length_le (by omega)
  rw [h0, cut cs 0 1 1 rfl, cut cs 1 1 2 rfl, cut cs 2 1 3 rfl, cut cs 3 1 4 rfl, cut cs 4 4 8 rfl, e0, e1, e2, e3, e4, h9]
  rfl
theorem opens_nte : Opens enc Tryz.prog w base spare held 147 fun cs => ∃ x : Nte, True ∧ cs = nteE.enc x := fun fuel cs x h => by
  obtain ⟨xs, m, rfl, rfl, hl, hx, hel⟩ := DataW.trod_struct Tryz.underlying147 h
  rw [cC 147 7 (by kernel_rfl)] at hl
  obtain ⟨b0, e0⟩ := Opens.field (o := 0) (i := 0) hel hx rfl rfl cells5 (opens_u8 Tryz.underlying5)
  obtain ⟨b1, e1⟩ := Opens.field (o := 1) (i := 1) hel hx rfl rfl (cC 3 1 (by kernel_rfl)) (opens_int Tryz.underlying3)
  obtain ⟨bs, h4, e2⟩ := Opens.field (o := 2) (i := 2) hel hx rfl rfl (cC 50 4 (by kernel_rfl)) (opens_u8s Tryz.underlying50 Tryz.underlying5 cells5 (cC 50 4 (by kernel_rfl)))
  obtain ⟨b3, e3⟩ := Opens.field (o := 6) (i := 3) hel hx rfl rfl cells5 (opens_u8 Tryz.underlying5)
  match bs, h4 with
  | [d0, d1, d2, d3], _ =>
  refine ⟨⟨b0, b1, d0, d1, d2, d3, b3⟩, trivial, ?_⟩
  have h0 : cs = cs.drop 0 := rfl
  have h9 : cs.drop 7 = [] := List.drop_of_length_le (by omega)
  rw [h0, cut cs 0 1 1 rfl, cut cs 1 1 2 rfl, cut cs 2 4 6 rfl, cut cs 6 1 7 rfl, e0, e1, e2, e3, h9]
  rfl
theorem opens_op : Opens enc Tryz.prog w base spare held 88 fun cs => ∃ k l a b : UInt8, cs = [u8 k, u8 l, u8 a, u8 b] := fun fuel cs x h => by
  obtain ⟨xs, m, rfl, rfl, hl, hx, hel⟩ := DataW.trod_struct Tryz.underlying88 h
  rw [cC 88 4 (by kernel_rfl)] at hl
  obtain ⟨b0, e0⟩ := Opens.field (o := 0) (i := 0) hel hx rfl rfl cells5 (opens_u8 Tryz.underlying5)
  obtain ⟨b1, e1⟩ := Opens.field (o := 1) (i := 1) hel hx rfl rfl cells5 (opens_u8 Tryz.underlying5)
  obtain ⟨b2, e2⟩ := Opens.field (o := 2) (i := 2) hel hx rfl rfl cells5 (opens_u8 Tryz.underlying5)
  obtain ⟨b3, e3⟩ := Opens.field (o := 3) (i := 3) hel hx rfl rfl cells5 (opens_u8 Tryz.underlying5)
  refine ⟨b0, b1, b2, b3, ?_⟩
  have h0 : cs = cs.drop 0 := rfl
  have h9 : cs.drop 4 = [] := List.drop_of_length_le (by omega)
  rw [h0, cut cs 0 1 1 rfl, cut cs 1 1 2 rfl, cut cs 2 1 3 rfl, cut cs 3 1 4 rfl, e0, e1, e2, e3, h9]
  rfl
theorem opens_cac : Opens enc Tryz.prog w base spare held 150 fun cs => ∃ x : Cac, (x.ways.length = 16 ∧ x.notes.length = 4) ∧ cs = cacCells x := fun fuel cs x h => by
  obtain ⟨xs, m, rfl, rfl, hl, hx, hel⟩ := DataW.trod_struct Tryz.underlying150 h
  rw [cC 150 160 (by kernel_rfl)] at hl
  have row : Opens enc Tryz.prog w base spare held 144 fun cs => ∃ bs : List Lin, bs.length = 4 ∧ (∀ b ∈ bs, True) ∧ cs = bs.flatMap linE.enc := opens_arr zeroLin (sz := 8) Tryz.underlying144 (by kernel_rfl) (by kernel_rfl) opens_lin
  have ways := opens_arr (enc := enc) (w := w) (base := base) (spare := spare) (held := held) (β := List Lin) [] (f := fun bs => bs.flatMap linE.enc) (Q := fun bs => bs.length = 4) (n := 4) (sz := 32) Tryz.underlying145 (by kernel_rfl) (by kernel_rfl) (fun fuel cs x h => by
    obtain ⟨bs, h1, _, h2⟩ := row fuel cs x h
    exact ⟨bs, h1, h2⟩)
  obtain ⟨wss, w1, w2, e0⟩ := Opens.field (o := 0) (i := 0) hel hx rfl rfl (cC 145 128 (by kernel_rfl)) ways
  obtain ⟨ns, n1, _, e1⟩ := Opens.field (o := 128) (i := 1) hel hx rfl rfl (cC 148 28 (by kernel_rfl)) (opens_arr zeroNte (sz := 7) Tryz.underlying148 (by kernel_rfl) (by kernel_rfl) opens_nte)
  obtain ⟨k, l, a, b, e2⟩ := Opens.field (o := 156) (i := 2) hel hx rfl rfl (cC 88 4 (by kernel_rfl)) opens_op
  have hfl : wss.flatten.length = 16 := by
    match wss, w1 with
    | [a, b, c, d], _ =>
      have := w2 a (by simp); have := w2 b (by simp); have := w2 c (by simp); have := w2 d (by simp)
      simp only [List.flatten_cons, List.flatten_nil, List.length_append, List.length_nil]; omega
  refine ⟨⟨wss.flatten, ns, k, l, a, b⟩, ⟨hfl, n1⟩, ?_⟩
  have h0 : cs = cs.drop 0 := rfl
  have h9 : cs.drop 160 = [] := List.drop_of_length_le (by omega)
  rw [h0, cut cs 0 128 128 rfl, cut cs 128 28 156 rfl, cut cs 156 4 160 rfl, e0, e1, e2, h9, flat_flat]
  simp [cacCells, opCells]
theorem opens_view : Opens enc Tryz.prog w base spare held 70 fun cs => ∃ (k : UInt8) (n : Nat) (b : Bool), n < 18446744073709551616 ∧ cs = [u8 k, .int .u64 (n : Int), .bool b] := fun fuel cs x h => by
  obtain ⟨xs, m, rfl, rfl, hl, hx, hel⟩ := DataW.trod_struct Tryz.underlying70 h
  rw [cC 70 3 (by kernel_rfl)] at hl
  obtain ⟨b0, e0⟩ := Opens.field (o := 0) (i := 0) hel hx rfl rfl cells5 (opens_u8 Tryz.underlying5)
  obtain ⟨n, hn, e1⟩ := Opens.field (o := 1) (i := 1) hel hx rfl rfl (cC 68 1 (by kernel_rfl)) (opens_u64 Tryz.underlying68)
  obtain ⟨b2, e2⟩ := Opens.field (o := 2) (i := 2) hel hx rfl rfl cells4 (opens_bool Tryz.underlying4)
  refine ⟨b0, n, b2, hn, ?_⟩
  have h0 : cs = cs.drop 0 := rfl
  have h9 : cs.drop 3 = [] := List.drop_of_length_le (by omega)
  rw [h0, cut cs 0 1 1 rfl, cut cs 1 1 2 rfl, cut cs 2 1 3 rfl, e0, e1, e2, h9]
  rfl
theorem opens_hom : Opens enc Tryz.prog w base spare held 72 fun cs => ∃ x : Hom, True ∧ cs = homE.enc x := fun fuel cs x h => by
  obtain ⟨xs, m, rfl, rfl, hl, hx, hel⟩ := DataW.trod_struct Tryz.underlying72 h
  rw [cC 72 11 (by kernel_rfl)] at hl
  obtain ⟨b0, e0⟩ := Opens.field (o := 0) (i := 0) hel hx rfl rfl cells5 (opens_u8 Tryz.underlying5)
  obtain ⟨b1, e1⟩ := Opens.field (o := 1) (i := 1) hel hx rfl rfl cells5 (opens_u8 Tryz.underlying5)
  obtain ⟨k, n, al, hn, e2⟩ := Opens.field (o := 2) (i := 2) hel hx rfl rfl (cC 70 3 (by kernel_rfl)) opens_view
  obtain ⟨b3, e3⟩ := Opens.field (o := 5) (i := 3) hel hx rfl rfl cells5 (opens_u8 Tryz.underlying5)
  obtain ⟨b4, e4⟩ := Opens.field (o := 6) (i := 4) hel hx rfl rfl cells5 (opens_u8 Tryz.underlying5)
  obtain ⟨bs, h4, e5⟩ := Opens.field (o := 7) (i := 5) hel hx rfl rfl cells28 (opens_u8s Tryz.underlying51 Tryz.underlying5 cells5 cells28)
  match bs, h4 with
  | [d0, d1, d2, d3], _ =>
  have by8 : ∀ k : Nat, (UInt8.ofNat (k % 256)).toNat = k % 256 := fun k => by rw [UInt8.toNat_ofNat']; omega
  refine ⟨⟨b0, b1, k, UInt8.ofNat (n % 256), UInt8.ofNat (n / 256 % 256), UInt8.ofNat (n / 65536 % 256), UInt8.ofNat (n / 16777216 % 256), UInt8.ofNat (n / 4294967296 % 256), UInt8.ofNat (n / 1099511627776 % 256), UInt8.ofNat (n / 281474976710656 % 256), UInt8.ofNat (n / 72057594037927936 % 256), al, b3, b4, d0, d1, d2, d3⟩, trivial, ?_⟩
  have h0 : cs = cs.drop 0 := rfl
  have h9 : cs.drop 11 = [] := List.drop_of_length_le (by omega)
  rw [h0, cut cs 0 1 1 rfl, cut cs 1 1 2 rfl, cut cs 2 3 5 rfl, cut cs 5 1 6 rfl, cut cs 6 1 7 rfl, cut cs 7 4 11 rfl, e0, e1, e2, e3, e4, e5, h9]
  have e : leM ⟨b0, b1, k, UInt8.ofNat (n % 256), UInt8.ofNat (n / 256 % 256), UInt8.ofNat (n / 65536 % 256), UInt8.ofNat (n / 16777216 % 256), UInt8.ofNat (n / 4294967296 % 256), UInt8.ofNat (n / 1099511627776 % 256), UInt8.ofNat (n / 281474976710656 % 256), UInt8.ofNat (n / 72057594037927936 % 256), al, b3, b4, d0, d1, d2, d3⟩ = n := by
    unfold leM
    simp only [by8]
    omega
  simp only [homE, e]
  rfl
theorem opens_core : Opens enc Tryz.prog w base spare held 134 fun cs => ∃ x : Cor × Option Addr × Nat, (x.1.buf.length ≤ 9223372036854775807 ∧ RowB stoE w.heap.size w x.2.1 x.1.buf) ∧ cs = corCells x.1 (.slice x.2.1 x.1.buf.length x.2.2) := fun fuel cs x h => by
  obtain ⟨xs, m, rfl, rfl, hl, hx, hel⟩ := DataW.trod_struct Tryz.underlying134 h
  rw [cC 134 12 (by kernel_rfl)] at hl
  obtain ⟨b0, e0⟩ := Opens.field (o := 0) (i := 0) hel hx rfl rfl cells5 (opens_u8 Tryz.underlying5)
  obtain ⟨bs, h8, e1⟩ := Opens.field (o := 1) (i := 1) hel hx rfl rfl (cC 131 8 (by kernel_rfl)) (opens_u8s Tryz.underlying131 Tryz.underlying5 cells5 (cC 131 8 (by kernel_rfl)))
  obtain ⟨p, cap, l, e2, hlen, _, _, b, o, hp, hc⟩ := Opens.field (o := 9) (i := 2) hel hx rfl rfl (cC 132 1 (by kernel_rfl)) (opens_sl (⟨0, 0⟩ : Sto) (sz := 2) (by decide) Tryz.underlying132 (by kernel_rfl) opens_sto)
  obtain ⟨b3, e3⟩ := Opens.field (o := 10) (i := 3) hel hx rfl rfl cells4 (opens_bool Tryz.underlying4)
  obtain ⟨b4, e4⟩ := Opens.field (o := 11) (i := 4) hel hx rfl rfl cells4 (opens_bool Tryz.underlying4)
  match bs, h8 with
  | [r0, r1, r2, r3, r4, r5, r6, r7], _ =>
  refine ⟨(⟨b0, r0, r1, r2, r3, r4, r5, r6, r7, l, b3, b4⟩, p, cap), ⟨hlen, ?_⟩, ?_⟩
  · rcases hp with hp | rfl
    · exact .inl (List.eq_nil_of_length_eq_zero hp)
    · by_cases h0 : l = []
      · exact .inl h0
      · have hl0 : 0 < l.length := List.length_pos_iff.2 h0
        have hlt := (hc 0 hl0).1
        exact RowB.of_slr (.inr ⟨b, o, rfl, hlt, fun i hi => (hc i hi).2⟩)
  · have h0 : cs = cs.drop 0 := rfl
    have h9 : cs.drop 12 = [] := List.drop_of_length_le (by omega)
    rw [h0, cut cs 0 1 1 rfl, cut cs 1 8 9 rfl, cut cs 9 1 10 rfl, cut cs 10 1 11 rfl, cut cs 11 1 12 rfl, e0, e1, e2, e3, e4, h9]
    rfl
/-- The bounds of what was read. -/
structure LensOk (s : Sy) : Prop where
  c : s.cores.length ≤ 9223372036854775807
theorem opens_sys : Opens enc Tryz.prog w base spare held 75 fun cs => ∃ s : Sy, SysV w.heap.size w cs s ∧ LensOk s := fun fuel cs x h => by
  obtain ⟨xs, m, rfl, rfl, hl, hx, hel⟩ := DataW.trod_struct Tryz.underlying75 h
  rw [cC 75 69 (by kernel_rfl)] at hl
  obtain ⟨p0, c0, l0, e0, k0, _, q0, b0, o0, hp0, hc0⟩ := Opens.field (o := 0) (i := 0) hel hx rfl rfl (cC 65 1 (by kernel_rfl)) (opens_sl ((zeroCor, none, 0) : Cor × Option Addr × Nat) (f := fun x => corCells x.1 (.slice x.2.1 x.1.buf.length x.2.2)) (sz := 12) (by decide) Tryz.underlying65 (by kernel_rfl) opens_core)
  obtain ⟨p1, c1, l1, e1, k1, _, q1, b1, o1, hp1, hc1⟩ := Opens.field (o := 1) (i := 1) hel hx rfl rfl (cC 66 1 (by kernel_rfl)) (opens_sl zeroCac (sz := 160) (by decide) Tryz.underlying66 (by kernel_rfl) opens_cac)
  obtain ⟨hs, h6, _, e2⟩ := Opens.field (o := 2) (i := 2) hel hx rfl rfl (cC 73 66 (by kernel_rfl)) (opens_arr zeroH (sz := 11) Tryz.underlying73 (by kernel_rfl) (by kernel_rfl) opens_hom)
  obtain ⟨p3, c3, l3, e3, k3, hn3, q3, b3, o3, hp3, hc3⟩ := Opens.field (o := 68) (i := 3) hel hx rfl rfl (cC 45 1 (by kernel_rfl)) (opens_sl (⟨0, 0, 0, 0, 0, 0, false, 0, 0, 0, 0⟩ : Msg) (f := Msg.enc) (Q := fun _ => True) (sz := 11) (by decide) Tryz.underlying45 (by kernel_rfl) (fun fuel cs x h => by
    obtain ⟨m, hm⟩ := open_msg h
    exact ⟨m, trivial, hm⟩))
  refine ⟨⟨l0.map (·.1), l1, hs, l3⟩, ⟨⟨p0, c0, p1, c1, p3, c3, ?_, ⟨b0, o0, by simpa using hp0, fun i hi => ?_⟩, ⟨b1, o1, hp1, fun i hi => ?_⟩, ?_, hn3⟩, h6⟩, ⟨by simpa using k0⟩⟩
  · have h0 : cs = cs.drop 0 := rfl
    have h9 : cs.drop 69 = [] := List.drop_of_length_le (by omega)
    rw [h0, cut cs 0 1 1 rfl, cut cs 1 1 2 rfl, cut cs 2 66 68 rfl, cut cs 68 1 69 rfl, e0, e1, e2, e3, h9]
    simp
  · simp only [List.length_map] at hi
    obtain ⟨g1, g2⟩ := hc0 i hi
    obtain ⟨_, g3⟩ := q0 _ (List.getElem_mem hi)
    simp only [List.getElem_map]
    exact ⟨l0[i].2.1, l0[i].2.2, g1, g2, g3⟩
  · obtain ⟨g1, g2⟩ := hc1 i hi
    obtain ⟨g3, g4⟩ := q1 _ (List.getElem_mem hi)
    exact ⟨g1, g2, g3, g4⟩
  · rcases hp3 with hp | rfl
    · exact .inl (List.eq_nil_of_length_eq_zero hp)
    · by_cases h0 : l3 = []
      · exact .inl h0
      · have hl0 : 0 < l3.length := List.length_pos_iff.2 h0
        have hlt := (hc3 0 hl0).1
        exact RowB.of_slr (E := Msg.E) (.inr ⟨b3, o3, rfl, hlt, fun i hi => (hc3 i hi).2⟩)
theorem open_sysv {a : Array Value} {d : DataW H} {p : List MemPlace} (h : DataW.Trod enc Tryz.prog w base spare held 75 (.agg a) d p) : ∃ s : Sy, SysV w.heap.size w a.toList s ∧ LensOk s := by
  obtain ⟨fuel, h⟩ := h
  exact opens_sys _ _ _ h
theorem lens_sys {a : Array Value} {d : DataW H} {p : List MemPlace} {s : Sy} (h : DataW.Trod enc Tryz.prog w base spare held 75 (.agg a) d p) (hw : Wgt Tryz.prog 75 d) (hS : SysV w.heap.size w a.toList s) : Lens s := by
  obtain ⟨fuel, h⟩ := h
  obtain ⟨⟨p1, c1, p2, c2, p3, c3, hvs, hco, hca, hne, hnil⟩, h6⟩ := hS
  have hH : (s.homes.flatMap homE.enc).length = 66 := by rw [flat_len, h6]; rfl
  have hcs : (Value.agg a).cells.toList = a.toList := rfl
  rw [hcs, hvs] at h
  have k3 : List.take 1 (List.drop 68 (Value.slice p1 s.cores.length c1 :: .slice p2 s.caches.length c2 :: (s.homes.flatMap homE.enc ++ [.slice p3 s.net.length c3]))) = [.slice p3 s.net.length c3] := by
    show List.take 1 (List.drop 66 (s.homes.flatMap homE.enc ++ [.slice p3 s.net.length c3])) = _
    rw [List.drop_append, List.drop_of_length_le (by omega), hH]; rfl
  obtain ⟨n0, y0, e0, w0⟩ := wgt_field (i := 0) (vs := [.slice p1 s.cores.length c1]) Tryz.underlying75 h hw rfl rfl rfl (cC 65 1 (by kernel_rfl)) rfl
  obtain ⟨n1, y1, e1, w1⟩ := wgt_field (i := 1) (vs := [.slice p2 s.caches.length c2]) Tryz.underlying75 h hw rfl rfl rfl (cC 66 1 (by kernel_rfl)) rfl
  obtain ⟨n3, y3, e3, w3⟩ := wgt_field (i := 3) Tryz.underlying75 h hw rfl rfl rfl (cC 45 1 (by kernel_rfl)) k3
  obtain ⟨l0, el0⟩ := wgt_slice Tryz.underlying65 e0 w0 (by kernel_rfl)
  obtain ⟨l1, _⟩ := wgt_slice Tryz.underlying66 e1 w1 (by kernel_rfl)
  obtain ⟨l3, _⟩ := wgt_slice Tryz.underlying45 e3 w3 (by kernel_rfl)
  refine ⟨l0, l1, l3, fun c hc => ?_⟩
  obtain ⟨i, hi, rfl⟩ := List.getElem_of_mem hc
  obtain ⟨aa, cs, n, y, rfl, hcr, htr, hwt⟩ := el0 i hi
  obtain ⟨b, o, hp, hat⟩ := hco
  obtain ⟨q, qc, _, hcb, _⟩ := hat i hi
  rcases hp with hp | hp
  · omega
  simp only [Option.some.injEq] at hp
  subst hp
  rw [cC 134 12 (by kernel_rfl), add_none] at hcr
  obtain ⟨_, _, hcc⟩ := cells_of_run (by decide) hcr
  obtain ⟨_, hcl, _⟩ := World.cells?_some hcr
  have h9 : 9 < cs.length := by omega
  have e9 : cs[9] = .slice q s.cores[i].buf.length qc := by
    have g1 := cells_at hcc (i := 9) (List.getElem?_eq_getElem h9)
    have g2 := cells_at hcb (i := 9) (v := .slice q s.cores[i].buf.length qc) rfl
    exact Option.some.inj (g1.symm.trans g2)
  have k4 : List.take 1 (List.drop 9 cs) = [.slice q s.cores[i].buf.length qc] := by
    rw [List.drop_eq_getElem_cons h9, e9]; rfl
  obtain ⟨n4, y4, e4, w4⟩ := wgt_field (i := 2) Tryz.underlying134 htr hwt rfl rfl rfl (cC 132 1 (by kernel_rfl)) k4
  exact (wgt_slice Tryz.underlying132 e4 w4 (by kernel_rfl)).1
end
end Go.Proofs.YthgmcegmgjoafaaGreatDoor
namespace Go.Proofs.YthgmcegmgjoafaaGreatDoor
open Go.Vc Go.RowKit Go.Sei
open Go.ChangeShapes Go.WideShapes Go.ChangeAt
set_option linter.unusedVariables false

section
variable {H : Type} {enc : TypeId × Value → H} {w : World} {base : Nat} {spare : Nat → Bool} {held : Bool} {F : Nat}
theorem open_msgs {v : Value} {p : List MemPlace} {d : DataW H} {a0 : Option Addr} {len0 cap0 : Nat} (hv : v = .slice a0 len0 cap0)
    (h : DataW.Trod enc Tryz.prog w base spare held 45 v d p) : ∃ l : List Msg, l.length = len0 ∧ SlR Msg.E w a0 l := by
  subst hv
  obtain ⟨fuel, h⟩ := h
  rcases DataW.trod_slice Tryz.underlying45 h with ⟨hcs, _⟩ | ⟨a, len, cap, elems, rest, n, _, hcs, _, _, _, _, hlen, hel, _, _⟩
  · simp [Value.cells] at hcs
    obtain ⟨rfl, rfl, rfl⟩ := hcs
    exact ⟨[], rfl, .nil⟩
  · simp [Value.cells] at hcs
    obtain ⟨rfl, rfl, rfl⟩ := hcs
    have each : ∀ i, i < len0 → ∃ m : Msg, (a.add (i * 11)).spot = none ∧ (a.add (i * 11)).block < w.heap.size ∧ Cells w ⟨(a.add (i * 11)).block, (a.add (i * 11)).off, none⟩ m.enc := fun i hi => by
      have h1 := hel i hi
      rw [cells30, List.getElem?_eq_getElem (by omega), Option.bind_eq_some_iff] at h1
      obtain ⟨cs, h2, h3⟩ := h1
      obtain ⟨m, rfl⟩ := open_msg h3
      exact ⟨m, cells_of_run (by decide) h2⟩
    by_cases h00 : len0 = 0
    · exact ⟨[], h00.symm, .nil⟩
    have hsp : a.spot = none := by
      obtain ⟨m, h3, _⟩ := each 0 (by omega)
      simpa [Addr.add] using h3
    obtain ⟨b, o, s⟩ := a
    dsimp only at hsp
    subst hsp
    have each : ∀ i, i < len0 → ∃ m : Msg, b < w.heap.size ∧ Cells w ⟨b, o + i * 11, none⟩ m.enc := fun i hi => by
      obtain ⟨m, _, h4, h5⟩ := each i hi
      rw [add_none] at h4 h5
      exact ⟨m, h4, h5⟩
    have all : ∀ k, k ≤ len0 → ∃ l : List Msg, l.length = k ∧ ∀ i (h : i < l.length), Cells w ⟨b, o + i * 11, none⟩ l[i].enc := by
      intro k
      induction k with
      | zero => exact fun _ => ⟨[], rfl, fun i h => absurd h (by simp)⟩
      | succ k ih =>
        intro hk
        obtain ⟨l, h1, h2⟩ := ih (by omega)
        obtain ⟨m, _, h3⟩ := each k (by omega)
        refine ⟨l ++ [m], by simp [h1], fun i hi => ?_⟩
        by_cases hik : i < l.length
        · rw [List.getElem_append_left hik]; exact h2 i hik
        · have : i = k := by simp [h1] at hi; omega
          subst this
          rw [List.getElem_append_right (by omega)]
          simp [h1, h3]
    obtain ⟨l, h1, h2⟩ := all len0 (Nat.le_refl _)
    refine ⟨l, h1, ?_⟩
    obtain ⟨m, h4, _⟩ := each 0 (by omega)
    exact .inr ⟨b, o, rfl, h4, h2⟩
theorem opensW_wldn : OpensW enc Tryz.prog w base spare held F 44 fun cs => ∃ (p : Prg) (g : Geo) (md mode : UInt8), WldV w.heap.size w cs p g md ∧ WorV cs g.enc mode := fun n hn cs x h hw => by
  have hF : n ≤ n + 1 := Nat.le_succ n
  have hl : cs.length = 585 := by
    obtain ⟨xs, m, _, _, hl, _, _⟩ := DataW.trod_struct Tryz.underlying44 h
    rw [cC 44 585 (by kernel_rfl)] at hl
    exact hl
  obtain ⟨p, hp⟩ := OpensW.field (F := n + 1) (o := 0) (i := 0) Tryz.underlying44 h hw hF rfl rfl rfl (cC 29 10 (by kernel_rfl)) opensW_prg
  obtain ⟨g, e1⟩ := OpensW.field (F := n + 1) (o := 10) (i := 1) Tryz.underlying44 h hw hF rfl rfl rfl (cC 31 5 (by kernel_rfl)) (opensW_of opens_geo)
  obtain ⟨mode, v, e3, e2⟩ := OpensW.field (F := n + 1) (o := 15) (i := 2) Tryz.underlying44 h hw hF rfl rfl rfl (cC 33 5 (by kernel_rfl)) (opensW_of opens_rules)
  refine ⟨p, g, v, mode, ⟨(cs.drop 0).take 10, cs.drop 15, ?_, hp, ?_, by rw [List.length_drop]; omega⟩, hl, e1, ?_⟩
  · rw [← e1, ← cut cs 10 5 15 rfl, ← cut cs 0 10 10 rfl]; rfl
  · rw [List.getElem?_take, if_pos (by decide)] at e2
    exact e2
  · rw [List.getElem?_take, if_pos (by decide)] at e3
    simpa using e3
theorem open_wldn {a : Array Value} {d : DataW H} {p : List MemPlace} (h : DataW.Trod enc Tryz.prog w base spare held 44 (.agg a) d p) (hw : Wgt Tryz.prog 44 d) : ∃ (p : Prg) (g : Geo) (md mode : UInt8), WldV w.heap.size w a.toList p g md ∧ WorV a.toList g.enc mode := by
  obtain ⟨fuel, h⟩ := h
  exact opensW_wldn (F := fuel + 1) fuel (Nat.lt_succ_self _) _ _ h hw
end
end Go.Proofs.YthgmcegmgjoafaaGreatDoor
namespace Go.Proofs.YthgmcegmgjoafaaGreatDoor
open Go.Vc Go.RowKit Go.Sei
open Go.ChangeShapes Go.WideShapes Go.ChangeAt
set_option linter.unusedVariables false

structure GlobN (W : World) : Prop where
  bnd : BndM W
  needs : GlobC W
  uses : Cells W ⟨0, 0, none⟩ (usesL.map u8)
  cls : Glob W
abbrev seatLaidN : List (String × DataW Unit) := [("seisin/geo.bounds", Rows.laid_seisin_geo_bounds), ("seisin/check.needs", Rows.laid_seisin_check_needs), ("seisin/msg.uses", Rows.laid_seisin_msg_uses), ("seisin/msg.classes", Rows.laid_seisin_msg_classes)]
theorem globN_of_laid {W : World} (h : laidMetH Tryz.prog seatLaidN W) (hsh : W.ShapedOpen Tryz.prog) : GlobN W := by
  have h0 : laidMet Tryz.prog seatLaidN W := h
  have h1 := h0.tail
  have h2 := h1.tail
  have h3 := h2.tail
  have bnd : BndM W := by
    obtain ⟨ps, ⟨g', t', cs, fuel, p, q, hg', ht', hv, hd, _, _⟩, _⟩ := h0
    obtain rfl := Option.some.inj ((show Tryz.prog.globalNamed "seisin/geo.bounds" = some 2 by kernel_rfl).symm.trans hg')
    obtain rfl := Option.some.inj ((show (Tryz.prog.globals[2]?).map (·.type) = some 185 by kernel_rfl).symm.trans ht')
    obtain ⟨bs, h1, h2, h3⟩ := open_is Tryz.underlying185 Tryz.underlying3 (by kernel_rfl) (by kernel_rfl) hd
    have hbs : bs = bndL := by
      match bs, h1 with
      | [b0, b1, b2, b3, b4], _ =>
        simp only [Rows.laid_seisin_geo_bounds, List.map_cons, List.map_nil, DataW.agg.injEq, List.cons.injEq, DataW.lit.injEq, Lit.int.injEq, true_and, and_true] at h3
        simp only [bndL, List.cons.injEq, and_true]
        obtain ⟨a0, a1, a2, a3, a4⟩ := h3
        exact ⟨a0.symm, a1.symm, a2.symm, a3.symm, a4.symm⟩
    subst hbs
    refine cells_mk fun i v hvv => ?_
    have hc := World.var?_cell hg' hv i
    rw [← hvv, ← h2]
    simpa using hc
  have needs : GlobC W := by
    obtain ⟨ps, ⟨g', t', cs, fuel, p, q, hg', ht', hv, hd, _, _⟩, _⟩ := h1
    obtain rfl := Option.some.inj ((show Tryz.prog.globalNamed "seisin/check.needs" = some 3 by kernel_rfl).symm.trans hg')
    obtain rfl := Option.some.inj ((show (Tryz.prog.globals[3]?).map (·.type) = some 236 by kernel_rfl).symm.trans ht')
    obtain ⟨bs, h1, h2, h3⟩ := open_u8s Tryz.underlying236 Tryz.underlying5 (by kernel_rfl) (by kernel_rfl) hd
    have hbs : bs = needL := by
      match bs, h1 with
      | [b0, b1, b2, b3, b4, b5, b6, b7, b8], _ =>
        simp only [Rows.laid_seisin_check_needs, List.map_cons, List.map_nil, DataW.agg.injEq, List.cons.injEq, DataW.lit.injEq, Lit.int.injEq, true_and, and_true] at h3
        simp only [needL, List.cons.injEq, and_true]
        obtain ⟨a0, a1, a2, a3, a4, a5, a6, a7, a8⟩ := h3
        refine ⟨?_, ?_, ?_, ?_, ?_, ?_, ?_, ?_, ?_⟩ <;> (apply UInt8.toNat_inj.1; simp; omega)
    subst hbs
    refine cells_mk fun i v hvv => ?_
    have hc := World.var?_cell hg' hv i
    rw [← hvv, ← h2]
    simpa using hc
  have uses : Cells W ⟨0, 0, none⟩ (usesL.map u8) := by
    obtain ⟨ps, ⟨g', t', cs, fuel, p, q, hg', ht', hv, hd, _, _⟩, _⟩ := h2
    obtain rfl := Option.some.inj ((show Tryz.prog.globalNamed "seisin/msg.uses" = some 0 by kernel_rfl).symm.trans hg')
    obtain rfl := Option.some.inj ((show (Tryz.prog.globals[0]?).map (·.type) = some 121 by kernel_rfl).symm.trans ht')
    obtain ⟨bs, h1, h2, h3⟩ := open_u8s Tryz.underlying121 Tryz.underlying5 (by kernel_rfl) (by kernel_rfl) hd
    have hbs : bs = usesL := by
      match bs, h1 with
      | [b0, b1, b2, b3, b4, b5, b6, b7, b8, b9, b10, b11, b12], _ =>
        simp only [Rows.laid_seisin_msg_uses, List.map_cons, List.map_nil, DataW.agg.injEq, List.cons.injEq, DataW.lit.injEq, Lit.int.injEq, true_and, and_true] at h3
        simp only [usesL, List.cons.injEq, and_true]
        obtain ⟨a0, a1, a2, a3, a4, a5, a6, a7, a8, a9, a10, a11, a12⟩ := h3
        refine ⟨?_, ?_, ?_, ?_, ?_, ?_, ?_, ?_, ?_, ?_, ?_, ?_, ?_⟩ <;> (apply UInt8.toNat_inj.1; simp; omega)
    subst hbs
    refine cells_mk fun i v hvv => ?_
    have hc := World.var?_cell hg' hv i
    rw [← hvv, ← h2]
    simpa using hc
  have cls : Glob W := by
    obtain ⟨ps, ⟨g', t', cs, fuel, p, q, hg', ht', hv, hd, _, _⟩, _⟩ := h3
    obtain rfl := Option.some.inj ((show Tryz.prog.globalNamed "seisin/msg.classes" = some 1 by kernel_rfl).symm.trans hg')
    obtain rfl := Option.some.inj ((show (Tryz.prog.globals[1]?).map (·.type) = some 121 by kernel_rfl).symm.trans ht')
    obtain ⟨bs, h1, h2, h3⟩ := open_u8s Tryz.underlying121 Tryz.underlying5 (by kernel_rfl) (by kernel_rfl) hd
    have hbs : bs = classes := by
      match bs, h1 with
      | [b0, b1, b2, b3, b4, b5, b6, b7, b8, b9, b10, b11, b12], _ =>
        simp only [Rows.laid_seisin_msg_classes, List.map_cons, List.map_nil, DataW.agg.injEq, List.cons.injEq, DataW.lit.injEq, Lit.int.injEq, true_and, and_true] at h3
        simp only [classes, List.cons.injEq, and_true]
        obtain ⟨a0, a1, a2, a3, a4, a5, a6, a7, a8, a9, a10, a11, a12⟩ := h3
        refine ⟨?_, ?_, ?_, ?_, ?_, ?_, ?_, ?_, ?_, ?_, ?_, ?_, ?_⟩ <;> (apply UInt8.toNat_inj.1; simp; omega)
    subst hbs
    refine cells_mk fun i v hvv => ?_
    have hc := World.var?_cell hg' hv i
    rw [← hvv, ← h2]
    simpa using hc
  exact ⟨bnd, needs, uses, cls⟩

def lit1N : DataW Unit → List Value
  | .lit (.int k n) => [.int k n]
  | .lit (.string s) => [.string ⟨s.toArray⟩]
  | _ => []
def lit2N : DataW Unit → List Value
  | .agg ps => ps.flatMap lit1N
  | x => lit1N x
def setGN (h : Array Obj) (g : Nat) (cs : List Value) : Array Obj := h.modify g fun
  | .cells _ t frozen => .cells cs.toArray t frozen
  | o => o
def layHN (h : Array Obj) : Array Obj :=
  let h1 := setGN h 2 (lit2N Rows.laid_seisin_geo_bounds)
  let h2 := setGN h1 3 (lit2N Rows.laid_seisin_check_needs)
  let h3 := setGN h2 0 (lit2N Rows.laid_seisin_msg_uses)
  setGN h3 1 (lit2N Rows.laid_seisin_msg_classes)
noncomputable def laidWorldN (os : Os) : World :=
  { World.holding Tryz.prog os ⟨#[], #[], []⟩ with heap := layHN (World.holding Tryz.prog os ⟨#[], #[], []⟩).heap }
theorem laidWorldN_met (os : Os) (args : Array Value) : laidMetH Tryz.prog seatLaidN ((laidWorldN os).forCall (fun _ _ => 0) ⟨#[], args, []⟩).memory := by
  show laidMet Tryz.prog seatLaidN _
  exact laidMet_of_run' 8 (by kernel_rfl) (by kernel_rfl)
end Go.Proofs.YthgmcegmgjoafaaGreatDoor
