/- Contracts: the comparison of a sort of messages (Sort$1). -/
import Derived.Test.YtflljnnndmkfkaaDoorCm3
import Derived.Test.YtflljnnndmkfkaaDoorNet1
import Derived.Test.YtflljnnndmkfkaaDoorKeyO
import Derived.Test.YtflljnnndmkfkaaDoorSt2
import Derived.Test.YtflljnnndmkfkaaDoorVcK
namespace Go.Proofs.YtflljnnndmkfkaaDoor
open Go.Vc Go.RowKit Go.Sei

/-- What the comparison needs of a world: the mode in its box, the table of classes. -/
def Good (gm : Nat) (mode : UInt8) (X : World) : Prop := X.heap[gm]? = some (.cells #[u8 mode] 5 (0, 0)) ∧ Glob X ∧ 0 < X.heap.size

theorem queue_k (m : Msg) (mode : UInt8) (w : World) (hg : Glob w) : Calls Tryd.prog 24 #[m.val, u8 mode] w fun e w' => e = .returned (.agg ((qbs mode m).map u8).toArray) ∧ Below w.heap.size w w' :=
  (queue_c m mode w hg).mono fun _ _ h => h

theorem Cmp_c (gm : Nat) (mode : UInt8) (m n : Msg) (w : World) (hG : Good gm mode w) :
    Calls Tryd.prog 23 ([m.val, n.val] ++ (#[.pointer (some ⟨gm, 0, none⟩)] : Array Value).toList).toArray w fun e w' => ∃ v : Int, e = .returned (.int .i64 v) ∧ decide (v < 0) = (keyO (mkey mode)).lt m n ∧ Below w.heap.size w w' := by
  obtain ⟨hm, hg, _⟩ := hG
  refine calls_of_M (S := sg 25) (sgOk _) (args := [m.val, n.val, .pointer (some ⟨gm, 0, none⟩)]) (.c .p (.s (.s .p (.d (.c .p .p) .p)) .p)) Tryd.func23 rfl rfl (Nat.le_of_ble_eq_true rfl) rfl ?_
  refine ⟨Nat × Nat, fun s => ⟨[(2, .pointer (some ⟨gm, 0, none⟩)), (3, .pointer (some ⟨s.1, 0, none⟩)), (4, .pointer (some ⟨s.2, 0, none⟩)), (5, .int .i64 0)], []⟩,
    fun s V => V.heap[s.1]? = some (.cells m.val.cells 30 (0, 0)) ∧ V.heap[s.2]? = some (.cells n.val.cells 30 (0, 0)) ∧ Below w.heap.size w V, ?_, ?_⟩
  · exact ⟨(w.heap.size, (w.alloc (.cells m.val.cells 30)).heap.size), ⟨.cons rfl (.cons rfl (.cons rfl (.cons rfl .nil))), rfl⟩, hold (.cells n.val.cells 30) (hnew w (.cells m.val.cells 30)), hnew (w.alloc (.cells m.val.cells 30)) (.cells n.val.cells 30), ((Below.refl _ _).alloc (Nat.le_refl _) _).alloc (by simp) _⟩
  rintro ⟨q1, q2⟩ W ⟨f1, f2, hb1⟩
  have hm1 := block_below hb1 hm
  have hg1 := hg.below hb1
  refine ⟨_, cells_head (cells_block hm1), ?_⟩
  refine And.intro (fun h => ?_) (fun h => ?_)
  · have h : mode ≠ 1 := fun e => by subst e; simp at h
    refine ⟨Nat × Nat, fun s => ⟨[(6, .pointer (some ⟨s.1, 0, none⟩)), (7, .pointer (some ⟨s.2, 0, none⟩))], []⟩,
      fun s V => V.heap[s.1]? = some (.cells ((qbs mode m).map u8).toArray 50 (0, 0)) ∧ V.heap[s.2]? = some (.cells ((qbs mode n).map u8).toArray 50 (0, 0)) ∧ Below w.heap.size w V, ?_, ?_⟩
    rotate_left
    · rintro ⟨g, k⟩ V ⟨f1, f2, hb⟩
      have hb' := hb.drew
      have f1' := hdr f1
      have f2' := hdr f2
      refine DrawE.ord [] [0, 1, 2, 3] (by kernel_rfl) ?_
      refine Calls.mono (CompareL_c _ _ _ _ (qbs mode m) (qbs mode n) _ (bytes_row f1') (bytes_row f2') (Nat.le_of_ble_eq_true rfl)) ?_
      rintro _ _ ⟨rfl, rfl⟩
      refine ⟨Below.refl _ _, ?_⟩
      exact ⟨_, rfl, by simp only [keyO, mkey, if_neg h], hb'⟩
    refine DrawE.treeQ [8, 9] (.op 0 (.op 1 (.op 3 (.op 4 (.alt (.op 2 (.alt (.op 5 (.alt (.op 6 (.op 7 (.op 8 (.op 9 (.nil))))) (.op 7 (.op 6 (.op 8 (.op 9 (.nil))))))) (.alt (.op 6 (.alt (.op 5 (.op 7 (.op 8 (.op 9 (.nil))))) (.op 7 (.op 5 (.op 8 (.op 9 (.nil))))))) (.op 7 (.alt (.op 5 (.op 6 (.op 8 (.op 9 (.nil))))) (.op 6 (.op 5 (.op 8 (.op 9 (.nil)))))))))) (.alt (.op 6 (.alt (.op 2 (.alt (.op 5 (.op 7 (.op 8 (.op 9 (.nil))))) (.op 7 (.op 5 (.op 8 (.op 9 (.nil))))))) (.op 7 (.op 2 (.op 5 (.op 8 (.op 9 (.nil)))))))) (.op 7 (.alt (.op 2 (.alt (.op 5 (.op 6 (.op 8 (.op 9 (.nil))))) (.op 6 (.op 5 (.op 8 (.op 9 (.nil))))))) (.op 6 (.op 2 (.op 5 (.op 8 (.op 9 (.nil)))))))))))))) (by kernel_rfl) ?_
    have hG0 := hdr hm1
    have hw0 := hb1.drew
    have hg0 : Glob W.drew := hg1
    have f1 := hdr f1
    have f2 := hdr f2
    have hqq1 := hlt f1
    have hqq2 := hlt f2
    refine ⟨m.enc, rfl, cells_block f1, hqq1, ?_⟩
    refine ⟨_, cells_head (cells_block hG0), ?_⟩
    refine ⟨n.enc, rfl, cells_block f2, hqq2, ?_⟩
    refine ⟨_, cells_head (cells_block hG0), ?_⟩
    have hqm := hqq1
    have hqn := hqq2
    refine And.intro ?_ ?_
    · refine Calls.mono (queue_k m mode _ hg0) ?_
      rintro _ V1 ⟨rfl, hb1⟩
      refine ⟨hb1, ?_⟩
      have hw1 := hw0.trans (hb1.mono hw0.size)
      have hg1 := hg0.below hb1
      refine And.intro ?_ ?_
      · refine Calls.mono (queue_k n mode _ hg1) ?_
        rintro _ V2 ⟨rfl, hb2⟩
        refine ⟨hb2, ?_⟩
        have hw2 := hw1.trans (hb2.mono hw1.size)
        have hg2 := hg1.below hb2
        refine And.intro ?_ ?_
        · have hb3 : Below V2.heap.size V2 (V2.alloc (.cells #[.int .u8 0, .int .u8 0, .int .u8 0] 50)) := (Below.refl _ _).alloc (Nat.le_refl _) _
          refine ⟨hb3, ?_⟩
          have hw3 := hw2.trans (hb3.mono hw2.size)
          have hg3 := hg2.below hb3
          have hx3 := hnew V2 (.cells #[.int .u8 0, .int .u8 0, .int .u8 0] 50)
          have lhx := hw2.size
          have hb4 : Below (V2.alloc (.cells #[.int .u8 0, .int .u8 0, .int .u8 0] 50)).heap.size (V2.alloc (.cells #[.int .u8 0, .int .u8 0, .int .u8 0] 50)) ((V2.alloc (.cells #[.int .u8 0, .int .u8 0, .int .u8 0] 50)).alloc (.cells #[.int .u8 0, .int .u8 0, .int .u8 0] 50)) := (Below.refl _ _).alloc (Nat.le_refl _) _
          refine ⟨hb4, ?_⟩
          have hw4 := hw3.trans (hb4.mono hw3.size)
          have hg4 := hg3.below hb4
          have hlt12 : V2.heap.size < (V2.alloc (.cells #[.int .u8 0, .int .u8 0, .int .u8 0] 50)).heap.size := hlt hx3
          have hx4 := block_below hb4 hx3
          have hy4 := hnew (V2.alloc (.cells #[.int .u8 0, .int .u8 0, .int .u8 0] 50)) (.cells #[.int .u8 0, .int .u8 0, .int .u8 0] 50)
          have lhy := hw3.size
          have hne : V2.heap.size ≠ (V2.alloc (.cells #[.int .u8 0, .int .u8 0, .int .u8 0] 50)).heap.size := Nat.ne_of_lt hlt12
          refine store_box (v := .agg ((qbs mode m).map u8).toArray) (ttOk.get 50 _ rfl) hx4 (by rfl) rfl (by rfl) ?_
          refine store_box (v := .agg ((qbs mode n).map u8).toArray) (ttOk.get 50 _ rfl) ((setRow_old (Ne.symm hne)).trans hy4) (by rfl) rfl (by rfl) ?_
          refine ⟨(V2.heap.size, (V2.alloc (.cells #[.int .u8 0, .int .u8 0, .int .u8 0] 50)).heap.size), ⟨.cons rfl (.cons rfl .nil), rfl⟩, (setRow_old hne).trans (setRow_new hx4), setRow_new ((setRow_old (Ne.symm hne)).trans hy4), ?_⟩
          exact below_setRow (below_setRow hw4 lhx _) lhy _
        · have hb3 : Below V2.heap.size V2 (V2.alloc (.cells #[.int .u8 0, .int .u8 0, .int .u8 0] 50)) := (Below.refl _ _).alloc (Nat.le_refl _) _
          refine ⟨hb3, ?_⟩
          have hw3 := hw2.trans (hb3.mono hw2.size)
          have hg3 := hg2.below hb3
          have hy3 := hnew V2 (.cells #[.int .u8 0, .int .u8 0, .int .u8 0] 50)
          have lhy := hw2.size
          have hb4 : Below (V2.alloc (.cells #[.int .u8 0, .int .u8 0, .int .u8 0] 50)).heap.size (V2.alloc (.cells #[.int .u8 0, .int .u8 0, .int .u8 0] 50)) ((V2.alloc (.cells #[.int .u8 0, .int .u8 0, .int .u8 0] 50)).alloc (.cells #[.int .u8 0, .int .u8 0, .int .u8 0] 50)) := (Below.refl _ _).alloc (Nat.le_refl _) _
          refine ⟨hb4, ?_⟩
          have hw4 := hw3.trans (hb4.mono hw3.size)
          have hg4 := hg3.below hb4
          have hlt12 : V2.heap.size < (V2.alloc (.cells #[.int .u8 0, .int .u8 0, .int .u8 0] 50)).heap.size := hlt hy3
          have hy4 := block_below hb4 hy3
          have hx4 := hnew (V2.alloc (.cells #[.int .u8 0, .int .u8 0, .int .u8 0] 50)) (.cells #[.int .u8 0, .int .u8 0, .int .u8 0] 50)
          have lhx := hw3.size
          have hne : (V2.alloc (.cells #[.int .u8 0, .int .u8 0, .int .u8 0] 50)).heap.size ≠ V2.heap.size := (Nat.ne_of_lt hlt12).symm
          refine store_box (v := .agg ((qbs mode m).map u8).toArray) (ttOk.get 50 _ rfl) hx4 (by rfl) rfl (by rfl) ?_
          refine store_box (v := .agg ((qbs mode n).map u8).toArray) (ttOk.get 50 _ rfl) ((setRow_old (Ne.symm hne)).trans hy4) (by rfl) rfl (by rfl) ?_
          refine ⟨((V2.alloc (.cells #[.int .u8 0, .int .u8 0, .int .u8 0] 50)).heap.size, V2.heap.size), ⟨.cons rfl (.cons rfl .nil), rfl⟩, (setRow_old hne).trans (setRow_new hx4), setRow_new ((setRow_old (Ne.symm hne)).trans hy4), ?_⟩
          exact below_setRow (below_setRow hw4 lhx _) lhy _
      · refine And.intro ?_ ?_
        · have hb2 : Below V1.heap.size V1 (V1.alloc (.cells #[.int .u8 0, .int .u8 0, .int .u8 0] 50)) := (Below.refl _ _).alloc (Nat.le_refl _) _
          refine ⟨hb2, ?_⟩
          have hw2 := hw1.trans (hb2.mono hw1.size)
          have hg2 := hg1.below hb2
          have hx2 := hnew V1 (.cells #[.int .u8 0, .int .u8 0, .int .u8 0] 50)
          have lhx := hw1.size
          refine And.intro ?_ ?_
          · refine Calls.mono (queue_k n mode _ hg2) ?_
            rintro _ V3 ⟨rfl, hb3⟩
            refine ⟨hb3, ?_⟩
            have hw3 := hw2.trans (hb3.mono hw2.size)
            have hg3 := hg2.below hb3
            have hx3 := block_below hb3 hx2
            have hb4 : Below V3.heap.size V3 (V3.alloc (.cells #[.int .u8 0, .int .u8 0, .int .u8 0] 50)) := (Below.refl _ _).alloc (Nat.le_refl _) _
            refine ⟨hb4, ?_⟩
            have hw4 := hw3.trans (hb4.mono hw3.size)
            have hg4 := hg3.below hb4
            have hlt12 : V1.heap.size < V3.heap.size := hlt hx3
            have hx4 := block_below hb4 hx3
            have hy4 := hnew V3 (.cells #[.int .u8 0, .int .u8 0, .int .u8 0] 50)
            have lhy := hw3.size
            have hne : V1.heap.size ≠ V3.heap.size := Nat.ne_of_lt hlt12
            refine store_box (v := .agg ((qbs mode m).map u8).toArray) (ttOk.get 50 _ rfl) hx4 (by rfl) rfl (by rfl) ?_
            refine store_box (v := .agg ((qbs mode n).map u8).toArray) (ttOk.get 50 _ rfl) ((setRow_old (Ne.symm hne)).trans hy4) (by rfl) rfl (by rfl) ?_
            refine ⟨(V1.heap.size, V3.heap.size), ⟨.cons rfl (.cons rfl .nil), rfl⟩, (setRow_old hne).trans (setRow_new hx4), setRow_new ((setRow_old (Ne.symm hne)).trans hy4), ?_⟩
            exact below_setRow (below_setRow hw4 lhx _) lhy _
          · have hb3 : Below (V1.alloc (.cells #[.int .u8 0, .int .u8 0, .int .u8 0] 50)).heap.size (V1.alloc (.cells #[.int .u8 0, .int .u8 0, .int .u8 0] 50)) ((V1.alloc (.cells #[.int .u8 0, .int .u8 0, .int .u8 0] 50)).alloc (.cells #[.int .u8 0, .int .u8 0, .int .u8 0] 50)) := (Below.refl _ _).alloc (Nat.le_refl _) _
            refine ⟨hb3, ?_⟩
            have hw3 := hw2.trans (hb3.mono hw2.size)
            have hg3 := hg2.below hb3
            have hlt12 : V1.heap.size < (V1.alloc (.cells #[.int .u8 0, .int .u8 0, .int .u8 0] 50)).heap.size := hlt hx2
            have hx3 := block_below hb3 hx2
            have hy3 := hnew (V1.alloc (.cells #[.int .u8 0, .int .u8 0, .int .u8 0] 50)) (.cells #[.int .u8 0, .int .u8 0, .int .u8 0] 50)
            have lhy := hw2.size
            refine Calls.mono (queue_k n mode _ hg3) ?_
            rintro _ V4 ⟨rfl, hb4⟩
            refine ⟨hb4, ?_⟩
            have hw4 := hw3.trans (hb4.mono hw3.size)
            have hg4 := hg3.below hb4
            have hx4 := block_below hb4 hx3
            have hy4 := block_below hb4 hy3
            have hne : V1.heap.size ≠ (V1.alloc (.cells #[.int .u8 0, .int .u8 0, .int .u8 0] 50)).heap.size := Nat.ne_of_lt hlt12
            refine store_box (v := .agg ((qbs mode m).map u8).toArray) (ttOk.get 50 _ rfl) hx4 (by rfl) rfl (by rfl) ?_
            refine store_box (v := .agg ((qbs mode n).map u8).toArray) (ttOk.get 50 _ rfl) ((setRow_old (Ne.symm hne)).trans hy4) (by rfl) rfl (by rfl) ?_
            refine ⟨(V1.heap.size, (V1.alloc (.cells #[.int .u8 0, .int .u8 0, .int .u8 0] 50)).heap.size), ⟨.cons rfl (.cons rfl .nil), rfl⟩, (setRow_old hne).trans (setRow_new hx4), setRow_new ((setRow_old (Ne.symm hne)).trans hy4), ?_⟩
            exact below_setRow (below_setRow hw4 lhx _) lhy _
        · have hb2 : Below V1.heap.size V1 (V1.alloc (.cells #[.int .u8 0, .int .u8 0, .int .u8 0] 50)) := (Below.refl _ _).alloc (Nat.le_refl _) _
          refine ⟨hb2, ?_⟩
          have hw2 := hw1.trans (hb2.mono hw1.size)
          have hg2 := hg1.below hb2
          have hy2 := hnew V1 (.cells #[.int .u8 0, .int .u8 0, .int .u8 0] 50)
          have lhy := hw1.size
          refine And.intro ?_ ?_
          · refine Calls.mono (queue_k n mode _ hg2) ?_
            rintro _ V3 ⟨rfl, hb3⟩
            refine ⟨hb3, ?_⟩
            have hw3 := hw2.trans (hb3.mono hw2.size)
            have hg3 := hg2.below hb3
            have hy3 := block_below hb3 hy2
            have hb4 : Below V3.heap.size V3 (V3.alloc (.cells #[.int .u8 0, .int .u8 0, .int .u8 0] 50)) := (Below.refl _ _).alloc (Nat.le_refl _) _
            refine ⟨hb4, ?_⟩
            have hw4 := hw3.trans (hb4.mono hw3.size)
            have hg4 := hg3.below hb4
            have hlt12 : V1.heap.size < V3.heap.size := hlt hy3
            have hy4 := block_below hb4 hy3
            have hx4 := hnew V3 (.cells #[.int .u8 0, .int .u8 0, .int .u8 0] 50)
            have lhx := hw3.size
            have hne : V3.heap.size ≠ V1.heap.size := (Nat.ne_of_lt hlt12).symm
            refine store_box (v := .agg ((qbs mode m).map u8).toArray) (ttOk.get 50 _ rfl) hx4 (by rfl) rfl (by rfl) ?_
            refine store_box (v := .agg ((qbs mode n).map u8).toArray) (ttOk.get 50 _ rfl) ((setRow_old (Ne.symm hne)).trans hy4) (by rfl) rfl (by rfl) ?_
            refine ⟨(V3.heap.size, V1.heap.size), ⟨.cons rfl (.cons rfl .nil), rfl⟩, (setRow_old hne).trans (setRow_new hx4), setRow_new ((setRow_old (Ne.symm hne)).trans hy4), ?_⟩
            exact below_setRow (below_setRow hw4 lhx _) lhy _
          · have hb3 : Below (V1.alloc (.cells #[.int .u8 0, .int .u8 0, .int .u8 0] 50)).heap.size (V1.alloc (.cells #[.int .u8 0, .int .u8 0, .int .u8 0] 50)) ((V1.alloc (.cells #[.int .u8 0, .int .u8 0, .int .u8 0] 50)).alloc (.cells #[.int .u8 0, .int .u8 0, .int .u8 0] 50)) := (Below.refl _ _).alloc (Nat.le_refl _) _
            refine ⟨hb3, ?_⟩
            have hw3 := hw2.trans (hb3.mono hw2.size)
            have hg3 := hg2.below hb3
            have hlt12 : V1.heap.size < (V1.alloc (.cells #[.int .u8 0, .int .u8 0, .int .u8 0] 50)).heap.size := hlt hy2
            have hy3 := block_below hb3 hy2
            have hx3 := hnew (V1.alloc (.cells #[.int .u8 0, .int .u8 0, .int .u8 0] 50)) (.cells #[.int .u8 0, .int .u8 0, .int .u8 0] 50)
            have lhx := hw2.size
            refine Calls.mono (queue_k n mode _ hg3) ?_
            rintro _ V4 ⟨rfl, hb4⟩
            refine ⟨hb4, ?_⟩
            have hw4 := hw3.trans (hb4.mono hw3.size)
            have hg4 := hg3.below hb4
            have hy4 := block_below hb4 hy3
            have hx4 := block_below hb4 hx3
            have hne : (V1.alloc (.cells #[.int .u8 0, .int .u8 0, .int .u8 0] 50)).heap.size ≠ V1.heap.size := (Nat.ne_of_lt hlt12).symm
            refine store_box (v := .agg ((qbs mode m).map u8).toArray) (ttOk.get 50 _ rfl) hx4 (by rfl) rfl (by rfl) ?_
            refine store_box (v := .agg ((qbs mode n).map u8).toArray) (ttOk.get 50 _ rfl) ((setRow_old (Ne.symm hne)).trans hy4) (by rfl) rfl (by rfl) ?_
            refine ⟨((V1.alloc (.cells #[.int .u8 0, .int .u8 0, .int .u8 0] 50)).heap.size, V1.heap.size), ⟨.cons rfl (.cons rfl .nil), rfl⟩, (setRow_old hne).trans (setRow_new hx4), setRow_new ((setRow_old (Ne.symm hne)).trans hy4), ?_⟩
            exact below_setRow (below_setRow hw4 lhx _) lhy _
    · refine And.intro ?_ ?_
      · have hb1 : Below W.drew.heap.size W.drew (W.drew.alloc (.cells #[.int .u8 0, .int .u8 0, .int .u8 0] 50)) := (Below.refl _ _).alloc (Nat.le_refl _) _
        refine ⟨hb1, ?_⟩
        have hw1 := hw0.trans (hb1.mono hw0.size)
        have hg1 := hg0.below hb1
        have hx1 := hnew W.drew (.cells #[.int .u8 0, .int .u8 0, .int .u8 0] 50)
        have lhx := hw0.size
        refine And.intro ?_ ?_
        · refine Calls.mono (queue_k m mode _ hg1) ?_
          rintro _ V2 ⟨rfl, hb2⟩
          refine ⟨hb2, ?_⟩
          have hw2 := hw1.trans (hb2.mono hw1.size)
          have hg2 := hg1.below hb2
          have hx2 := block_below hb2 hx1
          refine And.intro ?_ ?_
          · refine Calls.mono (queue_k n mode _ hg2) ?_
            rintro _ V3 ⟨rfl, hb3⟩
            refine ⟨hb3, ?_⟩
            have hw3 := hw2.trans (hb3.mono hw2.size)
            have hg3 := hg2.below hb3
            have hx3 := block_below hb3 hx2
            have hb4 : Below V3.heap.size V3 (V3.alloc (.cells #[.int .u8 0, .int .u8 0, .int .u8 0] 50)) := (Below.refl _ _).alloc (Nat.le_refl _) _
            refine ⟨hb4, ?_⟩
            have hw4 := hw3.trans (hb4.mono hw3.size)
            have hg4 := hg3.below hb4
            have hlt12 : W.drew.heap.size < V3.heap.size := hlt hx3
            have hx4 := block_below hb4 hx3
            have hy4 := hnew V3 (.cells #[.int .u8 0, .int .u8 0, .int .u8 0] 50)
            have lhy := hw3.size
            have hne : W.drew.heap.size ≠ V3.heap.size := Nat.ne_of_lt hlt12
            refine store_box (v := .agg ((qbs mode m).map u8).toArray) (ttOk.get 50 _ rfl) hx4 (by rfl) rfl (by rfl) ?_
            refine store_box (v := .agg ((qbs mode n).map u8).toArray) (ttOk.get 50 _ rfl) ((setRow_old (Ne.symm hne)).trans hy4) (by rfl) rfl (by rfl) ?_
            refine ⟨(W.drew.heap.size, V3.heap.size), ⟨.cons rfl (.cons rfl .nil), rfl⟩, (setRow_old hne).trans (setRow_new hx4), setRow_new ((setRow_old (Ne.symm hne)).trans hy4), ?_⟩
            exact below_setRow (below_setRow hw4 lhx _) lhy _
          · have hb3 : Below V2.heap.size V2 (V2.alloc (.cells #[.int .u8 0, .int .u8 0, .int .u8 0] 50)) := (Below.refl _ _).alloc (Nat.le_refl _) _
            refine ⟨hb3, ?_⟩
            have hw3 := hw2.trans (hb3.mono hw2.size)
            have hg3 := hg2.below hb3
            have hlt12 : W.drew.heap.size < V2.heap.size := hlt hx2
            have hx3 := block_below hb3 hx2
            have hy3 := hnew V2 (.cells #[.int .u8 0, .int .u8 0, .int .u8 0] 50)
            have lhy := hw2.size
            refine Calls.mono (queue_k n mode _ hg3) ?_
            rintro _ V4 ⟨rfl, hb4⟩
            refine ⟨hb4, ?_⟩
            have hw4 := hw3.trans (hb4.mono hw3.size)
            have hg4 := hg3.below hb4
            have hx4 := block_below hb4 hx3
            have hy4 := block_below hb4 hy3
            have hne : W.drew.heap.size ≠ V2.heap.size := Nat.ne_of_lt hlt12
            refine store_box (v := .agg ((qbs mode m).map u8).toArray) (ttOk.get 50 _ rfl) hx4 (by rfl) rfl (by rfl) ?_
            refine store_box (v := .agg ((qbs mode n).map u8).toArray) (ttOk.get 50 _ rfl) ((setRow_old (Ne.symm hne)).trans hy4) (by rfl) rfl (by rfl) ?_
            refine ⟨(W.drew.heap.size, V2.heap.size), ⟨.cons rfl (.cons rfl .nil), rfl⟩, (setRow_old hne).trans (setRow_new hx4), setRow_new ((setRow_old (Ne.symm hne)).trans hy4), ?_⟩
            exact below_setRow (below_setRow hw4 lhx _) lhy _
        · have hb2 : Below (W.drew.alloc (.cells #[.int .u8 0, .int .u8 0, .int .u8 0] 50)).heap.size (W.drew.alloc (.cells #[.int .u8 0, .int .u8 0, .int .u8 0] 50)) ((W.drew.alloc (.cells #[.int .u8 0, .int .u8 0, .int .u8 0] 50)).alloc (.cells #[.int .u8 0, .int .u8 0, .int .u8 0] 50)) := (Below.refl _ _).alloc (Nat.le_refl _) _
          refine ⟨hb2, ?_⟩
          have hw2 := hw1.trans (hb2.mono hw1.size)
          have hg2 := hg1.below hb2
          have hlt12 : W.drew.heap.size < (W.drew.alloc (.cells #[.int .u8 0, .int .u8 0, .int .u8 0] 50)).heap.size := hlt hx1
          have hx2 := block_below hb2 hx1
          have hy2 := hnew (W.drew.alloc (.cells #[.int .u8 0, .int .u8 0, .int .u8 0] 50)) (.cells #[.int .u8 0, .int .u8 0, .int .u8 0] 50)
          have lhy := hw1.size
          refine Calls.mono (queue_k m mode _ hg2) ?_
          rintro _ V3 ⟨rfl, hb3⟩
          refine ⟨hb3, ?_⟩
          have hw3 := hw2.trans (hb3.mono hw2.size)
          have hg3 := hg2.below hb3
          have hx3 := block_below hb3 hx2
          have hy3 := block_below hb3 hy2
          refine Calls.mono (queue_k n mode _ hg3) ?_
          rintro _ V4 ⟨rfl, hb4⟩
          refine ⟨hb4, ?_⟩
          have hw4 := hw3.trans (hb4.mono hw3.size)
          have hg4 := hg3.below hb4
          have hx4 := block_below hb4 hx3
          have hy4 := block_below hb4 hy3
          have hne : W.drew.heap.size ≠ (W.drew.alloc (.cells #[.int .u8 0, .int .u8 0, .int .u8 0] 50)).heap.size := Nat.ne_of_lt hlt12
          refine store_box (v := .agg ((qbs mode m).map u8).toArray) (ttOk.get 50 _ rfl) hx4 (by rfl) rfl (by rfl) ?_
          refine store_box (v := .agg ((qbs mode n).map u8).toArray) (ttOk.get 50 _ rfl) ((setRow_old (Ne.symm hne)).trans hy4) (by rfl) rfl (by rfl) ?_
          refine ⟨(W.drew.heap.size, (W.drew.alloc (.cells #[.int .u8 0, .int .u8 0, .int .u8 0] 50)).heap.size), ⟨.cons rfl (.cons rfl .nil), rfl⟩, (setRow_old hne).trans (setRow_new hx4), setRow_new ((setRow_old (Ne.symm hne)).trans hy4), ?_⟩
          exact below_setRow (below_setRow hw4 lhx _) lhy _
      · have hb1 : Below W.drew.heap.size W.drew (W.drew.alloc (.cells #[.int .u8 0, .int .u8 0, .int .u8 0] 50)) := (Below.refl _ _).alloc (Nat.le_refl _) _
        refine ⟨hb1, ?_⟩
        have hw1 := hw0.trans (hb1.mono hw0.size)
        have hg1 := hg0.below hb1
        have hy1 := hnew W.drew (.cells #[.int .u8 0, .int .u8 0, .int .u8 0] 50)
        have lhy := hw0.size
        refine And.intro ?_ ?_
        · refine Calls.mono (queue_k m mode _ hg1) ?_
          rintro _ V2 ⟨rfl, hb2⟩
          refine ⟨hb2, ?_⟩
          have hw2 := hw1.trans (hb2.mono hw1.size)
          have hg2 := hg1.below hb2
          have hy2 := block_below hb2 hy1
          refine And.intro ?_ ?_
          · refine Calls.mono (queue_k n mode _ hg2) ?_
            rintro _ V3 ⟨rfl, hb3⟩
            refine ⟨hb3, ?_⟩
            have hw3 := hw2.trans (hb3.mono hw2.size)
            have hg3 := hg2.below hb3
            have hy3 := block_below hb3 hy2
            have hb4 : Below V3.heap.size V3 (V3.alloc (.cells #[.int .u8 0, .int .u8 0, .int .u8 0] 50)) := (Below.refl _ _).alloc (Nat.le_refl _) _
            refine ⟨hb4, ?_⟩
            have hw4 := hw3.trans (hb4.mono hw3.size)
            have hg4 := hg3.below hb4
            have hlt12 : W.drew.heap.size < V3.heap.size := hlt hy3
            have hy4 := block_below hb4 hy3
            have hx4 := hnew V3 (.cells #[.int .u8 0, .int .u8 0, .int .u8 0] 50)
            have lhx := hw3.size
            have hne : V3.heap.size ≠ W.drew.heap.size := (Nat.ne_of_lt hlt12).symm
            refine store_box (v := .agg ((qbs mode m).map u8).toArray) (ttOk.get 50 _ rfl) hx4 (by rfl) rfl (by rfl) ?_
            refine store_box (v := .agg ((qbs mode n).map u8).toArray) (ttOk.get 50 _ rfl) ((setRow_old (Ne.symm hne)).trans hy4) (by rfl) rfl (by rfl) ?_
            refine ⟨(V3.heap.size, W.drew.heap.size), ⟨.cons rfl (.cons rfl .nil), rfl⟩, (setRow_old hne).trans (setRow_new hx4), setRow_new ((setRow_old (Ne.symm hne)).trans hy4), ?_⟩
            exact below_setRow (below_setRow hw4 lhx _) lhy _
          · have hb3 : Below V2.heap.size V2 (V2.alloc (.cells #[.int .u8 0, .int .u8 0, .int .u8 0] 50)) := (Below.refl _ _).alloc (Nat.le_refl _) _
            refine ⟨hb3, ?_⟩
            have hw3 := hw2.trans (hb3.mono hw2.size)
            have hg3 := hg2.below hb3
            have hlt12 : W.drew.heap.size < V2.heap.size := hlt hy2
            have hy3 := block_below hb3 hy2
            have hx3 := hnew V2 (.cells #[.int .u8 0, .int .u8 0, .int .u8 0] 50)
            have lhx := hw2.size
            refine Calls.mono (queue_k n mode _ hg3) ?_
            rintro _ V4 ⟨rfl, hb4⟩
            refine ⟨hb4, ?_⟩
            have hw4 := hw3.trans (hb4.mono hw3.size)
            have hg4 := hg3.below hb4
            have hy4 := block_below hb4 hy3
            have hx4 := block_below hb4 hx3
            have hne : V2.heap.size ≠ W.drew.heap.size := (Nat.ne_of_lt hlt12).symm
            refine store_box (v := .agg ((qbs mode m).map u8).toArray) (ttOk.get 50 _ rfl) hx4 (by rfl) rfl (by rfl) ?_
            refine store_box (v := .agg ((qbs mode n).map u8).toArray) (ttOk.get 50 _ rfl) ((setRow_old (Ne.symm hne)).trans hy4) (by rfl) rfl (by rfl) ?_
            refine ⟨(V2.heap.size, W.drew.heap.size), ⟨.cons rfl (.cons rfl .nil), rfl⟩, (setRow_old hne).trans (setRow_new hx4), setRow_new ((setRow_old (Ne.symm hne)).trans hy4), ?_⟩
            exact below_setRow (below_setRow hw4 lhx _) lhy _
        · have hb2 : Below (W.drew.alloc (.cells #[.int .u8 0, .int .u8 0, .int .u8 0] 50)).heap.size (W.drew.alloc (.cells #[.int .u8 0, .int .u8 0, .int .u8 0] 50)) ((W.drew.alloc (.cells #[.int .u8 0, .int .u8 0, .int .u8 0] 50)).alloc (.cells #[.int .u8 0, .int .u8 0, .int .u8 0] 50)) := (Below.refl _ _).alloc (Nat.le_refl _) _
          refine ⟨hb2, ?_⟩
          have hw2 := hw1.trans (hb2.mono hw1.size)
          have hg2 := hg1.below hb2
          have hlt12 : W.drew.heap.size < (W.drew.alloc (.cells #[.int .u8 0, .int .u8 0, .int .u8 0] 50)).heap.size := hlt hy1
          have hy2 := block_below hb2 hy1
          have hx2 := hnew (W.drew.alloc (.cells #[.int .u8 0, .int .u8 0, .int .u8 0] 50)) (.cells #[.int .u8 0, .int .u8 0, .int .u8 0] 50)
          have lhx := hw1.size
          refine Calls.mono (queue_k m mode _ hg2) ?_
          rintro _ V3 ⟨rfl, hb3⟩
          refine ⟨hb3, ?_⟩
          have hw3 := hw2.trans (hb3.mono hw2.size)
          have hg3 := hg2.below hb3
          have hy3 := block_below hb3 hy2
          have hx3 := block_below hb3 hx2
          refine Calls.mono (queue_k n mode _ hg3) ?_
          rintro _ V4 ⟨rfl, hb4⟩
          refine ⟨hb4, ?_⟩
          have hw4 := hw3.trans (hb4.mono hw3.size)
          have hg4 := hg3.below hb4
          have hy4 := block_below hb4 hy3
          have hx4 := block_below hb4 hx3
          have hne : (W.drew.alloc (.cells #[.int .u8 0, .int .u8 0, .int .u8 0] 50)).heap.size ≠ W.drew.heap.size := (Nat.ne_of_lt hlt12).symm
          refine store_box (v := .agg ((qbs mode m).map u8).toArray) (ttOk.get 50 _ rfl) hx4 (by rfl) rfl (by rfl) ?_
          refine store_box (v := .agg ((qbs mode n).map u8).toArray) (ttOk.get 50 _ rfl) ((setRow_old (Ne.symm hne)).trans hy4) (by rfl) rfl (by rfl) ?_
          refine ⟨((W.drew.alloc (.cells #[.int .u8 0, .int .u8 0, .int .u8 0] 50)).heap.size, W.drew.heap.size), ⟨.cons rfl (.cons rfl .nil), rfl⟩, (setRow_old hne).trans (setRow_new hx4), setRow_new ((setRow_old (Ne.symm hne)).trans hy4), ?_⟩
          exact below_setRow (below_setRow hw4 lhx _) lhy _
  · have h : mode = 1 := by
      have h : ((mode.toNat : Int) = 1) := by simpa using h
      exact u8_eq.1 h
    subst h
    refine ⟨m.enc, rfl, cells_block f1, hlt f1, ?_⟩
    refine ⟨n.enc, rfl, cells_block f2, hlt f2, ?_⟩
    refine Calls.mono (Less_c m n W) ?_
    rintro _ V ⟨rfl, hbV⟩
    have hbV2 := hb1.trans (hbV.mono hb1.size)
    have f1V := block_below hbV f1
    have f2V := block_below hbV f2
    refine And.intro (fun h => ?_) (fun h => ?_)
    · exact ⟨-1, rfl, by simpa [keyO, mkey] using h, hbV2⟩
    · refine ⟨n.enc, rfl, cells_block f2V, hlt f2V, ?_⟩
      refine ⟨m.enc, rfl, cells_block f1V, hlt f1V, ?_⟩
      refine Calls.mono (Less_c n m V) ?_
      rintro _ V2 ⟨rfl, hbV3⟩
      have hbV4 := hbV2.trans (hbV3.mono hbV2.size)
      refine And.intro (fun h2 => ?_) (fun h2 => ?_)
      · exact ⟨1, rfl, by simpa [keyO, mkey] using h, hbV4⟩
      · exact ⟨0, rfl, by simpa [keyO, mkey] using h, hbV4⟩

theorem cell_same {A B : World} {g : Nat} (h : B.heap[g]? = A.heap[g]?) (o : Nat) : B.cell? ⟨g, o, none⟩ = A.cell? ⟨g, o, none⟩ := by
  simp only [World.cell?, h]

theorem cmpOk (gm : Nat) (mode : UInt8) (g : Nat) (h0 : 0 ≠ g) (hm : gm ≠ g) : CmpOk #[.pointer (some ⟨gm, 0, none⟩)] (keyO (mkey mode)) g (Good gm mode) where
  run X hX m n := Cmp_c gm mode m n X hX
  keep A B h k := by
    obtain ⟨h1, h2, h3⟩ := h
    refine ⟨(k.block gm (hlt h1) (by simpa using hm)).trans h1, ?_, Nat.lt_of_lt_of_le h3 k.size⟩
    refine cells_mk fun i v hv => ?_
    have := cells_at h2 hv
    rw [← this]
    exact cell_same (k.block 0 h3 (by simpa using h0)) _
end Go.Proofs.YtflljnnndmkfkaaDoor
