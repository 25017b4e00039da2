/- Contracts: msg.Less. -/
import Derived.Test.YtkekidalckflhaaDoorCm2
import Derived.Test.YtkekidalckflhaaDoorVcJ
import Derived.Test.YtkekidalckflhaaDoorVcR
namespace Go.Proofs.YtkekidalckflhaaDoor
open Go.Vc Go.RowKit Go.Sei

theorem bytes_row {w : World} {g : Nat} {l : List UInt8} {t : TypeId} {fr : Nat × Nat} (h : w.heap[g]? = some (.cells (l.map u8).toArray t fr)) : SlR byteE w (some ⟨g, 0, none⟩) l := by
  refine SlR.of_cells (hlt h) ?_
  have e : l.flatMap byteE.enc = l.map u8 := by clear h; induction l with | nil => rfl | cons a r ih => rw [List.flatMap_cons, ih]; rfl
  rw [e]
  exact cells_block h

theorem Less_c (a b : Msg) (w : World) : Calls Tryd.prog 8 #[a.val, b.val] w fun e w' => e = .returned (.bool (decide (cmpL (codeOf a) (codeOf b) < 0))) ∧ Below w.heap.size w w' := by
  refine calls_of_M (S := sg 15) (sgOk _) (args := [a.val, b.val]) (.s .p (.c .p .p)) Tryd.func8 rfl rfl (Nat.le_of_ble_eq_true rfl) rfl ?_
  have hb1 : Below w.heap.size w ((w.alloc (.cells a.val.cells 30)).alloc (.cells b.val.cells 30)) := ((Below.refl _ _).alloc (Nat.le_refl _) _).alloc (by simp) _
  have c1 := cells_block (hold (.cells b.val.cells 30) (hnew w (.cells a.val.cells 30)))
  have c2 := cells_block (hnew (w.alloc (.cells a.val.cells 30)) (.cells b.val.cells 30))
  refine ⟨Nat × Nat, fun s => ⟨[(5, .pointer (some ⟨s.1, 0, none⟩)), (6, .pointer (some ⟨s.2, 0, none⟩))], []⟩,
    fun s V => V.heap[s.1]? = some (.cells ((codeOf a).map u8).toArray 42 (0, 0)) ∧ V.heap[s.2]? = some (.cells ((codeOf b).map u8).toArray 42 (0, 0)) ∧ Below w.heap.size w V, ?_, ?_⟩
  rotate_left
  · rintro ⟨g, k⟩ V ⟨f1, f2, hb⟩
    have hb' := hb.drew
    have f1' := hdr f1
    have f2' := hdr f2
    refine DrawE.ord [] [0, 1, 2, 3, 4] (by kernel_rfl) ?_
    refine Calls.mono (CompareL_c _ _ _ _ (codeOf a) (codeOf b) _ (bytes_row f1') (bytes_row f2') (Nat.le_of_ble_eq_true rfl)) ?_
    rintro _ _ ⟨rfl, rfl⟩
    refine ⟨Below.refl _ _, ?_⟩
    exact And.intro rfl hb'
  refine DrawE.tree [6, 7] (.op 0 (.op 2 (.alt (.op 1 (.alt (.op 3 (.alt (.op 4 (.op 5 (.op 6 (.op 7 (.nil))))) (.op 5 (.op 4 (.op 6 (.op 7 (.nil))))))) (.alt (.op 4 (.alt (.op 3 (.op 5 (.op 6 (.op 7 (.nil))))) (.op 5 (.op 3 (.op 6 (.op 7 (.nil))))))) (.op 5 (.alt (.op 3 (.op 4 (.op 6 (.op 7 (.nil))))) (.op 4 (.op 3 (.op 6 (.op 7 (.nil)))))))))) (.alt (.op 4 (.alt (.op 1 (.alt (.op 3 (.op 5 (.op 6 (.op 7 (.nil))))) (.op 5 (.op 3 (.op 6 (.op 7 (.nil))))))) (.op 5 (.op 1 (.op 3 (.op 6 (.op 7 (.nil)))))))) (.op 5 (.alt (.op 1 (.alt (.op 3 (.op 4 (.op 6 (.op 7 (.nil))))) (.op 4 (.op 3 (.op 6 (.op 7 (.nil))))))) (.op 4 (.op 1 (.op 3 (.op 6 (.op 7 (.nil)))))))))))) (by kernel_rfl) ?_
  obtain ⟨W, hW⟩ : ∃ W, W = ((w.alloc (.cells a.val.cells 30)).alloc (.cells b.val.cells 30)).drew := ⟨_, rfl⟩
  have hbW : Below w.heap.size w W := hW ▸ hb1.drew
  rw [← hW]
  refine ⟨a.enc, rfl, by rw [hW]; exact c1, by rw [hW]; simp [World.drew]; omega, ?_⟩
  refine ⟨b.enc, rfl, by rw [hW]; exact c2, by rw [hW]; simp [World.drew], ?_⟩
  clear hW c1 c2 hb1
  refine And.intro ?_ ?_
  · refine Calls.mono (code_c a _) ?_
    rintro _ V1 ⟨rfl, hb1⟩
    refine ⟨hb1, ?_⟩
    have hw1 := hbW.trans (hb1.mono hbW.size)
    refine And.intro ?_ ?_
    · refine Calls.mono (code_c b _) ?_
      rintro _ V2 ⟨rfl, hb2⟩
      refine ⟨hb2, ?_⟩
      have hw2 := hw1.trans (hb2.mono hw1.size)
      refine And.intro ?_ ?_
      · have hb3 : Below V2.heap.size V2 (V2.alloc (.cells #[.int .u8 0, .int .u8 0, .int .u8 0, .int .u8 0, .int .u8 0, .int .u8 0, .int .u8 0, .int .u8 0, .int .u8 0, .int .u8 0, .int .u8 0] 42)) := (Below.refl _ _).alloc (Nat.le_refl _) _
        refine ⟨hb3, ?_⟩
        have hw3 := hw2.trans (hb3.mono hw2.size)
        have hx3 := hnew V2 (.cells #[.int .u8 0, .int .u8 0, .int .u8 0, .int .u8 0, .int .u8 0, .int .u8 0, .int .u8 0, .int .u8 0, .int .u8 0, .int .u8 0, .int .u8 0] 42)
        have lhx := hw2.size
        have hb4 : Below (V2.alloc (.cells #[.int .u8 0, .int .u8 0, .int .u8 0, .int .u8 0, .int .u8 0, .int .u8 0, .int .u8 0, .int .u8 0, .int .u8 0, .int .u8 0, .int .u8 0] 42)).heap.size (V2.alloc (.cells #[.int .u8 0, .int .u8 0, .int .u8 0, .int .u8 0, .int .u8 0, .int .u8 0, .int .u8 0, .int .u8 0, .int .u8 0, .int .u8 0, .int .u8 0] 42)) ((V2.alloc (.cells #[.int .u8 0, .int .u8 0, .int .u8 0, .int .u8 0, .int .u8 0, .int .u8 0, .int .u8 0, .int .u8 0, .int .u8 0, .int .u8 0, .int .u8 0] 42)).alloc (.cells #[.int .u8 0, .int .u8 0, .int .u8 0, .int .u8 0, .int .u8 0, .int .u8 0, .int .u8 0, .int .u8 0, .int .u8 0, .int .u8 0, .int .u8 0] 42)) := (Below.refl _ _).alloc (Nat.le_refl _) _
        refine ⟨hb4, ?_⟩
        have hw4 := hw3.trans (hb4.mono hw3.size)
        have hlt12 : V2.heap.size < (V2.alloc (.cells #[.int .u8 0, .int .u8 0, .int .u8 0, .int .u8 0, .int .u8 0, .int .u8 0, .int .u8 0, .int .u8 0, .int .u8 0, .int .u8 0, .int .u8 0] 42)).heap.size := hlt hx3
        have hx4 := block_below hb4 hx3
        have hy4 := hnew (V2.alloc (.cells #[.int .u8 0, .int .u8 0, .int .u8 0, .int .u8 0, .int .u8 0, .int .u8 0, .int .u8 0, .int .u8 0, .int .u8 0, .int .u8 0, .int .u8 0] 42)) (.cells #[.int .u8 0, .int .u8 0, .int .u8 0, .int .u8 0, .int .u8 0, .int .u8 0, .int .u8 0, .int .u8 0, .int .u8 0, .int .u8 0, .int .u8 0] 42)
        have lhy := hw3.size
        have hne : V2.heap.size ≠ (V2.alloc (.cells #[.int .u8 0, .int .u8 0, .int .u8 0, .int .u8 0, .int .u8 0, .int .u8 0, .int .u8 0, .int .u8 0, .int .u8 0, .int .u8 0, .int .u8 0] 42)).heap.size := Nat.ne_of_lt hlt12
        refine store_box (v := .agg ((codeOf a).map u8).toArray) (ttOk.get 42 _ rfl) hx4 (by rfl) rfl (by rfl) ?_
        refine store_box (v := .agg ((codeOf b).map u8).toArray) (ttOk.get 42 _ rfl) ((setRow_old (Ne.symm hne)).trans hy4) (by rfl) rfl (by rfl) ?_
        refine ⟨(V2.heap.size, (V2.alloc (.cells #[.int .u8 0, .int .u8 0, .int .u8 0, .int .u8 0, .int .u8 0, .int .u8 0, .int .u8 0, .int .u8 0, .int .u8 0, .int .u8 0, .int .u8 0] 42)).heap.size), ⟨.cons rfl (.cons rfl .nil), rfl⟩, (setRow_old hne).trans (setRow_new hx4), setRow_new ((setRow_old (Ne.symm hne)).trans hy4), ?_⟩
        exact below_setRow (below_setRow hw4 lhx _) lhy _
      · have hb3 : Below V2.heap.size V2 (V2.alloc (.cells #[.int .u8 0, .int .u8 0, .int .u8 0, .int .u8 0, .int .u8 0, .int .u8 0, .int .u8 0, .int .u8 0, .int .u8 0, .int .u8 0, .int .u8 0] 42)) := (Below.refl _ _).alloc (Nat.le_refl _) _
        refine ⟨hb3, ?_⟩
        have hw3 := hw2.trans (hb3.mono hw2.size)
        have hy3 := hnew V2 (.cells #[.int .u8 0, .int .u8 0, .int .u8 0, .int .u8 0, .int .u8 0, .int .u8 0, .int .u8 0, .int .u8 0, .int .u8 0, .int .u8 0, .int .u8 0] 42)
        have lhy := hw2.size
        have hb4 : Below (V2.alloc (.cells #[.int .u8 0, .int .u8 0, .int .u8 0, .int .u8 0, .int .u8 0, .int .u8 0, .int .u8 0, .int .u8 0, .int .u8 0, .int .u8 0, .int .u8 0] 42)).heap.size (V2.alloc (.cells #[.int .u8 0, .int .u8 0, .int .u8 0, .int .u8 0, .int .u8 0, .int .u8 0, .int .u8 0, .int .u8 0, .int .u8 0, .int .u8 0, .int .u8 0] 42)) ((V2.alloc (.cells #[.int .u8 0, .int .u8 0, .int .u8 0, .int .u8 0, .int .u8 0, .int .u8 0, .int .u8 0, .int .u8 0, .int .u8 0, .int .u8 0, .int .u8 0] 42)).alloc (.cells #[.int .u8 0, .int .u8 0, .int .u8 0, .int .u8 0, .int .u8 0, .int .u8 0, .int .u8 0, .int .u8 0, .int .u8 0, .int .u8 0, .int .u8 0] 42)) := (Below.refl _ _).alloc (Nat.le_refl _) _
        refine ⟨hb4, ?_⟩
        have hw4 := hw3.trans (hb4.mono hw3.size)
        have hlt12 : V2.heap.size < (V2.alloc (.cells #[.int .u8 0, .int .u8 0, .int .u8 0, .int .u8 0, .int .u8 0, .int .u8 0, .int .u8 0, .int .u8 0, .int .u8 0, .int .u8 0, .int .u8 0] 42)).heap.size := hlt hy3
        have hy4 := block_below hb4 hy3
        have hx4 := hnew (V2.alloc (.cells #[.int .u8 0, .int .u8 0, .int .u8 0, .int .u8 0, .int .u8 0, .int .u8 0, .int .u8 0, .int .u8 0, .int .u8 0, .int .u8 0, .int .u8 0] 42)) (.cells #[.int .u8 0, .int .u8 0, .int .u8 0, .int .u8 0, .int .u8 0, .int .u8 0, .int .u8 0, .int .u8 0, .int .u8 0, .int .u8 0, .int .u8 0] 42)
        have lhx := hw3.size
        have hne : (V2.alloc (.cells #[.int .u8 0, .int .u8 0, .int .u8 0, .int .u8 0, .int .u8 0, .int .u8 0, .int .u8 0, .int .u8 0, .int .u8 0, .int .u8 0, .int .u8 0] 42)).heap.size ≠ V2.heap.size := (Nat.ne_of_lt hlt12).symm
        refine store_box (v := .agg ((codeOf a).map u8).toArray) (ttOk.get 42 _ rfl) hx4 (by rfl) rfl (by rfl) ?_
        refine store_box (v := .agg ((codeOf b).map u8).toArray) (ttOk.get 42 _ rfl) ((setRow_old (Ne.symm hne)).trans hy4) (by rfl) rfl (by rfl) ?_
        refine ⟨((V2.alloc (.cells #[.int .u8 0, .int .u8 0, .int .u8 0, .int .u8 0, .int .u8 0, .int .u8 0, .int .u8 0, .int .u8 0, .int .u8 0, .int .u8 0, .int .u8 0] 42)).heap.size, V2.heap.size), ⟨.cons rfl (.cons rfl .nil), rfl⟩, (setRow_old hne).trans (setRow_new hx4), setRow_new ((setRow_old (Ne.symm hne)).trans hy4), ?_⟩
        exact below_setRow (below_setRow hw4 lhx _) lhy _
    · refine And.intro ?_ ?_
      · have hb2 : Below V1.heap.size V1 (V1.alloc (.cells #[.int .u8 0, .int .u8 0, .int .u8 0, .int .u8 0, .int .u8 0, .int .u8 0, .int .u8 0, .int .u8 0, .int .u8 0, .int .u8 0, .int .u8 0] 42)) := (Below.refl _ _).alloc (Nat.le_refl _) _
        refine ⟨hb2, ?_⟩
        have hw2 := hw1.trans (hb2.mono hw1.size)
        have hx2 := hnew V1 (.cells #[.int .u8 0, .int .u8 0, .int .u8 0, .int .u8 0, .int .u8 0, .int .u8 0, .int .u8 0, .int .u8 0, .int .u8 0, .int .u8 0, .int .u8 0] 42)
        have lhx := hw1.size
        refine And.intro ?_ ?_
        · refine Calls.mono (code_c b _) ?_
          rintro _ V3 ⟨rfl, hb3⟩
          refine ⟨hb3, ?_⟩
          have hw3 := hw2.trans (hb3.mono hw2.size)
          have hx3 := block_below hb3 hx2
          have hb4 : Below V3.heap.size V3 (V3.alloc (.cells #[.int .u8 0, .int .u8 0, .int .u8 0, .int .u8 0, .int .u8 0, .int .u8 0, .int .u8 0, .int .u8 0, .int .u8 0, .int .u8 0, .int .u8 0] 42)) := (Below.refl _ _).alloc (Nat.le_refl _) _
          refine ⟨hb4, ?_⟩
          have hw4 := hw3.trans (hb4.mono hw3.size)
          have hlt12 : V1.heap.size < V3.heap.size := hlt hx3
          have hx4 := block_below hb4 hx3
          have hy4 := hnew V3 (.cells #[.int .u8 0, .int .u8 0, .int .u8 0, .int .u8 0, .int .u8 0, .int .u8 0, .int .u8 0, .int .u8 0, .int .u8 0, .int .u8 0, .int .u8 0] 42)
          have lhy := hw3.size
          have hne : V1.heap.size ≠ V3.heap.size := Nat.ne_of_lt hlt12
          refine store_box (v := .agg ((codeOf a).map u8).toArray) (ttOk.get 42 _ rfl) hx4 (by rfl) rfl (by rfl) ?_
          refine store_box (v := .agg ((codeOf b).map u8).toArray) (ttOk.get 42 _ rfl) ((setRow_old (Ne.symm hne)).trans hy4) (by rfl) rfl (by rfl) ?_
          refine ⟨(V1.heap.size, V3.heap.size), ⟨.cons rfl (.cons rfl .nil), rfl⟩, (setRow_old hne).trans (setRow_new hx4), setRow_new ((setRow_old (Ne.symm hne)).trans hy4), ?_⟩
          exact below_setRow (below_setRow hw4 lhx _) lhy _
        · have hb3 : Below (V1.alloc (.cells #[.int .u8 0, .int .u8 0, .int .u8 0, .int .u8 0, .int .u8 0, .int .u8 0, .int .u8 0, .int .u8 0, .int .u8 0, .int .u8 0, .int .u8 0] 42)).heap.size (V1.alloc (.cells #[.int .u8 0, .int .u8 0, .int .u8 0, .int .u8 0, .int .u8 0, .int .u8 0, .int .u8 0, .int .u8 0, .int .u8 0, .int .u8 0, .int .u8 0] 42)) ((V1.alloc (.cells #[.int .u8 0, .int .u8 0, .int .u8 0, .int .u8 0, .int .u8 0, .int .u8 0, .int .u8 0, .int .u8 0, .int .u8 0, .int .u8 0, .int .u8 0] 42)).alloc (.cells #[.int .u8 0, .int .u8 0, .int .u8 0, .int .u8 0, .int .u8 0, .int .u8 0, .int .u8 0, .int .u8 0, .int .u8 0, .int .u8 0, .int .u8 0] 42)) := (Below.refl _ _).alloc (Nat.le_refl _) _
          refine ⟨hb3, ?_⟩
          have hw3 := hw2.trans (hb3.mono hw2.size)
          have hlt12 : V1.heap.size < (V1.alloc (.cells #[.int .u8 0, .int .u8 0, .int .u8 0, .int .u8 0, .int .u8 0, .int .u8 0, .int .u8 0, .int .u8 0, .int .u8 0, .int .u8 0, .int .u8 0] 42)).heap.size := hlt hx2
          have hx3 := block_below hb3 hx2
          have hy3 := hnew (V1.alloc (.cells #[.int .u8 0, .int .u8 0, .int .u8 0, .int .u8 0, .int .u8 0, .int .u8 0, .int .u8 0, .int .u8 0, .int .u8 0, .int .u8 0, .int .u8 0] 42)) (.cells #[.int .u8 0, .int .u8 0, .int .u8 0, .int .u8 0, .int .u8 0, .int .u8 0, .int .u8 0, .int .u8 0, .int .u8 0, .int .u8 0, .int .u8 0] 42)
          have lhy := hw2.size
          refine Calls.mono (code_c b _) ?_
          rintro _ V4 ⟨rfl, hb4⟩
          refine ⟨hb4, ?_⟩
          have hw4 := hw3.trans (hb4.mono hw3.size)
          have hx4 := block_below hb4 hx3
          have hy4 := block_below hb4 hy3
          have hne : V1.heap.size ≠ (V1.alloc (.cells #[.int .u8 0, .int .u8 0, .int .u8 0, .int .u8 0, .int .u8 0, .int .u8 0, .int .u8 0, .int .u8 0, .int .u8 0, .int .u8 0, .int .u8 0] 42)).heap.size := Nat.ne_of_lt hlt12
          refine store_box (v := .agg ((codeOf a).map u8).toArray) (ttOk.get 42 _ rfl) hx4 (by rfl) rfl (by rfl) ?_
          refine store_box (v := .agg ((codeOf b).map u8).toArray) (ttOk.get 42 _ rfl) ((setRow_old (Ne.symm hne)).trans hy4) (by rfl) rfl (by rfl) ?_
          refine ⟨(V1.heap.size, (V1.alloc (.cells #[.int .u8 0, .int .u8 0, .int .u8 0, .int .u8 0, .int .u8 0, .int .u8 0, .int .u8 0, .int .u8 0, .int .u8 0, .int .u8 0, .int .u8 0] 42)).heap.size), ⟨.cons rfl (.cons rfl .nil), rfl⟩, (setRow_old hne).trans (setRow_new hx4), setRow_new ((setRow_old (Ne.symm hne)).trans hy4), ?_⟩
          exact below_setRow (below_setRow hw4 lhx _) lhy _
      · have hb2 : Below V1.heap.size V1 (V1.alloc (.cells #[.int .u8 0, .int .u8 0, .int .u8 0, .int .u8 0, .int .u8 0, .int .u8 0, .int .u8 0, .int .u8 0, .int .u8 0, .int .u8 0, .int .u8 0] 42)) := (Below.refl _ _).alloc (Nat.le_refl _) _
        refine ⟨hb2, ?_⟩
        have hw2 := hw1.trans (hb2.mono hw1.size)
        have hy2 := hnew V1 (.cells #[.int .u8 0, .int .u8 0, .int .u8 0, .int .u8 0, .int .u8 0, .int .u8 0, .int .u8 0, .int .u8 0, .int .u8 0, .int .u8 0, .int .u8 0] 42)
        have lhy := hw1.size
        refine And.intro ?_ ?_
        · refine Calls.mono (code_c b _) ?_
          rintro _ V3 ⟨rfl, hb3⟩
          refine ⟨hb3, ?_⟩
          have hw3 := hw2.trans (hb3.mono hw2.size)
          have hy3 := block_below hb3 hy2
          have hb4 : Below V3.heap.size V3 (V3.alloc (.cells #[.int .u8 0, .int .u8 0, .int .u8 0, .int .u8 0, .int .u8 0, .int .u8 0, .int .u8 0, .int .u8 0, .int .u8 0, .int .u8 0, .int .u8 0] 42)) := (Below.refl _ _).alloc (Nat.le_refl _) _
          refine ⟨hb4, ?_⟩
          have hw4 := hw3.trans (hb4.mono hw3.size)
          have hlt12 : V1.heap.size < V3.heap.size := hlt hy3
          have hy4 := block_below hb4 hy3
          have hx4 := hnew V3 (.cells #[.int .u8 0, .int .u8 0, .int .u8 0, .int .u8 0, .int .u8 0, .int .u8 0, .int .u8 0, .int .u8 0, .int .u8 0, .int .u8 0, .int .u8 0] 42)
          have lhx := hw3.size
          have hne : V3.heap.size ≠ V1.heap.size := (Nat.ne_of_lt hlt12).symm
          refine store_box (v := .agg ((codeOf a).map u8).toArray) (ttOk.get 42 _ rfl) hx4 (by rfl) rfl (by rfl) ?_
          refine store_box (v := .agg ((codeOf b).map u8).toArray) (ttOk.get 42 _ rfl) ((setRow_old (Ne.symm hne)).trans hy4) (by rfl) rfl (by rfl) ?_
          refine ⟨(V3.heap.size, V1.heap.size), ⟨.cons rfl (.cons rfl .nil), rfl⟩, (setRow_old hne).trans (setRow_new hx4), setRow_new ((setRow_old (Ne.symm hne)).trans hy4), ?_⟩
          exact below_setRow (below_setRow hw4 lhx _) lhy _
        · have hb3 : Below (V1.alloc (.cells #[.int .u8 0, .int .u8 0, .int .u8 0, .int .u8 0, .int .u8 0, .int .u8 0, .int .u8 0, .int .u8 0, .int .u8 0, .int .u8 0, .int .u8 0] 42)).heap.size (V1.alloc (.cells #[.int .u8 0, .int .u8 0, .int .u8 0, .int .u8 0, .int .u8 0, .int .u8 0, .int .u8 0, .int .u8 0, .int .u8 0, .int .u8 0, .int .u8 0] 42)) ((V1.alloc (.cells #[.int .u8 0, .int .u8 0, .int .u8 0, .int .u8 0, .int .u8 0, .int .u8 0, .int .u8 0, .int .u8 0, .int .u8 0, .int .u8 0, .int .u8 0] 42)).alloc (.cells #[.int .u8 0, .int .u8 0, .int .u8 0, .int .u8 0, .int .u8 0, .int .u8 0, .int .u8 0, .int .u8 0, .int .u8 0, .int .u8 0, .int .u8 0] 42)) := (Below.refl _ _).alloc (Nat.le_refl _) _
          refine ⟨hb3, ?_⟩
          have hw3 := hw2.trans (hb3.mono hw2.size)
          have hlt12 : V1.heap.size < (V1.alloc (.cells #[.int .u8 0, .int .u8 0, .int .u8 0, .int .u8 0, .int .u8 0, .int .u8 0, .int .u8 0, .int .u8 0, .int .u8 0, .int .u8 0, .int .u8 0] 42)).heap.size := hlt hy2
          have hy3 := block_below hb3 hy2
          have hx3 := hnew (V1.alloc (.cells #[.int .u8 0, .int .u8 0, .int .u8 0, .int .u8 0, .int .u8 0, .int .u8 0, .int .u8 0, .int .u8 0, .int .u8 0, .int .u8 0, .int .u8 0] 42)) (.cells #[.int .u8 0, .int .u8 0, .int .u8 0, .int .u8 0, .int .u8 0, .int .u8 0, .int .u8 0, .int .u8 0, .int .u8 0, .int .u8 0, .int .u8 0] 42)
          have lhx := hw2.size
          refine Calls.mono (code_c b _) ?_
          rintro _ V4 ⟨rfl, hb4⟩
          refine ⟨hb4, ?_⟩
          have hw4 := hw3.trans (hb4.mono hw3.size)
          have hy4 := block_below hb4 hy3
          have hx4 := block_below hb4 hx3
          have hne : (V1.alloc (.cells #[.int .u8 0, .int .u8 0, .int .u8 0, .int .u8 0, .int .u8 0, .int .u8 0, .int .u8 0, .int .u8 0, .int .u8 0, .int .u8 0, .int .u8 0] 42)).heap.size ≠ V1.heap.size := (Nat.ne_of_lt hlt12).symm
          refine store_box (v := .agg ((codeOf a).map u8).toArray) (ttOk.get 42 _ rfl) hx4 (by rfl) rfl (by rfl) ?_
          refine store_box (v := .agg ((codeOf b).map u8).toArray) (ttOk.get 42 _ rfl) ((setRow_old (Ne.symm hne)).trans hy4) (by rfl) rfl (by rfl) ?_
          refine ⟨((V1.alloc (.cells #[.int .u8 0, .int .u8 0, .int .u8 0, .int .u8 0, .int .u8 0, .int .u8 0, .int .u8 0, .int .u8 0, .int .u8 0, .int .u8 0, .int .u8 0] 42)).heap.size, V1.heap.size), ⟨.cons rfl (.cons rfl .nil), rfl⟩, (setRow_old hne).trans (setRow_new hx4), setRow_new ((setRow_old (Ne.symm hne)).trans hy4), ?_⟩
          exact below_setRow (below_setRow hw4 lhx _) lhy _
  · refine And.intro ?_ ?_
    · have hb1 : Below W.heap.size W (W.alloc (.cells #[.int .u8 0, .int .u8 0, .int .u8 0, .int .u8 0, .int .u8 0, .int .u8 0, .int .u8 0, .int .u8 0, .int .u8 0, .int .u8 0, .int .u8 0] 42)) := (Below.refl _ _).alloc (Nat.le_refl _) _
      refine ⟨hb1, ?_⟩
      have hw1 := hbW.trans (hb1.mono hbW.size)
      have hx1 := hnew W (.cells #[.int .u8 0, .int .u8 0, .int .u8 0, .int .u8 0, .int .u8 0, .int .u8 0, .int .u8 0, .int .u8 0, .int .u8 0, .int .u8 0, .int .u8 0] 42)
      have lhx := hbW.size
      refine And.intro ?_ ?_
      · refine Calls.mono (code_c a _) ?_
        rintro _ V2 ⟨rfl, hb2⟩
        refine ⟨hb2, ?_⟩
        have hw2 := hw1.trans (hb2.mono hw1.size)
        have hx2 := block_below hb2 hx1
        refine And.intro ?_ ?_
        · refine Calls.mono (code_c b _) ?_
          rintro _ V3 ⟨rfl, hb3⟩
          refine ⟨hb3, ?_⟩
          have hw3 := hw2.trans (hb3.mono hw2.size)
          have hx3 := block_below hb3 hx2
          have hb4 : Below V3.heap.size V3 (V3.alloc (.cells #[.int .u8 0, .int .u8 0, .int .u8 0, .int .u8 0, .int .u8 0, .int .u8 0, .int .u8 0, .int .u8 0, .int .u8 0, .int .u8 0, .int .u8 0] 42)) := (Below.refl _ _).alloc (Nat.le_refl _) _
          refine ⟨hb4, ?_⟩
          have hw4 := hw3.trans (hb4.mono hw3.size)
          have hlt12 : W.heap.size < V3.heap.size := hlt hx3
          have hx4 := block_below hb4 hx3
          have hy4 := hnew V3 (.cells #[.int .u8 0, .int .u8 0, .int .u8 0, .int .u8 0, .int .u8 0, .int .u8 0, .int .u8 0, .int .u8 0, .int .u8 0, .int .u8 0, .int .u8 0] 42)
          have lhy := hw3.size
          have hne : W.heap.size ≠ V3.heap.size := Nat.ne_of_lt hlt12
          refine store_box (v := .agg ((codeOf a).map u8).toArray) (ttOk.get 42 _ rfl) hx4 (by rfl) rfl (by rfl) ?_
          refine store_box (v := .agg ((codeOf b).map u8).toArray) (ttOk.get 42 _ rfl) ((setRow_old (Ne.symm hne)).trans hy4) (by rfl) rfl (by rfl) ?_
          refine ⟨(W.heap.size, V3.heap.size), ⟨.cons rfl (.cons rfl .nil), rfl⟩, (setRow_old hne).trans (setRow_new hx4), setRow_new ((setRow_old (Ne.symm hne)).trans hy4), ?_⟩
          exact below_setRow (below_setRow hw4 lhx _) lhy _
        · have hb3 : Below V2.heap.size V2 (V2.alloc (.cells #[.int .u8 0, .int .u8 0, .int .u8 0, .int .u8 0, .int .u8 0, .int .u8 0, .int .u8 0, .int .u8 0, .int .u8 0, .int .u8 0, .int .u8 0] 42)) := (Below.refl _ _).alloc (Nat.le_refl _) _
          refine ⟨hb3, ?_⟩
          have hw3 := hw2.trans (hb3.mono hw2.size)
          have hlt12 : W.heap.size < V2.heap.size := hlt hx2
          have hx3 := block_below hb3 hx2
          have hy3 := hnew V2 (.cells #[.int .u8 0, .int .u8 0, .int .u8 0, .int .u8 0, .int .u8 0, .int .u8 0, .int .u8 0, .int .u8 0, .int .u8 0, .int .u8 0, .int .u8 0] 42)
          have lhy := hw2.size
          refine Calls.mono (code_c b _) ?_
          rintro _ V4 ⟨rfl, hb4⟩
          refine ⟨hb4, ?_⟩
          have hw4 := hw3.trans (hb4.mono hw3.size)
          have hx4 := block_below hb4 hx3
          have hy4 := block_below hb4 hy3
          have hne : W.heap.size ≠ V2.heap.size := Nat.ne_of_lt hlt12
          refine store_box (v := .agg ((codeOf a).map u8).toArray) (ttOk.get 42 _ rfl) hx4 (by rfl) rfl (by rfl) ?_
          refine store_box (v := .agg ((codeOf b).map u8).toArray) (ttOk.get 42 _ rfl) ((setRow_old (Ne.symm hne)).trans hy4) (by rfl) rfl (by rfl) ?_
          refine ⟨(W.heap.size, V2.heap.size), ⟨.cons rfl (.cons rfl .nil), rfl⟩, (setRow_old hne).trans (setRow_new hx4), setRow_new ((setRow_old (Ne.symm hne)).trans hy4), ?_⟩
          exact below_setRow (below_setRow hw4 lhx _) lhy _
      · have hb2 : Below (W.alloc (.cells #[.int .u8 0, .int .u8 0, .int .u8 0, .int .u8 0, .int .u8 0, .int .u8 0, .int .u8 0, .int .u8 0, .int .u8 0, .int .u8 0, .int .u8 0] 42)).heap.size (W.alloc (.cells #[.int .u8 0, .int .u8 0, .int .u8 0, .int .u8 0, .int .u8 0, .int .u8 0, .int .u8 0, .int .u8 0, .int .u8 0, .int .u8 0, .int .u8 0] 42)) ((W.alloc (.cells #[.int .u8 0, .int .u8 0, .int .u8 0, .int .u8 0, .int .u8 0, .int .u8 0, .int .u8 0, .int .u8 0, .int .u8 0, .int .u8 0, .int .u8 0] 42)).alloc (.cells #[.int .u8 0, .int .u8 0, .int .u8 0, .int .u8 0, .int .u8 0, .int .u8 0, .int .u8 0, .int .u8 0, .int .u8 0, .int .u8 0, .int .u8 0] 42)) := (Below.refl _ _).alloc (Nat.le_refl _) _
        refine ⟨hb2, ?_⟩
        have hw2 := hw1.trans (hb2.mono hw1.size)
        have hlt12 : W.heap.size < (W.alloc (.cells #[.int .u8 0, .int .u8 0, .int .u8 0, .int .u8 0, .int .u8 0, .int .u8 0, .int .u8 0, .int .u8 0, .int .u8 0, .int .u8 0, .int .u8 0] 42)).heap.size := hlt hx1
        have hx2 := block_below hb2 hx1
        have hy2 := hnew (W.alloc (.cells #[.int .u8 0, .int .u8 0, .int .u8 0, .int .u8 0, .int .u8 0, .int .u8 0, .int .u8 0, .int .u8 0, .int .u8 0, .int .u8 0, .int .u8 0] 42)) (.cells #[.int .u8 0, .int .u8 0, .int .u8 0, .int .u8 0, .int .u8 0, .int .u8 0, .int .u8 0, .int .u8 0, .int .u8 0, .int .u8 0, .int .u8 0] 42)
        have lhy := hw1.size
        refine Calls.mono (code_c a _) ?_
        rintro _ V3 ⟨rfl, hb3⟩
        refine ⟨hb3, ?_⟩
        have hw3 := hw2.trans (hb3.mono hw2.size)
        have hx3 := block_below hb3 hx2
        have hy3 := block_below hb3 hy2
        refine Calls.mono (code_c b _) ?_
        rintro _ V4 ⟨rfl, hb4⟩
        refine ⟨hb4, ?_⟩
        have hw4 := hw3.trans (hb4.mono hw3.size)
        have hx4 := block_below hb4 hx3
        have hy4 := block_below hb4 hy3
        have hne : W.heap.size ≠ (W.alloc (.cells #[.int .u8 0, .int .u8 0, .int .u8 0, .int .u8 0, .int .u8 0, .int .u8 0, .int .u8 0, .int .u8 0, .int .u8 0, .int .u8 0, .int .u8 0] 42)).heap.size := Nat.ne_of_lt hlt12
        refine store_box (v := .agg ((codeOf a).map u8).toArray) (ttOk.get 42 _ rfl) hx4 (by rfl) rfl (by rfl) ?_
        refine store_box (v := .agg ((codeOf b).map u8).toArray) (ttOk.get 42 _ rfl) ((setRow_old (Ne.symm hne)).trans hy4) (by rfl) rfl (by rfl) ?_
        refine ⟨(W.heap.size, (W.alloc (.cells #[.int .u8 0, .int .u8 0, .int .u8 0, .int .u8 0, .int .u8 0, .int .u8 0, .int .u8 0, .int .u8 0, .int .u8 0, .int .u8 0, .int .u8 0] 42)).heap.size), ⟨.cons rfl (.cons rfl .nil), rfl⟩, (setRow_old hne).trans (setRow_new hx4), setRow_new ((setRow_old (Ne.symm hne)).trans hy4), ?_⟩
        exact below_setRow (below_setRow hw4 lhx _) lhy _
    · have hb1 : Below W.heap.size W (W.alloc (.cells #[.int .u8 0, .int .u8 0, .int .u8 0, .int .u8 0, .int .u8 0, .int .u8 0, .int .u8 0, .int .u8 0, .int .u8 0, .int .u8 0, .int .u8 0] 42)) := (Below.refl _ _).alloc (Nat.le_refl _) _
      refine ⟨hb1, ?_⟩
      have hw1 := hbW.trans (hb1.mono hbW.size)
      have hy1 := hnew W (.cells #[.int .u8 0, .int .u8 0, .int .u8 0, .int .u8 0, .int .u8 0, .int .u8 0, .int .u8 0, .int .u8 0, .int .u8 0, .int .u8 0, .int .u8 0] 42)
      have lhy := hbW.size
      refine And.intro ?_ ?_
      · refine Calls.mono (code_c a _) ?_
        rintro _ V2 ⟨rfl, hb2⟩
        refine ⟨hb2, ?_⟩
        have hw2 := hw1.trans (hb2.mono hw1.size)
        have hy2 := block_below hb2 hy1
        refine And.intro ?_ ?_
        · refine Calls.mono (code_c b _) ?_
          rintro _ V3 ⟨rfl, hb3⟩
          refine ⟨hb3, ?_⟩
          have hw3 := hw2.trans (hb3.mono hw2.size)
          have hy3 := block_below hb3 hy2
          have hb4 : Below V3.heap.size V3 (V3.alloc (.cells #[.int .u8 0, .int .u8 0, .int .u8 0, .int .u8 0, .int .u8 0, .int .u8 0, .int .u8 0, .int .u8 0, .int .u8 0, .int .u8 0, .int .u8 0] 42)) := (Below.refl _ _).alloc (Nat.le_refl _) _
          refine ⟨hb4, ?_⟩
          have hw4 := hw3.trans (hb4.mono hw3.size)
          have hlt12 : W.heap.size < V3.heap.size := hlt hy3
          have hy4 := block_below hb4 hy3
          have hx4 := hnew V3 (.cells #[.int .u8 0, .int .u8 0, .int .u8 0, .int .u8 0, .int .u8 0, .int .u8 0, .int .u8 0, .int .u8 0, .int .u8 0, .int .u8 0, .int .u8 0] 42)
          have lhx := hw3.size
          have hne : V3.heap.size ≠ W.heap.size := (Nat.ne_of_lt hlt12).symm
          refine store_box (v := .agg ((codeOf a).map u8).toArray) (ttOk.get 42 _ rfl) hx4 (by rfl) rfl (by rfl) ?_
          refine store_box (v := .agg ((codeOf b).map u8).toArray) (ttOk.get 42 _ rfl) ((setRow_old (Ne.symm hne)).trans hy4) (by rfl) rfl (by rfl) ?_
          refine ⟨(V3.heap.size, W.heap.size), ⟨.cons rfl (.cons rfl .nil), rfl⟩, (setRow_old hne).trans (setRow_new hx4), setRow_new ((setRow_old (Ne.symm hne)).trans hy4), ?_⟩
          exact below_setRow (below_setRow hw4 lhx _) lhy _
        · have hb3 : Below V2.heap.size V2 (V2.alloc (.cells #[.int .u8 0, .int .u8 0, .int .u8 0, .int .u8 0, .int .u8 0, .int .u8 0, .int .u8 0, .int .u8 0, .int .u8 0, .int .u8 0, .int .u8 0] 42)) := (Below.refl _ _).alloc (Nat.le_refl _) _
          refine ⟨hb3, ?_⟩
          have hw3 := hw2.trans (hb3.mono hw2.size)
          have hlt12 : W.heap.size < V2.heap.size := hlt hy2
          have hy3 := block_below hb3 hy2
          have hx3 := hnew V2 (.cells #[.int .u8 0, .int .u8 0, .int .u8 0, .int .u8 0, .int .u8 0, .int .u8 0, .int .u8 0, .int .u8 0, .int .u8 0, .int .u8 0, .int .u8 0] 42)
          have lhx := hw2.size
          refine Calls.mono (code_c b _) ?_
          rintro _ V4 ⟨rfl, hb4⟩
          refine ⟨hb4, ?_⟩
          have hw4 := hw3.trans (hb4.mono hw3.size)
          have hy4 := block_below hb4 hy3
          have hx4 := block_below hb4 hx3
          have hne : V2.heap.size ≠ W.heap.size := (Nat.ne_of_lt hlt12).symm
          refine store_box (v := .agg ((codeOf a).map u8).toArray) (ttOk.get 42 _ rfl) hx4 (by rfl) rfl (by rfl) ?_
          refine store_box (v := .agg ((codeOf b).map u8).toArray) (ttOk.get 42 _ rfl) ((setRow_old (Ne.symm hne)).trans hy4) (by rfl) rfl (by rfl) ?_
          refine ⟨(V2.heap.size, W.heap.size), ⟨.cons rfl (.cons rfl .nil), rfl⟩, (setRow_old hne).trans (setRow_new hx4), setRow_new ((setRow_old (Ne.symm hne)).trans hy4), ?_⟩
          exact below_setRow (below_setRow hw4 lhx _) lhy _
      · have hb2 : Below (W.alloc (.cells #[.int .u8 0, .int .u8 0, .int .u8 0, .int .u8 0, .int .u8 0, .int .u8 0, .int .u8 0, .int .u8 0, .int .u8 0, .int .u8 0, .int .u8 0] 42)).heap.size (W.alloc (.cells #[.int .u8 0, .int .u8 0, .int .u8 0, .int .u8 0, .int .u8 0, .int .u8 0, .int .u8 0, .int .u8 0, .int .u8 0, .int .u8 0, .int .u8 0] 42)) ((W.alloc (.cells #[.int .u8 0, .int .u8 0, .int .u8 0, .int .u8 0, .int .u8 0, .int .u8 0, .int .u8 0, .int .u8 0, .int .u8 0, .int .u8 0, .int .u8 0] 42)).alloc (.cells #[.int .u8 0, .int .u8 0, .int .u8 0, .int .u8 0, .int .u8 0, .int .u8 0, .int .u8 0, .int .u8 0, .int .u8 0, .int .u8 0, .int .u8 0] 42)) := (Below.refl _ _).alloc (Nat.le_refl _) _
        refine ⟨hb2, ?_⟩
        have hw2 := hw1.trans (hb2.mono hw1.size)
        have hlt12 : W.heap.size < (W.alloc (.cells #[.int .u8 0, .int .u8 0, .int .u8 0, .int .u8 0, .int .u8 0, .int .u8 0, .int .u8 0, .int .u8 0, .int .u8 0, .int .u8 0, .int .u8 0] 42)).heap.size := hlt hy1
        have hy2 := block_below hb2 hy1
        have hx2 := hnew (W.alloc (.cells #[.int .u8 0, .int .u8 0, .int .u8 0, .int .u8 0, .int .u8 0, .int .u8 0, .int .u8 0, .int .u8 0, .int .u8 0, .int .u8 0, .int .u8 0] 42)) (.cells #[.int .u8 0, .int .u8 0, .int .u8 0, .int .u8 0, .int .u8 0, .int .u8 0, .int .u8 0, .int .u8 0, .int .u8 0, .int .u8 0, .int .u8 0] 42)
        have lhx := hw1.size
        refine Calls.mono (code_c a _) ?_
        rintro _ V3 ⟨rfl, hb3⟩
        refine ⟨hb3, ?_⟩
        have hw3 := hw2.trans (hb3.mono hw2.size)
        have hy3 := block_below hb3 hy2
        have hx3 := block_below hb3 hx2
        refine Calls.mono (code_c b _) ?_
        rintro _ V4 ⟨rfl, hb4⟩
        refine ⟨hb4, ?_⟩
        have hw4 := hw3.trans (hb4.mono hw3.size)
        have hy4 := block_below hb4 hy3
        have hx4 := block_below hb4 hx3
        have hne : (W.alloc (.cells #[.int .u8 0, .int .u8 0, .int .u8 0, .int .u8 0, .int .u8 0, .int .u8 0, .int .u8 0, .int .u8 0, .int .u8 0, .int .u8 0, .int .u8 0] 42)).heap.size ≠ W.heap.size := (Nat.ne_of_lt hlt12).symm
        refine store_box (v := .agg ((codeOf a).map u8).toArray) (ttOk.get 42 _ rfl) hx4 (by rfl) rfl (by rfl) ?_
        refine store_box (v := .agg ((codeOf b).map u8).toArray) (ttOk.get 42 _ rfl) ((setRow_old (Ne.symm hne)).trans hy4) (by rfl) rfl (by rfl) ?_
        refine ⟨((W.alloc (.cells #[.int .u8 0, .int .u8 0, .int .u8 0, .int .u8 0, .int .u8 0, .int .u8 0, .int .u8 0, .int .u8 0, .int .u8 0, .int .u8 0, .int .u8 0] 42)).heap.size, W.heap.size), ⟨.cons rfl (.cons rfl .nil), rfl⟩, (setRow_old hne).trans (setRow_new hx4), setRow_new ((setRow_old (Ne.symm hne)).trans hy4), ?_⟩
        exact below_setRow (below_setRow hw4 lhx _) lhy _
end Go.Proofs.YtkekidalckflhaaDoor
