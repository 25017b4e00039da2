/- Contracts: msg.code. -/
import Derived.Test.YtkekidalckflhaaDoorCm1
import Derived.Test.YtkekidalckflhaaDoorVcR
import Derived.Laws.CopyRow
namespace Go.Proofs.YtkekidalckflhaaDoor
open Go.Vc Go.RowKit Go.Sei

def codeOf (m : Msg) : List UInt8 := [m.kind, m.from_, m.to, m.line, m.asker, m.acks, if m.alone then 1 else 0, m.d0, m.d1, m.d2, m.d3]

theorem code_c (m : Msg) (w : World) : Calls Tryd.prog 22 #[m.val] w fun e w' => e = .returned (.agg ((codeOf m).map u8).toArray) ∧ Below w.heap.size w w' := by
  refine calls_of_E (S := sg 25) (sgOk _) (args := [m.val]) Tryd.func22 rfl rfl (Nat.le_of_ble_eq_true rfl) rfl ?_
  have c1 := cells_block (hold (.cells #[.int .u8 0, .int .u8 0, .int .u8 0, .int .u8 0, .int .u8 0, .int .u8 0, .int .u8 0, .int .u8 0, .int .u8 0, .int .u8 0, .int .u8 0] 42) (hnew w (.cells m.val.cells 30)))
  refine ⟨_, cells_at c1 (i := 0) rfl, ?_⟩
  refine ⟨_, cells_at c1 (i := 1) rfl, ?_⟩
  refine ⟨_, cells_at c1 (i := 2) rfl, ?_⟩
  refine ⟨_, cells_at c1 (i := 3) rfl, ?_⟩
  refine ⟨_, cells_at c1 (i := 4) rfl, ?_⟩
  refine ⟨_, cells_at c1 (i := 5) rfl, ?_⟩
  refine ⟨[u8 m.kind, u8 m.from_, u8 m.to, u8 m.line, u8 m.asker, u8 m.acks, u8 0, u8 0, u8 0, u8 0, u8 0], rfl, ?_⟩
  obtain ⟨X, hX⟩ : ∃ X, X = (w.alloc (.cells m.val.cells 30)).alloc (.cells #[.int .u8 0, .int .u8 0, .int .u8 0, .int .u8 0, .int .u8 0, .int .u8 0, .int .u8 0, .int .u8 0, .int .u8 0, .int .u8 0, .int .u8 0] 42) := ⟨_, rfl⟩
  have hbX : Below w.heap.size w X := hX ▸ ((Below.refl _ _).alloc (Nat.le_refl _) _).alloc (by simp) _
  have f1 : X.heap[w.heap.size]? = some (.cells m.val.cells 30 (0, 0)) := by rw [hX]; exact hold _ (hnew w _)
  have f2 : X.heap[w.heap.size + 1]? = some (.cells #[.int .u8 0, .int .u8 0, .int .u8 0, .int .u8 0, .int .u8 0, .int .u8 0, .int .u8 0, .int .u8 0, .int .u8 0, .int .u8 0, .int .u8 0] 42 (0, 0)) := by
    have := hnew (w.alloc (.cells m.val.cells 30)) (.cells #[.int .u8 0, .int .u8 0, .int .u8 0, .int .u8 0, .int .u8 0, .int .u8 0, .int .u8 0, .int .u8 0, .int .u8 0, .int .u8 0, .int .u8 0] 42)
    rw [World.size_alloc] at this
    rw [hX]; exact this
  refine store_new (X := (w.alloc (.cells m.val.cells 30)).alloc (.cells #[.int .u8 0, .int .u8 0, .int .u8 0, .int .u8 0, .int .u8 0, .int .u8 0, .int .u8 0, .int .u8 0, .int .u8 0, .int .u8 0, .int .u8 0] 42)) (ttOk.get 42 _ rfl) (by rfl) rfl (by rfl) fun Y hbY f3 sY => ?_
  rw [← hX] at hbY f3 sY
  refine ⟨_, cells_at (cells_block (block_below hbY f1)) (i := 6) rfl, ?_⟩
  have hXs : X.heap.size = w.heap.size + 2 := by rw [hX]; simp
  have hbwY : Below w.heap.size w Y := hbX.trans (hbY.mono hbX.size)
  have f1Y := block_below hbY f1
  have f2Y := block_below hbY f2
  subst hX
  refine And.intro (fun h => ?_) (fun h => ?_)
  · refine ⟨6, rfl, by decide, ?_⟩
    refine store_cell (o := 6) (v := .int .u8 1) (ttOk.get 5 _ rfl) rfl f3 (Nat.le_of_ble_eq_true rfl) rfl rfl fun Z f4 gZ sZ => ?_
    have F : Z.heap[((w.alloc (.cells m.val.cells 30)).alloc (.cells #[.int .u8 0, .int .u8 0, .int .u8 0, .int .u8 0, .int .u8 0, .int .u8 0, .int .u8 0, .int .u8 0, .int .u8 0, .int .u8 0, .int .u8 0] 42)).heap.size]? =
        some (.cells (((codeOf m).take 7).map u8 ++ [u8 0, u8 0, u8 0, u8 0]).toArray 42 (0, 0)) := by
      rw [f4]; simp only [codeOf, h, if_true]; rfl
    refine DrawE.ord [3] [0, 1, 2, 3] (by kernel_rfl) ?_
    refine ⟨7, rfl, by decide, ?_⟩
    have hs5 : (Tryd.prog.info? 5).map (·.size) = some 1 := by kernel_rfl
    have cZ : Cells Z.drew ⟨w.heap.size, 7, none⟩ [u8 m.d0, u8 m.d1, u8 m.d2, u8 m.d3] := by
      have hZ1 : Z.heap[w.heap.size]? = some (.cells m.val.cells 30 (0, 0)) := (gZ.block _ (hlt f1Y) (by simp; omega)).trans f1Y
      exact cells_sub (n := 7) (m := 4) (cells_block (hdr hZ1))
    refine SatR.mk (run_copy_row _ Z.drew 22 22 _ 5 _ 7 4 4 ⟨w.heap.size, 7, none⟩ 4 4 _ _ [u8 m.d0, u8 m.d1, u8 m.d2, u8 m.d3] Tryd.underlying22 hs5 (hdr F) rfl cZ (Nat.le_of_ble_eq_true rfl) (by simp [u8, Value.oneCell'])) ?_
    have G := setRow_new (cs' := ((((codeOf m).take 7).map u8 ++ [u8 0, u8 0, u8 0, u8 0]).toArray.toList.take 7 ++ [u8 m.d0, u8 m.d1, u8 m.d2, u8 m.d3] ++ (((codeOf m).take 7).map u8 ++ [u8 0, u8 0, u8 0, u8 0]).toArray.toList.drop (7 + 4)).toArray) (hdr F)
    have hZ2 := (gZ.block _ (hlt f2Y) (by simp)).trans f2Y
    refine ⟨(codeOf m).map u8, rfl, cells_block G, hlt G, ?_⟩
    refine store_box (v := .agg ((codeOf m).map u8).toArray) (ttOk.get 42 _ rfl) ((setRow_old (g := ((w.alloc (.cells m.val.cells 30)).alloc (.cells #[.int .u8 0, .int .u8 0, .int .u8 0, .int .u8 0, .int .u8 0, .int .u8 0, .int .u8 0, .int .u8 0, .int .u8 0, .int .u8 0, .int .u8 0] 42)).heap.size) (k := (w.alloc (.cells m.val.cells 30)).heap.size) (by simp)).trans (hdr (by rw [World.size_alloc]; exact hZ2))) (by rfl) rfl (by rfl) ?_
    have hbZ : Below w.heap.size w Z := hbwY.grown gZ hbwY.size (fun k e => by simp at e; omega)
    refine ⟨(codeOf m).map u8, rfl, cells_block (setRow_new ((setRow_old (by simp)).trans (hdr (by rw [World.size_alloc]; exact hZ2)))), And.intro rfl ?_⟩
    exact below_setRow (below_setRow hbZ.drew (by simp; omega) _) (by simp) _
  · have F : Y.heap[((w.alloc (.cells m.val.cells 30)).alloc (.cells #[.int .u8 0, .int .u8 0, .int .u8 0, .int .u8 0, .int .u8 0, .int .u8 0, .int .u8 0, .int .u8 0, .int .u8 0, .int .u8 0, .int .u8 0] 42)).heap.size]? =
        some (.cells (((codeOf m).take 7).map u8 ++ [u8 0, u8 0, u8 0, u8 0]).toArray 42 (0, 0)) := by
      rw [f3]; simp only [codeOf, h, Bool.false_eq_true, if_false]; rfl
    refine DrawE.ord [3] [0, 1, 2, 3] (by kernel_rfl) ?_
    refine ⟨7, rfl, by decide, ?_⟩
    have hs5 : (Tryd.prog.info? 5).map (·.size) = some 1 := by kernel_rfl
    have cZ : Cells Y.drew ⟨w.heap.size, 7, none⟩ [u8 m.d0, u8 m.d1, u8 m.d2, u8 m.d3] := by
      have hZ1 : Y.heap[w.heap.size]? = some (.cells m.val.cells 30 (0, 0)) := f1Y
      exact cells_sub (n := 7) (m := 4) (cells_block (hdr hZ1))
    refine SatR.mk (run_copy_row _ Y.drew 22 22 _ 5 _ 7 4 4 ⟨w.heap.size, 7, none⟩ 4 4 _ _ [u8 m.d0, u8 m.d1, u8 m.d2, u8 m.d3] Tryd.underlying22 hs5 (hdr F) rfl cZ (Nat.le_of_ble_eq_true rfl) (by simp [u8, Value.oneCell'])) ?_
    have G := setRow_new (cs' := ((((codeOf m).take 7).map u8 ++ [u8 0, u8 0, u8 0, u8 0]).toArray.toList.take 7 ++ [u8 m.d0, u8 m.d1, u8 m.d2, u8 m.d3] ++ (((codeOf m).take 7).map u8 ++ [u8 0, u8 0, u8 0, u8 0]).toArray.toList.drop (7 + 4)).toArray) (hdr F)
    have hZ2 := f2Y
    refine ⟨(codeOf m).map u8, rfl, cells_block G, hlt G, ?_⟩
    refine store_box (v := .agg ((codeOf m).map u8).toArray) (ttOk.get 42 _ rfl) ((setRow_old (g := ((w.alloc (.cells m.val.cells 30)).alloc (.cells #[.int .u8 0, .int .u8 0, .int .u8 0, .int .u8 0, .int .u8 0, .int .u8 0, .int .u8 0, .int .u8 0, .int .u8 0, .int .u8 0, .int .u8 0] 42)).heap.size) (k := (w.alloc (.cells m.val.cells 30)).heap.size) (by simp)).trans (hdr (by rw [World.size_alloc]; exact hZ2))) (by rfl) rfl (by rfl) ?_
    have hbZ : Below w.heap.size w Y := hbwY
    refine ⟨(codeOf m).map u8, rfl, cells_block (setRow_new ((setRow_old (by simp)).trans (hdr (by rw [World.size_alloc]; exact hZ2)))), And.intro rfl ?_⟩
    exact below_setRow (below_setRow hbZ.drew (by simp; omega) _) (by simp) _
end Go.Proofs.YtkekidalckflhaaDoor
