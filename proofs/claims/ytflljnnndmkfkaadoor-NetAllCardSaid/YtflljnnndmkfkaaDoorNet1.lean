/- Contracts: known, Class, queue. -/
import Derived.Test.YtflljnnndmkfkaaDoorMsgM
import Derived.Test.YtflljnnndmkfkaaDoorSig
namespace Go.Proofs.YtflljnnndmkfkaaDoor
open Go.Vc Go.RowKit Go.Sei

theorem known_c (m : UInt8) (w : World) : Calls Tryd.prog 18 #[u8 m] w fun e w' => e = .returned (.bool (knownB m)) ∧ w = w' := by
  refine calls_of_E (S := sg 9) (sgOk _) (args := [u8 m]) Tryd.func18 rfl rfl (Nat.le_of_ble_eq_true rfl) rfl ?_
  refine And.intro (fun h => ?_) (fun h => ?_)
  · exact And.intro (rb (by unfold knownB; rw [h]; rfl)) rfl
  · exact And.intro (rb (by unfold knownB; rw [h]; rfl)) rfl

theorem Class_c (k : UInt8) (w : World) (hg : Glob w) : Calls Tryd.prog 30 #[u8 k] w fun e w' => e = .returned (u8 (classOf k)) ∧ w = w' := by
  refine calls_of_E (S := sg 9) (sgOk _) (args := [u8 k]) Tryd.func30 rfl rfl (Nat.le_of_ble_eq_true rfl) rfl ?_
  refine ⟨_, wrap_u8_i64 k, ?_⟩
  refine And.intro (fun h => ?_) (fun h => ?_)
  · have h := of_decide_eq_true h
    refine And.intro ?_ rfl
    have : classOf k = 0 := by
      unfold classOf
      rw [List.getD_eq_getElem?_getD, List.getElem?_eq_none (by simp only [classes, List.length_cons, List.length_nil]; omega)]; rfl
    rw [this]; rfl
  · have h := of_decide_eq_false h
    refine ⟨k.toNat, rfl, by omega, ?_⟩
    have hk : (classes.map u8)[k.toNat]? = some (u8 (classOf k)) := by
      have hl : k.toNat < classes.length := by simp only [classes, List.length_cons, List.length_nil]; omega
      rw [List.getElem?_map, List.getElem?_eq_getElem hl]
      simp only [classOf, List.getD_eq_getElem?_getD, List.getElem?_eq_getElem hl, Option.map_some, Option.getD_some]
    have := cells_at hg hk
    refine ⟨_, by rw [Nat.mul_one]; exact this, ?_⟩
    exact And.intro rfl rfl

theorem queue_c (m : Msg) (mode : UInt8) (w : World) (hg : Glob w) : Calls Tryd.prog 24 #[m.val, u8 mode] w fun e w' => e = .returned (.agg (qcells (queue m mode)).toArray) ∧ Below w.heap.size w w' := by
  refine calls_of_E (S := sg 20) (sgOk _) (args := [m.val, u8 mode]) Tryd.func24 rfl rfl (Nat.le_of_ble_eq_true rfl) rfl ?_
  have hb1 : Below w.heap.size w ((w.alloc (.cells m.val.cells 30)).alloc (.cells #[.int .u8 0, .int .u8 0, .int .u8 0] 50)) := ((Below.refl _ _).alloc (Nat.le_refl _) _).alloc (by simp) _
  have f1 := hold (.cells #[.int .u8 0, .int .u8 0, .int .u8 0] 50) (hnew w (.cells m.val.cells 30))
  have f2 := hnew (w.alloc (.cells m.val.cells 30)) (.cells #[.int .u8 0, .int .u8 0, .int .u8 0] 50)
  have c1 := cells_block f1
  refine And.intro (fun h => ?_) (fun h => ?_)
  · have h := of_decide_eq_true h
    have h3 : mode = 3 := u8_eq.1 h
    refine DrawE.ord [8] [0, 1, 2, 3, 4, 5, 6, 7, 8] (by kernel_rfl) ?_
    refine ⟨_, cells_at c1 (i := 1) rfl, ?_⟩
    refine ⟨_, cells_at c1 (i := 2) rfl, ?_⟩
    refine ⟨_, cells_at c1 (i := 0) rfl, ?_⟩
    refine Calls.mono (Class_c m.kind _ (hg.below hb1.drew)) ?_
    rintro e w' ⟨rfl, rfl⟩
    refine ⟨Below.refl _ _, ?_⟩
    refine ⟨[u8 m.from_, u8 m.to, u8 (classOf m.kind)], rfl, ?_⟩
    refine store_box (ttOk.get 50 _ rfl) (hdr f2) (by rfl) rfl (by rfl) ?_
    refine ⟨[u8 m.from_, u8 m.to, u8 (classOf m.kind)], rfl, cells_block (setRow_new (hdr f2)), And.intro ?_ (below_setRow hb1.drew (by simp) _)⟩
    simp only [queue, h3, if_true]
    rfl
  · have h := of_decide_eq_false h
    have h3 : ¬ mode = 3 := fun e => h (u8_eq.2 e)
    refine ⟨_, cells_at c1 (i := 1) rfl, ?_⟩
    refine ⟨_, cells_at c1 (i := 2) rfl, ?_⟩
    refine ⟨[u8 m.from_, u8 m.to, u8 0], rfl, ?_⟩
    refine store_box (ttOk.get 50 _ rfl) f2 (by rfl) rfl (by rfl) ?_
    refine ⟨[u8 m.from_, u8 m.to, u8 0], rfl, cells_block (setRow_new f2), And.intro ?_ (below_setRow hb1 (by simp) _)⟩
    simp only [queue, h3, if_false]
    rfl
end Go.Proofs.YtflljnnndmkfkaaDoor
