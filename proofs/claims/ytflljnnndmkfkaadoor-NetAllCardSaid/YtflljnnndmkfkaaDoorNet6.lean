/- Contracts: awake. -/
import Derived.Test.YtflljnnndmkfkaaDoorNet5
namespace Go.Proofs.YtflljnnndmkfkaaDoor
open Go.Vc Go.RowKit Go.Sei

def aw1 : Msg := ⟨1, 0, 2, 0, 0, 0, false, 0, 0, 0, 0⟩
def aw2 : Msg := ⟨4, 0, 2, 0, 0, 0, false, 0, 0, 0, 0⟩
def aw3 : Msg := ⟨2, 1, 2, 0, 0, 0, false, 0, 0, 0, 0⟩

theorem awake_c (w : World) (hg : Glob w) : Calls Tryd.prog 7 #[] w fun e w' => e = .returned (.bool true) ∧ Below w.heap.size w w' := by
  refine calls_of_E (S := sg 22) (sgOk _) (args := []) Tryd.func7 rfl rfl (Nat.le_of_ble_eq_true rfl) rfl ?_
  refine ⟨aw1.enc, rfl, ?_⟩
  refine ⟨aw2.enc, rfl, ?_⟩
  refine ⟨aw3.enc, rfl, ?_⟩
  refine ⟨⟨by decide, by decide, rfl⟩, [aw1, aw2, aw3].flatMap Msg.enc, rfl, ?_⟩
  obtain ⟨W1, hW1⟩ : ∃ W1, W1 = w.alloc (.cells ([aw1, aw2, aw3].flatMap Msg.enc).toArray 30) := ⟨_, rfl⟩
  have hb1 : Below w.heap.size w W1 := hW1 ▸ (Below.refl _ _).alloc (Nat.le_refl _) _
  have hl : SlR Msg.E W1 (some ⟨w.heap.size, 0, none⟩) [aw1, aw2, aw3] := by
    rw [hW1]; exact SlR.of_cells (by simp) cells_new
  rw [← hW1]
  have a1 : nextL [aw1, aw2, aw3] 1 = [0, 1, 2] := by decide
  have a2 : nextL [aw1, aw2, aw3] 2 = [0, 2] := by decide
  have a3 : nextL [aw1, aw2, aw3] 3 = [0, 1, 2] := by decide
  have hg1 := hg.below hb1
  refine Calls.mono (Next_c (some ⟨w.heap.size, 0, none⟩) 3 [aw1, aw2, aw3] 1 W1 hl hg1 (by decide)) ?_
  rintro e W2 ⟨p2, c2, rfl, h2, hb2⟩
  rw [a1] at h2 ⊢
  refine ⟨⟨by decide, by decide, rfl⟩, [.int .i64 0, .int .i64 1, .int .i64 2], rfl, ?_⟩
  have hb3 : Below W2.heap.size W2 (W2.alloc (.cells #[.int .i64 0, .int .i64 1, .int .i64 2] 3)) := (Below.refl _ _).alloc (Nat.le_refl _) _
  refine Calls.mono (same_c p2 (some ⟨W2.heap.size, 0, none⟩) c2 3 (nats [0, 1, 2]) (nats [0, 1, 2]) _ (h2.below hb3) (SlR.of_cells (by simp) cells_new) (by decide)) ?_
  rintro e W4 ⟨rfl, hb4⟩
  have hbA : Below w.heap.size w W4 := ((hb1.trans (hb2.mono hb1.size)).trans (hb3.mono (Nat.le_trans hb1.size hb2.size))).trans (hb4.mono (Nat.le_trans (Nat.le_trans hb1.size hb2.size) hb3.size))
  have hb1A : Below W1.heap.size W1 W4 := (hb2.trans (hb3.mono hb2.size)).trans (hb4.mono (Nat.le_trans hb2.size hb3.size))
  refine And.intro (fun _ => ?_) (fun h => by simp at h)
  refine Calls.mono (Next_c (some ⟨w.heap.size, 0, none⟩) 3 [aw1, aw2, aw3] 2 W4 (hl.below hb1A) (hg1.below hb1A) (by decide)) ?_
  rintro e W5 ⟨p5, c5, rfl, h5, hb5⟩
  rw [a2] at h5 ⊢
  refine ⟨⟨by decide, by decide, rfl⟩, [.int .i64 0, .int .i64 2], rfl, ?_⟩
  have hb6 : Below W5.heap.size W5 (W5.alloc (.cells #[.int .i64 0, .int .i64 2] 3)) := (Below.refl _ _).alloc (Nat.le_refl _) _
  refine Calls.mono (same_c p5 (some ⟨W5.heap.size, 0, none⟩) c5 2 (nats [0, 2]) (nats [0, 2]) _ (h5.below hb6) (SlR.of_cells (by simp) cells_new) (by decide)) ?_
  rintro e W7 ⟨rfl, hb7⟩
  have hbB : Below W4.heap.size W4 W7 := (hb5.trans (hb6.mono hb5.size)).trans (hb7.mono (Nat.le_trans hb5.size hb6.size))
  have hb1B : Below W1.heap.size W1 W7 := hb1A.trans (hbB.mono hb1A.size)
  refine And.intro (fun _ => ?_) (fun h => by simp at h)
  refine Calls.mono (Next_c (some ⟨w.heap.size, 0, none⟩) 3 [aw1, aw2, aw3] 3 W7 (hl.below hb1B) (hg1.below hb1B) (by decide)) ?_
  rintro e W8 ⟨p8, c8, rfl, h8, hb8⟩
  rw [a3] at h8 ⊢
  refine ⟨⟨by decide, by decide, rfl⟩, [.int .i64 0, .int .i64 1, .int .i64 2], rfl, ?_⟩
  have hb9 : Below W8.heap.size W8 (W8.alloc (.cells #[.int .i64 0, .int .i64 1, .int .i64 2] 3)) := (Below.refl _ _).alloc (Nat.le_refl _) _
  refine Calls.mono (same_c p8 (some ⟨W8.heap.size, 0, none⟩) c8 3 (nats [0, 1, 2]) (nats [0, 1, 2]) _ (h8.below hb9) (SlR.of_cells (by simp) cells_new) (by decide)) ?_
  rintro e W10 ⟨rfl, hb10⟩
  have hbC : Below W7.heap.size W7 W10 := (hb8.trans (hb9.mono hb8.size)).trans (hb10.mono (Nat.le_trans hb8.size hb9.size))
  have h47 : Below w.heap.size w W7 := hbA.trans (hbB.mono hbA.size)
  refine And.intro (rb ?_) (h47.trans (hbC.mono h47.size))
  simp
end Go.Proofs.YtflljnnndmkfkaaDoor
