/- The law MsgOrder: what it computes. -/
import Derived.Test.YtoifcihikokpfaaDoorMg9
import Derived.Test.YtoifcihikokpfaaDoorCm3
import Derived.Test.YtoifcihikokpfaaDoorKeyO
namespace Go.Proofs.YtoifcihikokpfaaDoor
open Go.Vc Go.RowKit Go.Sei

def les (a b : Msg) : Bool := decide (cmpL (codeOf a) (codeOf b) < 0)
theorem les_trans {a b c : Msg} (h : les a b = true) (k : les b c = true) : les a c = true := decide_eq_true (cmpL_trans _ _ _ (of_decide_eq_true h) (of_decide_eq_true k))
theorem les_asymm {a c : Msg} (h : les a c = true) : les c a = false := by
  cases hc : les c a with
  | false => rfl
  | true =>
    have := les_trans h hc
    have := of_decide_eq_true this
    rw [cmpL_self] at this; cases this

theorem msgOrder_c (a b c : Msg) (w : World) (hg : GlobM w) : Calls Tryd.prog 4 #[a.val, b.val, c.val] w fun e w' => e = .returned (.bool true) ∧ Below w.heap.size w w' := by
  refine calls_of_M (S := sg 29) (sgOk _) (args := [a.val, b.val, c.val]) (.c .p (.c .p .p)) Tryd.func4 rfl rfl (Nat.le_of_ble_eq_true rfl) rfl ?_
  refine ⟨Nat × Nat × Nat, fun s => ⟨[(3, .pointer (some ⟨s.1, 0, none⟩)), (4, .pointer (some ⟨s.2.1, 0, none⟩)), (5, .pointer (some ⟨s.2.2, 0, none⟩))], []⟩,
    fun s V => V.heap[s.1]? = some (.cells a.val.cells 27 (0, 0)) ∧ V.heap[s.2.1]? = some (.cells b.val.cells 27 (0, 0)) ∧ V.heap[s.2.2]? = some (.cells c.val.cells 27 (0, 0)) ∧ Below w.heap.size w V, ?_, ?_⟩
  · exact ⟨(_, _, _), ⟨.cons rfl (.cons rfl (.cons rfl .nil)), rfl⟩, hold _ (hold _ (hnew w _)), hold _ (hnew _ _), hnew _ _, (((Below.refl _ _).alloc (Nat.le_refl _) _).alloc (by simp) _).alloc (by simp; omega) _⟩
  rintro ⟨g1, g2, g3⟩ V ⟨f1, f2, f3, hb⟩
  dsimp only at f1 f2 f3
  refine ⟨Unit, fun _ => ⟨[(3, .pointer (some ⟨g1, 0, none⟩)), (4, .pointer (some ⟨g2, 0, none⟩)), (5, .pointer (some ⟨g3, 0, none⟩))], []⟩, fun _ X => Below V.heap.size V X, ?_, ?_⟩
  · refine Calls.mono (awake_c V (hg.below hb)) ?_
    rintro e X ⟨rfl, hbX⟩
    refine And.intro (fun h => by cases h) (fun _ => ?_)
    exact ⟨(), ⟨.cons rfl (.cons rfl (.cons rfl .nil)), rfl⟩, hbX⟩
  rintro _ X hbX
  have hwX := hb.trans (hbX.mono hb.size)
  have x1 := block_below hbX f1
  have x2 := block_below hbX f2
  have x3 := block_below hbX f3
  refine ⟨a.enc, rfl, cells_block x1, hlt x1, ?_⟩
  refine ⟨b.enc, rfl, cells_block x2, hlt x2, ?_⟩
  refine Calls.mono (Less_c a b X) ?_
  rintro e X1 ⟨rfl, hb1⟩
  have hw1 := hwX.trans (hb1.mono hwX.size)
  refine And.intro (fun h1 => ?_) (fun h1 => ?_)
  · have h1 : les a b = true := h1
    refine ⟨b.enc, rfl, cells_block (block_below hb1 x2), hlt (block_below hb1 x2), ?_⟩
    refine ⟨c.enc, rfl, cells_block (block_below hb1 x3), hlt (block_below hb1 x3), ?_⟩
    refine Calls.mono (Less_c b c X1) ?_
    rintro e X2 ⟨rfl, hb2⟩
    have hw2 := hw1.trans (hb2.mono hw1.size)
    have y1 := block_below hb2 (block_below hb1 x1)
    have y3 := block_below hb2 (block_below hb1 x3)
    refine And.intro (fun h2 => ?_) (fun h2 => ?_)
    · have h2 : les b c = false := by
        have : (!les b c) = true := h2
        simpa using this
      exact And.intro rfl hw2
    · have h2 : les b c = true := by
        have : (!les b c) = false := h2
        simpa using this
      have h3 := les_trans h1 h2
      refine ⟨a.enc, rfl, cells_block y1, hlt y1, ?_⟩
      refine ⟨c.enc, rfl, cells_block y3, hlt y3, ?_⟩
      refine Calls.mono (Less_c a c X2) ?_
      rintro e X3 ⟨rfl, hb3⟩
      have hw3 := hw2.trans (hb3.mono hw2.size)
      have z1 := block_below hb3 y1
      have z3 := block_below hb3 y3
      refine And.intro (fun _ => ?_) (fun h4 => ?_)
      · refine ⟨c.enc, rfl, cells_block z3, hlt z3, ?_⟩
        refine ⟨a.enc, rfl, cells_block z1, hlt z1, ?_⟩
        refine Calls.mono (Less_c c a X3) ?_
        rintro e X4 ⟨rfl, hb4⟩
        refine And.intro (rb ?_) (hw3.trans (hb4.mono hw3.size))
        show (!les c a) = true
        rw [les_asymm h3]; rfl
      · have h4 : les a c = false := h4
        rw [h3] at h4; cases h4
  · refine And.intro (fun _ => ?_) (fun h => by cases h)
    exact And.intro rfl hw1
end Go.Proofs.YtoifcihikokpfaaDoor
