/- Law17: letters: has, ends, values, plain; Right. -/
import Derived.Test.YtoifcihikokpfaaDoorGg2
import Derived.Test.YtoifcihikokpfaaDoorMsgE
import Derived.Test.YtoifcihikokpfaaDoorVcS
import Derived.Test.YtoifcihikokpfaaDoorMg7
import Derived.Laws.CopyRow
import Derived.Test.YtoifcihikokpfaaDoorVcJ
namespace Go.Proofs.YtoifcihikokpfaaDoor
open Go.Vc Go.RowKit Go.Sei

def lenc (m : Msg) (g : Geo) (b : UInt8) : List Value := m.enc ++ g.enc ++ [u8 b]
def lval (m : Msg) (g : Geo) (b : UInt8) : Value := .agg (lenc m g b).toArray
def hasB (b bit : UInt8) : Bool := !decide (IntKind.u8.wrap ((BitVec.ofInt 8 (b.toNat : Int) &&& BitVec.ofInt 8 (bit.toNat : Int)).toNat) = 0)
theorem has_c (m : Msg) (g : Geo) (b bit : UInt8) (w : World) : Calls Tryd.prog 46 #[lval m g b, u8 bit] w fun e w' => e = .returned (.bool (hasB b bit)) ∧ Below w.heap.size w w' := by
  refine calls_of_E (S := sg 10) (sgOk _) (args := [lval m g b, u8 bit]) Tryd.func46 rfl rfl (Nat.le_of_ble_eq_true rfl) rfl ?_
  have hb0 : Below w.heap.size w (w.alloc (.cells (lval m g b).cells 58)) := (Below.refl _ _).alloc (Nat.le_refl _) _
  have f0 := hnew w (.cells (lval m g b).cells 58)
  refine ⟨_, cells_at (cells_block f0) (i := 16) rfl, ?_⟩
  refine ⟨_, rfl, ?_⟩
  exact And.intro rfl hb0

def fromL (m : Msg) (g : Geo) (b : UInt8) : Bool := (hasB b 16 && decide (m.from_ = homeOf g m.line)) || (hasB b 32 && isCache g m.from_)
def toL (m : Msg) (g : Geo) (b : UInt8) : Bool := (hasB b 64 && decide (m.to = homeOf g m.line)) || (hasB b 128 && isCache g m.to)
def endsL (m : Msg) (g : Geo) (b : UInt8) : Bool := fromL m g b && toL m g b && !decide (m.from_ = m.to)
theorem u8d (x y : UInt8) : decide ((x.toNat : Int) = (y.toNat : Int)) = decide (x = y) := by rw [decide_eq_decide]; exact u8_eq
section
variable {w V : World} {m : Msg} {g : Geo} {b : UInt8}
/-- A letter's box. -/
structure LBox (m : Msg) (g : Geo) (b : UInt8) (k : Nat) (V : World) : Prop where
  box : V.heap[k]? = some (.cells (lval m g b).cells 58 (0, 0))
theorem LBox.all {k : Nat} (h : LBox m g b k V) : Cells V ⟨k, 0, none⟩ (lenc m g b) := cells_block h.box
theorem LBox.lt {k : Nat} (h : LBox m g b k V) : k < V.heap.size := hlt h.box
theorem LBox.below {k : Nat} (h : LBox m g b k w) (hb : Below w.heap.size w V) : LBox m g b k V := ⟨block_below hb h.box⟩
theorem LBox.geo {k : Nat} (h : LBox m g b k V) : Cells V ⟨k, 11, none⟩ g.enc := by
  refine cells_mk fun i v hv => ?_
  have hi : i < 5 := (List.getElem?_eq_some_iff.1 hv).1
  have : (lenc m g b)[11 + i]? = some v := by
    rw [← hv]
    have h5 : i = 0 ∨ i = 1 ∨ i = 2 ∨ i = 3 ∨ i = 4 := by omega
    rcases h5 with rfl | rfl | rfl | rfl | rfl <;> rfl
  have := cells_at h.all this
  rw [Nat.zero_add] at this
  exact this
theorem LBox.msg {k : Nat} (h : LBox m g b k V) : Cells V ⟨k, 0, none⟩ m.enc := by
  refine cells_mk fun i v hv => ?_
  have hi : i < m.enc.length := (List.getElem?_eq_some_iff.1 hv).1
  have : (lenc m g b)[i]? = some v := by
    rw [← hv]; unfold lenc
    rw [List.append_assoc, List.getElem?_append_left hi]
  exact cells_at h.all this
end

theorem ends_c (m : Msg) (g : Geo) (b : UInt8) (w : World) (hB : BndM w) : Calls Tryd.prog 28 #[lval m g b] w fun e w' => e = .returned (.bool (endsL m g b)) ∧ Below w.heap.size w w' := by
  refine calls_of_M (S := sg 67) (sgOk _) (args := [lval m g b]) (.s .p (.c .p (.c .p (.c .p .p)))) Tryd.func28 rfl rfl (Nat.le_of_ble_eq_true rfl) rfl ?_
  have hb0 : Below w.heap.size w (w.alloc (.cells (lval m g b).cells 58)) := (Below.refl _ _).alloc (Nat.le_refl _) _
  have f0 := hnew w (.cells (lval m g b).cells 58)
  have l0 : LBox m g b w.heap.size (w.alloc (.cells (lval m g b).cells 58)) := ⟨f0⟩
  refine ⟨Unit, fun _ => ⟨[(1, .pointer (some ⟨w.heap.size, 0, none⟩)), (3, u8 (homeOf g m.line))], []⟩, fun _ V => LBox m g b w.heap.size V ∧ Below w.heap.size w V, ?_, ?_⟩
  · refine ⟨g.enc, rfl, l0.geo, l0.lt, ?_⟩
    refine ⟨_, cells_at l0.all (i := 3) rfl, ?_⟩
    refine Calls.mono (Home_c g m.line _ (hB.below hb0)) ?_
    rintro e V ⟨rfl, hb⟩
    exact ⟨(), ⟨.cons rfl (.cons rfl .nil), rfl⟩, l0.below hb, hb0.trans (hb.mono hb0.size)⟩
  rintro _ V ⟨l, hb⟩
  refine ⟨Unit, fun _ => ⟨[(1, .pointer (some ⟨w.heap.size, 0, none⟩)), (3, u8 (homeOf g m.line)), (4, .bool (fromL m g b))], []⟩, fun _ V => LBox m g b w.heap.size V ∧ Below w.heap.size w V, ?_, ?_⟩
  · refine ⟨lenc m g b, rfl, l.all, l.lt, ?_⟩
    refine Calls.mono (has_c m g b 16 V) ?_
    rintro e V1 ⟨rfl, hb1⟩
    have l1 := l.below hb1
    have hw1 := hb.trans (hb1.mono hb.size)
    refine And.intro (fun h1 => ?_) (fun h1 => ?_)
    · refine ⟨_, cells_at l1.all (i := 1) rfl, ?_⟩
      refine And.intro (fun h2 => ?_) (fun h2 => ?_)
      · have h2 : decide ((m.from_.toNat : Int) = ((homeOf g m.line).toNat : Int)) = true := h2
        rw [u8d] at h2
        have fact : fromL m g b = true := by unfold fromL; rw [h1, h2]; rfl
        exact ⟨(), ⟨.cons rfl (.cons rfl (.cons (by rw [fact]; rfl) .nil)), rfl⟩, l1, hw1⟩
      · have h2 : decide ((m.from_.toNat : Int) = ((homeOf g m.line).toNat : Int)) = false := h2
        rw [u8d] at h2
        refine ⟨lenc m g b, rfl, l1.all, l1.lt, ?_⟩
        refine Calls.mono (has_c m g b 32 V1) ?_
        rintro e V2 ⟨rfl, hb2⟩
        have l2 := l1.below hb2
        have hw2 := hw1.trans (hb2.mono hw1.size)
        refine And.intro (fun h3 => ?_) (fun h3 => ?_)
        · refine ⟨g.enc, rfl, l2.geo, l2.lt, ?_⟩
          refine ⟨_, cells_at l2.all (i := 1) rfl, ?_⟩
          refine Calls.mono (IsCache_c g m.from_ V2 (hB.below hw2)) ?_
          rintro e V3 ⟨rfl, hb3⟩
          have fact : fromL m g b = isCache g m.from_ := by unfold fromL; rw [h1, h2, Bool.true_and, h3, Bool.false_or, Bool.true_and]
          exact ⟨(), ⟨.cons rfl (.cons rfl (.cons (by rw [fact]; rfl) .nil)), rfl⟩, l2.below hb3, hw2.trans (hb3.mono hw2.size)⟩
        · have fact : fromL m g b = false := by unfold fromL; rw [h1, h2, Bool.true_and, h3, Bool.false_or, Bool.false_and]
          exact ⟨(), ⟨.cons rfl (.cons rfl (.cons (by rw [fact]; rfl) .nil)), rfl⟩, l2, hw2⟩
    · refine And.intro (fun h => by cases h) (fun _ => ?_)
      refine ⟨lenc m g b, rfl, l1.all, l1.lt, ?_⟩
      refine Calls.mono (has_c m g b 32 V1) ?_
      rintro e V2 ⟨rfl, hb2⟩
      have l2 := l1.below hb2
      have hw2 := hw1.trans (hb2.mono hw1.size)
      refine And.intro (fun h3 => ?_) (fun h3 => ?_)
      · refine ⟨g.enc, rfl, l2.geo, l2.lt, ?_⟩
        refine ⟨_, cells_at l2.all (i := 1) rfl, ?_⟩
        refine Calls.mono (IsCache_c g m.from_ V2 (hB.below hw2)) ?_
        rintro e V3 ⟨rfl, hb3⟩
        have fact : fromL m g b = isCache g m.from_ := by unfold fromL; rw [h1, Bool.false_and, h3, Bool.false_or, Bool.true_and]
        exact ⟨(), ⟨.cons rfl (.cons rfl (.cons (by rw [fact]; rfl) .nil)), rfl⟩, l2.below hb3, hw2.trans (hb3.mono hw2.size)⟩
      · have fact : fromL m g b = false := by unfold fromL; rw [h1, Bool.false_and, h3, Bool.false_or, Bool.false_and]
        exact ⟨(), ⟨.cons rfl (.cons rfl (.cons (by rw [fact]; rfl) .nil)), rfl⟩, l2, hw2⟩
  clear hb l V
  rintro _ V ⟨l, hb⟩
  refine ⟨Unit, fun _ => ⟨[(1, .pointer (some ⟨w.heap.size, 0, none⟩)), (4, .bool (fromL m g b)), (5, .bool (toL m g b))], []⟩, fun _ V => LBox m g b w.heap.size V ∧ Below w.heap.size w V, ?_, ?_⟩
  · refine ⟨lenc m g b, rfl, l.all, l.lt, ?_⟩
    refine Calls.mono (has_c m g b 64 V) ?_
    rintro e V1 ⟨rfl, hb1⟩
    have l1 := l.below hb1
    have hw1 := hb.trans (hb1.mono hb.size)
    refine And.intro (fun h1 => ?_) (fun h1 => ?_)
    · refine ⟨_, cells_at l1.all (i := 2) rfl, ?_⟩
      refine And.intro (fun h2 => ?_) (fun h2 => ?_)
      · have h2 : decide ((m.to.toNat : Int) = ((homeOf g m.line).toNat : Int)) = true := h2
        rw [u8d] at h2
        have fact : toL m g b = true := by unfold toL; rw [h1, h2]; rfl
        exact ⟨(), ⟨.cons rfl (.cons rfl (.cons (by rw [fact]; rfl) .nil)), rfl⟩, l1, hw1⟩
      · have h2 : decide ((m.to.toNat : Int) = ((homeOf g m.line).toNat : Int)) = false := h2
        rw [u8d] at h2
        refine ⟨lenc m g b, rfl, l1.all, l1.lt, ?_⟩
        refine Calls.mono (has_c m g b 128 V1) ?_
        rintro e V2 ⟨rfl, hb2⟩
        have l2 := l1.below hb2
        have hw2 := hw1.trans (hb2.mono hw1.size)
        refine And.intro (fun h3 => ?_) (fun h3 => ?_)
        · refine ⟨g.enc, rfl, l2.geo, l2.lt, ?_⟩
          refine ⟨_, cells_at l2.all (i := 2) rfl, ?_⟩
          refine Calls.mono (IsCache_c g m.to V2 (hB.below hw2)) ?_
          rintro e V3 ⟨rfl, hb3⟩
          have fact : toL m g b = isCache g m.to := by unfold toL; rw [h1, h2, Bool.true_and, h3, Bool.false_or, Bool.true_and]
          exact ⟨(), ⟨.cons rfl (.cons rfl (.cons (by rw [fact]; rfl) .nil)), rfl⟩, l2.below hb3, hw2.trans (hb3.mono hw2.size)⟩
        · have fact : toL m g b = false := by unfold toL; rw [h1, h2, Bool.true_and, h3, Bool.false_or, Bool.false_and]
          exact ⟨(), ⟨.cons rfl (.cons rfl (.cons (by rw [fact]; rfl) .nil)), rfl⟩, l2, hw2⟩
    · refine And.intro (fun h => by cases h) (fun _ => ?_)
      refine ⟨lenc m g b, rfl, l1.all, l1.lt, ?_⟩
      refine Calls.mono (has_c m g b 128 V1) ?_
      rintro e V2 ⟨rfl, hb2⟩
      have l2 := l1.below hb2
      have hw2 := hw1.trans (hb2.mono hw1.size)
      refine And.intro (fun h3 => ?_) (fun h3 => ?_)
      · refine ⟨g.enc, rfl, l2.geo, l2.lt, ?_⟩
        refine ⟨_, cells_at l2.all (i := 2) rfl, ?_⟩
        refine Calls.mono (IsCache_c g m.to V2 (hB.below hw2)) ?_
        rintro e V3 ⟨rfl, hb3⟩
        have fact : toL m g b = isCache g m.to := by unfold toL; rw [h1, Bool.false_and, h3, Bool.false_or, Bool.true_and]
        exact ⟨(), ⟨.cons rfl (.cons rfl (.cons (by rw [fact]; rfl) .nil)), rfl⟩, l2.below hb3, hw2.trans (hb3.mono hw2.size)⟩
      · have fact : toL m g b = false := by unfold toL; rw [h1, Bool.false_and, h3, Bool.false_or, Bool.false_and]
        exact ⟨(), ⟨.cons rfl (.cons rfl (.cons (by rw [fact]; rfl) .nil)), rfl⟩, l2, hw2⟩
  clear hb l V
  rintro _ V ⟨l, hb⟩
  refine And.intro (fun h1 => ?_) (fun h1 => ?_)
  · refine And.intro (fun h2 => ?_) (fun h2 => ?_)
    · refine ⟨_, cells_at l.all (i := 1) rfl, ?_⟩
      refine ⟨_, cells_at l.all (i := 2) rfl, ?_⟩
      refine And.intro (rb ?_) hb
      have h2 : toL m g b = true := h2
      unfold endsL; rw [h1, h2, ← u8d]; rfl
    · refine And.intro (rb ?_) hb
      have h2 : toL m g b = false := h2
      unfold endsL; rw [h1, h2]; rfl
  · refine And.intro (fun h => by cases h) (fun _ => ?_)
    refine And.intro (rb ?_) hb
    unfold endsL; rw [h1]; rfl
end Go.Proofs.YtoifcihikokpfaaDoor
