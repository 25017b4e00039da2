/- Law17: letters: has, ends, values, plain; Right. Law17: letters: values, plain. Law17: msg.Right. Plain: a stable merge by rotations (as slices.symMerge does it). Plain: the order of byte strings, and the order of messages by a key. Messages as data: the table of classes in memory. Plain: the messages that may be delivered next. Plain: what the law NetNext rests upon. Plain: the canonical order of messages, and when two lists have the same one. Plain: messages turned: they stay right, keep their queues apart, and may be delivered at the same places. Contracts: known, Class, queue. Contracts: the law's closure: a list of messages, each turned. Contracts: the iterator over the messages that may be delivered next. Contracts: the iterator over the messages that may be delivered next. Contracts: ready. Contracts: Next. Contracts: slices.Grow and slices.Concat at messages. Contracts: swapRange and rotate of the stable sort, at messages. Contracts: insertionSort of the stable sort, at messages. Contracts: symMerge of the stable sort, at messages: one element on the left. Contracts: symMerge of the stable sort, at messages: one element on the right. Contracts: symMerge of the stable sort, at messages: more than one element on either side. Contracts: the stable sort of messages (stableCmpFunc, SortStableFunc). cmp.Compare, slices.Compare at bytes. -/
import Derived.Test.YthgmcegmgjoafaaGreatDoorZ5
import Derived.Test.YthgmcegmgjoafaaGreatDoorZ2
import Derived.Test.YthgmcegmgjoafaaGreatDoorZ1
import Derived.Laws.CopyRow
import Derived.Test.YthgmcegmgjoafaaGreatDoorZKSig
import Derived.Test.YthgmcegmgjoafaaGreatDoorZ4
set_option linter.unusedSimpArgs false
namespace Go.Proofs.YthgmcegmgjoafaaGreatDoor
open Go.Vc Go.RowKit Go.Sei

def lenc (m : Msg) (g : Geo) (b : UInt8) : List Value := m.enc ++ g.enc ++ [u8 b]
def lval (m : Msg) (g : Geo) (b : UInt8) : Value := .agg (lenc m g b).toArray
def hasB (b bit : UInt8) : Bool := !decide (IntKind.u8.wrap ((BitVec.ofInt 8 (b.toNat : Int) &&& BitVec.ofInt 8 (bit.toNat : Int)).toNat) = 0)
theorem hasM_c (m : Msg) (g : Geo) (b bit : UInt8) (w : World) : Calls Tryz.prog 96 #[lval m g b, u8 bit] w fun e w' => e = .returned (.bool (hasB b bit)) ∧ Below w.heap.size w w' := by
  refine calls_of_E (S := sg 10) (sgOk _) (args := [lval m g b, u8 bit]) Tryz.func96 rfl rfl (Nat.le_of_ble_eq_true rfl) rfl ?_
  have hb0 : Below w.heap.size w (w.alloc (.cells (lval m g b).cells 124)) := (Below.refl _ _).alloc (Nat.le_refl _) _
  have f0 := hnew w (.cells (lval m g b).cells 124)
  refine ⟨_, cells_at (cells_block f0) (i := 16) rfl, ?_⟩
  refine ⟨_, rfl, ?_⟩
  exact And.intro rfl hb0

def fromL (m : Msg) (g : Geo) (b : UInt8) : Bool := (hasB b 16 && decide (m.from_ = homeOf g m.line)) || (hasB b 32 && isCache g m.from_)
def toL (m : Msg) (g : Geo) (b : UInt8) : Bool := (hasB b 64 && decide (m.to = homeOf g m.line)) || (hasB b 128 && isCache g m.to)
def endsL (m : Msg) (g : Geo) (b : UInt8) : Bool := fromL m g b && toL m g b && !decide (m.from_ = m.to)
theorem u8dM (x y : UInt8) : decide ((x.toNat : Int) = (y.toNat : Int)) = decide (x = y) := by rw [decide_eq_decide]; exact u8_eq
section
variable {w V : World} {m : Msg} {g : Geo} {b : UInt8}
/-- A letter's box. -/
structure LBox (m : Msg) (g : Geo) (b : UInt8) (k : Nat) (V : World) : Prop where
  box : V.heap[k]? = some (.cells (lval m g b).cells 124 (0, 0))
theorem LBox.all {k : Nat} (h : LBox m g b k V) : Cells V ⟨k, 0, none⟩ (lenc m g b) := cells_block h.box
theorem LBox.lt {k : Nat} (h : LBox m g b k V) : k < V.heap.size := hlt h.box
theorem LBox.below {k : Nat} (h : LBox m g b k w) (hb : Below w.heap.size w V) : LBox m g b k V := ⟨block_below hb h.box⟩
theorem LBox.geo {k : Nat} (h : LBox m g b k V) : Cells V ⟨k, 11, none⟩ g.enc := by
  refine cells_mk fun i v hv => ?_
  have hi : i < 5 := (List.getElem?_eq_some_iff.1 hv).1
  have : (lenc m g b)[11 + i]? = some v := by
    rw [← hv]
    have h5 : i = 0 ∨ i = 1 ∨ i = 2 ∨ i = 3 ∨ i = 4 := by omega
    rcases h5 with rfl | rfl | rfl | rfl | rfl <;> rfl
  have := cells_at h.all this
  rw [Nat.zero_add] at this
  exact this
theorem LBox.msg {k : Nat} (h : LBox m g b k V) : Cells V ⟨k, 0, none⟩ m.enc := by
  refine cells_mk fun i v hv => ?_
  have hi : i < m.enc.length := (List.getElem?_eq_some_iff.1 hv).1
  have : (lenc m g b)[i]? = some v := by
    rw [← hv]; unfold lenc
    rw [List.append_assoc, List.getElem?_append_left hi]
  exact cells_at h.all this
end

theorem ends_c (m : Msg) (g : Geo) (b : UInt8) (w : World) (hB : BndM w) : Calls Tryz.prog 51 #[lval m g b] w fun e w' => e = .returned (.bool (endsL m g b)) ∧ Below w.heap.size w w' := by
  refine calls_of_M (S := sg 67) (sgOk _) (args := [lval m g b]) (.s .p (.c .p (.c .p (.c .p .p)))) Tryz.func51 rfl rfl (Nat.le_of_ble_eq_true rfl) rfl ?_
  have hb0 : Below w.heap.size w (w.alloc (.cells (lval m g b).cells 124)) := (Below.refl _ _).alloc (Nat.le_refl _) _
  have f0 := hnew w (.cells (lval m g b).cells 124)
  have l0 : LBox m g b w.heap.size (w.alloc (.cells (lval m g b).cells 124)) := ⟨f0⟩
  refine ⟨Unit, fun _ => ⟨[(1, .pointer (some ⟨w.heap.size, 0, none⟩)), (3, u8 (homeOf g m.line))], []⟩, fun _ V => LBox m g b w.heap.size V ∧ Below w.heap.size w V, ?_, ?_⟩
  · refine ⟨g.enc, rfl, l0.geo, l0.lt, ?_⟩
    refine ⟨_, cells_at l0.all (i := 3) rfl, ?_⟩
    refine Calls.mono (Home_c g m.line _ (hB.below hb0)) ?_
    rintro e V ⟨rfl, hb⟩
    exact ⟨(), ⟨.cons rfl (.cons rfl .nil), rfl⟩, l0.below hb, hb0.trans (hb.mono hb0.size)⟩
  rintro _ V ⟨l, hb⟩
  refine ⟨Unit, fun _ => ⟨[(1, .pointer (some ⟨w.heap.size, 0, none⟩)), (3, u8 (homeOf g m.line)), (4, .bool (fromL m g b))], []⟩, fun _ V => LBox m g b w.heap.size V ∧ Below w.heap.size w V, ?_, ?_⟩
  · refine ⟨lenc m g b, rfl, l.all, l.lt, ?_⟩
    refine Calls.mono (hasM_c m g b 16 V) ?_
    rintro e V1 ⟨rfl, hb1⟩
    have l1 := l.below hb1
    have hw1 := hb.trans (hb1.mono hb.size)
    refine And.intro (fun h1 => ?_) (fun h1 => ?_)
    · refine ⟨_, cells_at l1.all (i := 1) rfl, ?_⟩
      refine And.intro (fun h2 => ?_) (fun h2 => ?_)
      · have h2 : decide ((m.from_.toNat : Int) = ((homeOf g m.line).toNat : Int)) = true := h2
        rw [u8dM] at h2
        have fact : fromL m g b = true := by unfold fromL; rw [h1, h2]; rfl
        exact ⟨(), ⟨.cons rfl (.cons rfl (.cons (by rw [fact]; rfl) .nil)), rfl⟩, l1, hw1⟩
      · have h2 : decide ((m.from_.toNat : Int) = ((homeOf g m.line).toNat : Int)) = false := h2
        rw [u8dM] at h2
        refine ⟨lenc m g b, rfl, l1.all, l1.lt, ?_⟩
        refine Calls.mono (hasM_c m g b 32 V1) ?_
        rintro e V2 ⟨rfl, hb2⟩
        have l2 := l1.below hb2
        have hw2 := hw1.trans (hb2.mono hw1.size)
        refine And.intro (fun h3 => ?_) (fun h3 => ?_)
        · refine ⟨g.enc, rfl, l2.geo, l2.lt, ?_⟩
          refine ⟨_, cells_at l2.all (i := 1) rfl, ?_⟩
          refine Calls.mono (IsCache_c g m.from_ V2 (hB.below hw2)) ?_
          rintro e V3 ⟨rfl, hb3⟩
          have fact : fromL m g b = isCache g m.from_ := by unfold fromL; rw [h1, h2, Bool.true_and, h3, Bool.false_or, Bool.true_and]
          exact ⟨(), ⟨.cons rfl (.cons rfl (.cons (by rw [fact]; rfl) .nil)), rfl⟩, l2.below hb3, hw2.trans (hb3.mono hw2.size)⟩
        · have fact : fromL m g b = false := by unfold fromL; rw [h1, h2, Bool.true_and, h3, Bool.false_or, Bool.false_and]
          exact ⟨(), ⟨.cons rfl (.cons rfl (.cons (by rw [fact]; rfl) .nil)), rfl⟩, l2, hw2⟩
    · refine And.intro (fun h => by cases h) (fun _ => ?_)
      refine ⟨lenc m g b, rfl, l1.all, l1.lt, ?_⟩
      refine Calls.mono (hasM_c m g b 32 V1) ?_
      rintro e V2 ⟨rfl, hb2⟩
      have l2 := l1.below hb2
      have hw2 := hw1.trans (hb2.mono hw1.size)
      refine And.intro (fun h3 => ?_) (fun h3 => ?_)
      · refine ⟨g.enc, rfl, l2.geo, l2.lt, ?_⟩
        refine ⟨_, cells_at l2.all (i := 1) rfl, ?_⟩
        refine Calls.mono (IsCache_c g m.from_ V2 (hB.below hw2)) ?_
        rintro e V3 ⟨rfl, hb3⟩
        have fact : fromL m g b = isCache g m.from_ := by unfold fromL; rw [h1, Bool.false_and, h3, Bool.false_or, Bool.true_and]
        exact ⟨(), ⟨.cons rfl (.cons rfl (.cons (by rw [fact]; rfl) .nil)), rfl⟩, l2.below hb3, hw2.trans (hb3.mono hw2.size)⟩
      · have fact : fromL m g b = false := by unfold fromL; rw [h1, Bool.false_and, h3, Bool.false_or, Bool.false_and]
        exact ⟨(), ⟨.cons rfl (.cons rfl (.cons (by rw [fact]; rfl) .nil)), rfl⟩, l2, hw2⟩
  clear hb l V
  rintro _ V ⟨l, hb⟩
  refine ⟨Unit, fun _ => ⟨[(1, .pointer (some ⟨w.heap.size, 0, none⟩)), (4, .bool (fromL m g b)), (5, .bool (toL m g b))], []⟩, fun _ V => LBox m g b w.heap.size V ∧ Below w.heap.size w V, ?_, ?_⟩
  · refine ⟨lenc m g b, rfl, l.all, l.lt, ?_⟩
    refine Calls.mono (hasM_c m g b 64 V) ?_
    rintro e V1 ⟨rfl, hb1⟩
    have l1 := l.below hb1
    have hw1 := hb.trans (hb1.mono hb.size)
    refine And.intro (fun h1 => ?_) (fun h1 => ?_)
    · refine ⟨_, cells_at l1.all (i := 2) rfl, ?_⟩
      refine And.intro (fun h2 => ?_) (fun h2 => ?_)
      · have h2 : decide ((m.to.toNat : Int) = ((homeOf g m.line).toNat : Int)) = true := h2
        rw [u8dM] at h2
        have fact : toL m g b = true := by unfold toL; rw [h1, h2]; rfl
        exact ⟨(), ⟨.cons rfl (.cons rfl (.cons (by rw [fact]; rfl) .nil)), rfl⟩, l1, hw1⟩
      · have h2 : decide ((m.to.toNat : Int) = ((homeOf g m.line).toNat : Int)) = false := h2
        rw [u8dM] at h2
        refine ⟨lenc m g b, rfl, l1.all, l1.lt, ?_⟩
        refine Calls.mono (hasM_c m g b 128 V1) ?_
        rintro e V2 ⟨rfl, hb2⟩
        have l2 := l1.below hb2
        have hw2 := hw1.trans (hb2.mono hw1.size)
        refine And.intro (fun h3 => ?_) (fun h3 => ?_)
        · refine ⟨g.enc, rfl, l2.geo, l2.lt, ?_⟩
          refine ⟨_, cells_at l2.all (i := 2) rfl, ?_⟩
          refine Calls.mono (IsCache_c g m.to V2 (hB.below hw2)) ?_
          rintro e V3 ⟨rfl, hb3⟩
          have fact : toL m g b = isCache g m.to := by unfold toL; rw [h1, h2, Bool.true_and, h3, Bool.false_or, Bool.true_and]
          exact ⟨(), ⟨.cons rfl (.cons rfl (.cons (by rw [fact]; rfl) .nil)), rfl⟩, l2.below hb3, hw2.trans (hb3.mono hw2.size)⟩
        · have fact : toL m g b = false := by unfold toL; rw [h1, h2, Bool.true_and, h3, Bool.false_or, Bool.false_and]
          exact ⟨(), ⟨.cons rfl (.cons rfl (.cons (by rw [fact]; rfl) .nil)), rfl⟩, l2, hw2⟩
    · refine And.intro (fun h => by cases h) (fun _ => ?_)
      refine ⟨lenc m g b, rfl, l1.all, l1.lt, ?_⟩
      refine Calls.mono (hasM_c m g b 128 V1) ?_
      rintro e V2 ⟨rfl, hb2⟩
      have l2 := l1.below hb2
      have hw2 := hw1.trans (hb2.mono hw1.size)
      refine And.intro (fun h3 => ?_) (fun h3 => ?_)
      · refine ⟨g.enc, rfl, l2.geo, l2.lt, ?_⟩
        refine ⟨_, cells_at l2.all (i := 2) rfl, ?_⟩
        refine Calls.mono (IsCache_c g m.to V2 (hB.below hw2)) ?_
        rintro e V3 ⟨rfl, hb3⟩
        have fact : toL m g b = isCache g m.to := by unfold toL; rw [h1, Bool.false_and, h3, Bool.false_or, Bool.true_and]
        exact ⟨(), ⟨.cons rfl (.cons rfl (.cons (by rw [fact]; rfl) .nil)), rfl⟩, l2.below hb3, hw2.trans (hb3.mono hw2.size)⟩
      · have fact : toL m g b = false := by unfold toL; rw [h1, Bool.false_and, h3, Bool.false_or, Bool.false_and]
        exact ⟨(), ⟨.cons rfl (.cons rfl (.cons (by rw [fact]; rfl) .nil)), rfl⟩, l2, hw2⟩
  clear hb l V
  rintro _ V ⟨l, hb⟩
  refine And.intro (fun h1 => ?_) (fun h1 => ?_)
  · refine And.intro (fun h2 => ?_) (fun h2 => ?_)
    · refine ⟨_, cells_at l.all (i := 1) rfl, ?_⟩
      refine ⟨_, cells_at l.all (i := 2) rfl, ?_⟩
      refine And.intro (rb ?_) hb
      have h2 : toL m g b = true := h2
      unfold endsL; rw [h1, h2, ← u8dM]; rfl
    · refine And.intro (rb ?_) hb
      have h2 : toL m g b = false := h2
      unfold endsL; rw [h1, h2]; rfl
  · refine And.intro (fun h => by cases h) (fun _ => ?_)
    refine And.intro (rb ?_) hb
    unfold endsL; rw [h1]; rfl
end Go.Proofs.YthgmcegmgjoafaaGreatDoor
namespace Go.Proofs.YthgmcegmgjoafaaGreatDoor
open Go.Vc Go.RowKit Go.Sei

theorem eql_msgL (x y : Operand) (m n : Msg) (w : World) : (do eqGuard .eql 53 x y m.val n.val; binOp .eql 53 m.val n.val).run Tryz.prog w = .ok (.bool (decide (m = n))) w := by
  have h : (Op.equal 53 m.val n.val).run Tryz.prog w = .ok (decide (m = n)) w := eq_msg 9997 m n w
  have hg : Tryz.prog.eqGuardType Tryz.prog.depth 53 = false := by kernel_rfl
  have h1 : (eqGuard .eql 53 x y m.val n.val).run Tryz.prog w = .ok () w := by
    simp only [eqGuard, Msg.val, Bool.not_true, Bool.false_eq_true, if_false, Sem.run_bind, run_program, Result.andThen_ok, hg, Bool.not_false, if_true, Sem.run_pure]
  rw [Sem.run_bind, h1]
  rw [Msg.val, Msg.val] at h
  simp only [Result.andThen_ok, binOp, Msg.val, Sem.run_bind, h, Sem.run_pure]
def badAsk (m : Msg) (g : Geo) (b : UInt8) : Bool := hasB b 1 && (!isCache g m.asker || decide (m.asker = m.to))
def valuesL (m : Msg) (g : Geo) (b : UInt8) : Bool := !badAsk m g b && (decide ((m.acks.toNat : Int) < g.c) && (!m.alone || !isCache g m.from_))
theorem values_c (m : Msg) (g : Geo) (b : UInt8) (w : World) (hB : BndM w) : Calls Tryz.prog 52 #[lval m g b] w fun e w' => e = .returned (.bool (valuesL m g b)) ∧ Below w.heap.size w w' := by
  refine calls_of_M (S := sg 46) (sgOk _) (args := [lval m g b]) (.s .p (.c .p .p)) Tryz.func52 rfl rfl (Nat.le_of_ble_eq_true rfl) rfl ?_
  have hb0 : Below w.heap.size w (w.alloc (.cells (lval m g b).cells 124)) := (Below.refl _ _).alloc (Nat.le_refl _) _
  have f0 := hnew w (.cells (lval m g b).cells 124)
  have l0 : LBox m g b w.heap.size (w.alloc (.cells (lval m g b).cells 124)) := ⟨f0⟩
  refine ⟨Unit, fun _ => ⟨[(1, .pointer (some ⟨w.heap.size, 0, none⟩))], []⟩, fun _ V => LBox m g b w.heap.size V ∧ badAsk m g b = false ∧ Below w.heap.size w V, ?_, ?_⟩
  · refine ⟨lenc m g b, rfl, l0.all, l0.lt, ?_⟩
    refine Calls.mono (hasM_c m g b 1 _) ?_
    rintro e V1 ⟨rfl, hb1⟩
    have l1 := l0.below hb1
    have hw1 := hb0.trans (hb1.mono hb0.size)
    refine And.intro (fun h1 => ?_) (fun h1 => ?_)
    · refine ⟨g.enc, rfl, l1.geo, l1.lt, ?_⟩
      refine ⟨_, cells_at l1.all (i := 4) rfl, ?_⟩
      refine Calls.mono (IsCache_c g m.asker V1 (hB.below hw1)) ?_
      rintro e V2 ⟨rfl, hb2⟩
      have l2 := l1.below hb2
      have hw2 := hw1.trans (hb2.mono hw1.size)
      refine And.intro (fun h2 => ?_) (fun h2 => ?_)
      · have h2 := not_t h2
        have fact : valuesL m g b = false := by unfold valuesL badAsk; rw [h1, h2]; rfl
        refine And.intro (fun _ => ?_) (fun h => by cases h)
        exact And.intro (rb fact.symm) hw2
      · have h2 := not_f h2
        refine ⟨_, cells_at l2.all (i := 4) rfl, ?_⟩
        refine ⟨_, cells_at l2.all (i := 2) rfl, ?_⟩
        refine And.intro (fun h3 => ?_) (fun h3 => ?_)
        · have h3 : decide ((m.asker.toNat : Int) = (m.to.toNat : Int)) = true := h3
          rw [u8dM] at h3
          have fact : valuesL m g b = false := by unfold valuesL badAsk; rw [h1, h2, h3]; rfl
          exact And.intro (rb fact.symm) hw2
        · have h3 : decide ((m.asker.toNat : Int) = (m.to.toNat : Int)) = false := h3
          rw [u8dM] at h3
          exact ⟨(), ⟨.cons rfl .nil, rfl⟩, l2, by unfold badAsk; rw [h1, h2, h3]; rfl, hw2⟩
    · refine And.intro (fun h => by cases h) (fun _ => ?_)
      exact ⟨(), ⟨.cons rfl .nil, rfl⟩, l1, by unfold badAsk; rw [h1]; rfl, hw1⟩
  rintro _ V ⟨l, hn, hb⟩
  refine ⟨_, cells_at l.all (i := 5) rfl, ?_⟩
  refine ⟨_, wrap_u8_i64 m.acks, ?_⟩
  refine ⟨_, cells_at l.geo (i := 0) rfl, ?_⟩
  refine And.intro (fun h1 => ?_) (fun h1 => ?_)
  · have h1 : decide ((m.acks.toNat : Int) < g.c) = true := h1
    refine ⟨_, cells_at l.all (i := 6) rfl, ?_⟩
    refine And.intro (fun h2 => ?_) (fun h2 => ?_)
    · have h2 : (!m.alone) = true := h2
      exact And.intro (rb (by unfold valuesL; rw [hn, h1, h2]; rfl)) hb
    · have h2 : (!m.alone) = false := h2
      refine ⟨g.enc, rfl, l.geo, l.lt, ?_⟩
      refine ⟨_, cells_at l.all (i := 1) rfl, ?_⟩
      refine Calls.mono (IsCache_c g m.from_ V (hB.below hb)) ?_
      rintro e V2 ⟨rfl, hb2⟩
      exact And.intro (rb (by unfold valuesL; rw [hn, h1, h2]; rfl)) (hb.trans (hb2.mono hb.size))
  · have h1 : decide ((m.acks.toNat : Int) < g.c) = false := h1
    exact And.intro (rb (by unfold valuesL; rw [hn, h1]; rfl)) hb

/-- The message that a kind lets through. -/
def pl0 (m : Msg) : Msg := { zeroM with kind := m.kind, from_ := m.from_, «to» := m.to, line := m.line }
def pl1 (m : Msg) (b : UInt8) : Msg := if hasB b 1 then { pl0 m with asker := m.asker } else pl0 m
def pl2 (m : Msg) (b : UInt8) : Msg := if hasB b 2 then { pl1 m b with acks := m.acks } else pl1 m b
def pl3 (m : Msg) (b : UInt8) : Msg := if hasB b 4 then { pl2 m b with alone := m.alone } else pl2 m b
def dcut (m : Msg) (n : Nat) (x : Msg) : Msg := { x with d0 := if 0 < n then m.d0 else x.d0, d1 := if 1 < n then m.d1 else x.d1, d2 := if 2 < n then m.d2 else x.d2, d3 := if 3 < n then m.d3 else x.d3 }
def pl4 (m : Msg) (g : Geo) (b : UInt8) : Msg := if hasB b 8 then dcut m g.w.toNat (pl3 m b) else pl3 m b
def plainL (m : Msg) (g : Geo) (b : UInt8) : Bool := decide (pl4 m g b = m)

theorem dcut_enc (m x : Msg) (n : Nat) (h : 1 ≤ n ∧ n ≤ 4) : (x.enc.take 7 ++ ((m.enc.drop 7).take n) ++ x.enc.drop (7 + n)) = (dcut m n x).enc := by
  have h4 : n = 1 ∨ n = 2 ∨ n = 3 ∨ n = 4 := by omega
  rcases h4 with rfl | rfl | rfl | rfl <;> rfl

theorem plain_c (m : Msg) (g : Geo) (b : UInt8) (w : World) (hR : geoR g = true) : Calls Tryz.prog 53 #[lval m g b] w fun e w' => e = .returned (.bool (plainL m g b)) ∧ Below w.heap.size w w' := by
  refine calls_of_M (S := sg 50) (sgOk _) (args := [lval m g b]) (.s .p (.c .p (.c .p (.c .p (.c .p (.c .p .p)))))) Tryz.func53 rfl rfl (Nat.le_of_ble_eq_true rfl) rfl ?_
  have hb0 : Below w.heap.size w (w.alloc (.cells (lval m g b).cells 124)) := (Below.refl _ _).alloc (Nat.le_refl _) _
  have f0 := hnew w (.cells (lval m g b).cells 124)
  have l0 : LBox m g b w.heap.size (w.alloc (.cells (lval m g b).cells 124)) := ⟨f0⟩
  obtain ⟨inv, hinv⟩ : ∃ inv : Msg → World → Prop, inv = fun x V => LBox m g b w.heap.size V ∧ V.heap[w.heap.size + 1]? = some (.cells x.val.cells 53 (0, 0)) ∧ Below w.heap.size w V := ⟨_, rfl⟩
  obtain ⟨env, henv⟩ : ∃ env : Env, env = ⟨[(1, .pointer (some ⟨w.heap.size, 0, none⟩)), (3, .pointer (some ⟨w.heap.size + 1, 0, none⟩))], []⟩ := ⟨_, rfl⟩
  have hput : ∀ {V : World} {x : Msg} (x' : Msg) {T : TypeId} {iT : TI} (hT : TIok Tryz.prog T iT) (hs : iT.size = 1) {o : Nat} {v : Value}, inv x V → o < 11 → v.cells = #[v] → v.oneCell' = true → x.enc.take o ++ [v] ++ x.enc.drop (o + 1) = x'.enc →
      ∀ {K : World → Prop}, (∀ V', inv x' V' → K V') → SatR ((storeVar T ⟨w.heap.size + 1, o, none⟩ v).run Tryz.prog V) fun _ w' => K w' := by
    intro V x x' T iT hT hs o v hi ho hv h1 he K k
    rw [hinv] at hi
    obtain ⟨l, fx, hb⟩ := hi
    refine store_cell hT hs fx (by show o < 11; exact ho) hv h1 fun V' f gr z => k V' ?_
    rw [hinv]
    refine ⟨⟨(gr.block _ l.lt (by simp)).trans l.box⟩, ?_, hb.grown gr hb.size (fun j e => by simp at e; omega)⟩
    rw [f]
    have : x.val.cells.toList = x.enc := rfl
    rw [this, he]; rfl
  refine ⟨Unit, fun _ => env, fun _ V => inv (pl0 m) V, ?_, ?_⟩
  · refine ⟨_, cells_at l0.all (i := 0) rfl, ?_⟩
    refine ⟨_, cells_at l0.all (i := 1) rfl, ?_⟩
    refine ⟨_, cells_at l0.all (i := 2) rfl, ?_⟩
    refine ⟨_, cells_at l0.all (i := 3) rfl, ?_⟩
    refine ⟨(pl0 m).enc, rfl, ?_⟩
    refine store_new (X := (w.alloc (.cells (lval m g b).cells 124))) (v := (pl0 m).val) (ttOk.get 53 _ rfl) (by rfl) rfl (by rfl) fun Y hbY fY sY => ?_
    have es : (w.alloc (.cells (lval m g b).cells 124)).heap.size = w.heap.size + 1 := World.size_alloc _ _
    rw [henv, hinv]
    rw [es] at fY
    refine ⟨(), ⟨.cons rfl (.cons (by rw [← es]; rfl) .nil), rfl⟩, l0.below hbY, fY, hb0.trans (hbY.mono hb0.size)⟩
  rintro _ V hV
  refine ⟨Unit, fun _ => env, fun _ V => inv (pl1 m b) V, ?_, ?_⟩
  · rw [hinv] at hV
    obtain ⟨l, fx, hb⟩ := hV
    rw [henv]
    refine ⟨lenc m g b, rfl, l.all, l.lt, ?_⟩
    refine Calls.mono (hasM_c m g b 1 V) ?_
    rintro e V1 ⟨rfl, hb1⟩
    have l1 := l.below hb1
    have i1 : inv (pl0 m) V1 := by rw [hinv]; exact ⟨l1, block_below hb1 fx, hb.trans (hb1.mono hb.size)⟩
    refine And.intro (fun h => ?_) (fun h => ?_)
    · have e1 : pl1 m b = { pl0 m with asker := m.asker } := by unfold pl1; rw [h]; rfl
      refine ⟨_, cells_at l1.all (i := 4) rfl, ?_⟩
      refine hput { pl0 m with asker := m.asker } (ttOk.get 5 _ rfl) rfl (o := 4) i1 (by decide) rfl rfl rfl fun V' i' => ?_
      rw [e1]
      exact ⟨(), ⟨.cons rfl (.cons rfl .nil), rfl⟩, i'⟩
    · have e1 : pl1 m b = pl0 m := by unfold pl1; rw [h]; rfl
      rw [e1]
      exact ⟨(), ⟨.cons rfl (.cons rfl .nil), rfl⟩, i1⟩
  rintro _ V hV
  refine ⟨Unit, fun _ => env, fun _ V => inv (pl2 m b) V, ?_, ?_⟩
  · rw [hinv] at hV
    obtain ⟨l, fx, hb⟩ := hV
    rw [henv]
    refine ⟨lenc m g b, rfl, l.all, l.lt, ?_⟩
    refine Calls.mono (hasM_c m g b 2 V) ?_
    rintro e V1 ⟨rfl, hb1⟩
    have l1 := l.below hb1
    have i1 : inv (pl1 m b) V1 := by rw [hinv]; exact ⟨l1, block_below hb1 fx, hb.trans (hb1.mono hb.size)⟩
    refine And.intro (fun h => ?_) (fun h => ?_)
    · have e1 : pl2 m b = { pl1 m b with acks := m.acks } := by unfold pl2; rw [h]; rfl
      refine ⟨_, cells_at l1.all (i := 5) rfl, ?_⟩
      refine hput { pl1 m b with acks := m.acks } (ttOk.get 5 _ rfl) rfl (o := 5) i1 (by decide) rfl rfl rfl fun V' i' => ?_
      rw [e1]
      exact ⟨(), ⟨.cons rfl (.cons rfl .nil), rfl⟩, i'⟩
    · have e1 : pl2 m b = pl1 m b := by unfold pl2; rw [h]; rfl
      rw [e1]
      exact ⟨(), ⟨.cons rfl (.cons rfl .nil), rfl⟩, i1⟩
  rintro _ V hV
  refine ⟨Unit, fun _ => env, fun _ V => inv (pl3 m b) V, ?_, ?_⟩
  · rw [hinv] at hV
    obtain ⟨l, fx, hb⟩ := hV
    rw [henv]
    refine ⟨lenc m g b, rfl, l.all, l.lt, ?_⟩
    refine Calls.mono (hasM_c m g b 4 V) ?_
    rintro e V1 ⟨rfl, hb1⟩
    have l1 := l.below hb1
    have i1 : inv (pl2 m b) V1 := by rw [hinv]; exact ⟨l1, block_below hb1 fx, hb.trans (hb1.mono hb.size)⟩
    refine And.intro (fun h => ?_) (fun h => ?_)
    · have e1 : pl3 m b = { pl2 m b with alone := m.alone } := by unfold pl3; rw [h]; rfl
      refine ⟨_, cells_at l1.all (i := 6) rfl, ?_⟩
      refine hput { pl2 m b with alone := m.alone } (ttOk.get 4 _ rfl) rfl (o := 6) i1 (by decide) rfl rfl rfl fun V' i' => ?_
      rw [e1]
      exact ⟨(), ⟨.cons rfl (.cons rfl .nil), rfl⟩, i'⟩
    · have e1 : pl3 m b = pl2 m b := by unfold pl3; rw [h]; rfl
      rw [e1]
      exact ⟨(), ⟨.cons rfl (.cons rfl .nil), rfl⟩, i1⟩
  rintro _ V hV
  refine ⟨Unit, fun _ => env, fun _ V => inv (pl4 m g b) V, ?_, ?_⟩
  · rw [hinv] at hV
    obtain ⟨l, fx, hb⟩ := hV
    rw [henv]
    refine ⟨lenc m g b, rfl, l.all, l.lt, ?_⟩
    refine Calls.mono (hasM_c m g b 8 V) ?_
    rintro e V1 ⟨rfl, hb1⟩
    have l1 := l.below hb1
    have i1 : inv (pl3 m b) V1 := by rw [hinv]; exact ⟨l1, block_below hb1 fx, hb.trans (hb1.mono hb.size)⟩
    refine And.intro (fun h => ?_) (fun h => ?_)
    · have e1 : pl4 m g b = dcut m g.w.toNat (pl3 m b) := by unfold pl4; rw [h]; rfl
      have hs := geoR_spec hR
      refine DrawE.ord [8] [0, 1, 2, 3, 4, 5, 6, 7, 8] (by kernel_rfl) ?_
      have i2 := i1
      rw [hinv] at i2
      obtain ⟨l2, fx2, hb2⟩ := i2
      refine ⟨_, cells_at (show LBox m g b w.heap.size V1.drew from ⟨hdr l2.box⟩).geo (i := 2) rfl, ?_⟩
      obtain ⟨n, hn⟩ : ∃ n, n = g.w.toNat := ⟨_, rfl⟩
      have hn4 : 1 ≤ n ∧ n ≤ 4 := by omega
      refine ⟨n, by omega, by omega, ?_⟩
      have hs5 : (Tryz.prog.info? 5).map (·.size) = some 1 := by kernel_rfl
      have hcl : ((m.enc.drop 7).take n).length = n := by
        have : (m.enc.drop 7).length = 4 := rfl
        rw [List.length_take, this]; omega
      have hrun := run_copy_row (P := Tryz.prog) V1.drew 23 23 3 5 (w.heap.size + 1) 7 n 4 ⟨w.heap.size, 7, none⟩ 4 4 (pl3 m b).val.cells 53 ((m.enc.drop 7).take n) Tryz.underlying23 hs5 (hdr fx2)
        (by rw [hcl]; exact (Nat.min_eq_right hn4.2).symm)
        (fun j v hv => by
          have hj : j < n := by have := (List.getElem?_eq_some_iff.1 hv).1; omega
          have h4 : j = 0 ∨ j = 1 ∨ j = 2 ∨ j = 3 := by omega
          have hm : m.enc[7 + j]? = some v := by
            rw [List.getElem?_take_of_lt hj, List.getElem?_drop] at hv; exact hv
          rw [addr_add]
          have := cells_at (show Cells V1.drew ⟨w.heap.size, 0, none⟩ m.enc from (show LBox m g b w.heap.size V1.drew from ⟨hdr l2.box⟩).msg) hm
          rw [Nat.zero_add] at this; exact this)
        (by rw [hcl]; show 7 + n ≤ 11; omega)
        (by
          intro v hv
          have hv := List.mem_of_mem_take hv
          simp only [Msg.enc, List.drop_succ_cons, List.drop_zero] at hv
          simp only [List.mem_cons, List.not_mem_nil, or_false] at hv
          rcases hv with rfl | rfl | rfl | rfl <;> rfl)
      refine SatR.mk hrun ?_
      refine ⟨(), ⟨.cons rfl (.cons rfl .nil), rfl⟩, ?_⟩
      rw [e1, hinv, ← hn]
      refine ⟨⟨(setRow_old (by omega)).trans (hdr l2.box)⟩, ?_, below_setRow hb2.drew (by omega) _⟩
      rw [hcl]
      have e2 := dcut_enc m (pl3 m b) n hn4
      have e3 : (pl3 m b).val.cells.toList = (pl3 m b).enc := rfl
      rw [e3, e2]
      exact setRow_new (hdr fx2)
    · have e1 : pl4 m g b = pl3 m b := by unfold pl4; rw [h]; rfl
      rw [e1]
      exact ⟨(), ⟨.cons rfl (.cons rfl .nil), rfl⟩, i1⟩
  rintro _ V hV
  rw [hinv] at hV
  obtain ⟨l, fx, hb⟩ := hV
  rw [henv]
  refine ⟨(pl4 m g b).enc, rfl, cells_block fx, hlt fx, ?_⟩
  refine ⟨m.enc, rfl, l.msg, l.lt, ?_⟩
  refine ⟨_, fun w => eql_msgL _ _ (pl4 m g b) m w, ?_⟩
  exact And.intro rfl hb
end Go.Proofs.YthgmcegmgjoafaaGreatDoor
namespace Go.Proofs.YthgmcegmgjoafaaGreatDoor
open Go.Vc Go.RowKit Go.Sei

def usesL : List UInt8 := [0, 96, 96, 104, 96, 104, 145, 147, 145, 144, 190, 146, 160]
structure GlobU (w : World) : Prop where
  uses : Cells w ⟨0, 0, none⟩ (usesL.map u8)
  bnd : BndM w
theorem GlobU.below {w w2 : World} (h : GlobU w) (hb : Below w.heap.size w w2) : GlobU w2 := ⟨cells_below hb h.uses, h.bnd.below hb⟩
def useOf (m : Msg) : UInt8 := usesL.getD m.kind.toNat 0
def rightL (g : Geo) (m : Msg) : Bool := geoR g && decide (m.kind.toNat < 13) && !decide (useOf m = 0) && decide ((m.line.toNat : Int) < linesOf g) && (endsL m g (useOf m) && valuesL m g (useOf m) && plainL m g (useOf m))

theorem RightU_c (g : Geo) (m : Msg) (w : World) (hg : GlobU w) : Calls Tryz.prog 10 #[g.val, m.val] w fun e w' => e = .returned (.bool (rightL g m)) ∧ Below w.heap.size w w' := by
  refine calls_of_M (S := sg 47) (sgOk _) (args := [g.val, m.val]) (.s .p (.c .p (.s .p .p))) Tryz.func10 rfl rfl (Nat.le_of_ble_eq_true rfl) rfl ?_
  obtain ⟨X, hX⟩ : ∃ X, X = (w.alloc (.cells g.val.cells 31)).alloc (.cells m.val.cells 53) := ⟨_, rfl⟩
  have hb0 : Below w.heap.size w X := by rw [hX]; exact ((Below.refl _ _).alloc (Nat.le_refl _) _).alloc (by simp) _
  have f0 : X.heap[w.heap.size]? = some (.cells g.val.cells 31 (0, 0)) := by rw [hX]; exact hold _ (hnew w _)
  have es : (w.alloc (.cells g.val.cells 31)).heap.size = w.heap.size + 1 := World.size_alloc _ _
  have f1 : X.heap[w.heap.size + 1]? = some (.cells m.val.cells 53 (0, 0)) := by
    have := hnew (w.alloc (.cells g.val.cells 31)) (.cells m.val.cells 53)
    rw [es] at this
    rw [hX]; exact this
  refine ⟨Unit, fun _ => ⟨[(2, .pointer (some ⟨w.heap.size, 0, none⟩)), (3, .pointer (some ⟨w.heap.size + 1, 0, none⟩))], []⟩,
    fun _ V => V.heap[w.heap.size]? = some (.cells g.val.cells 31 (0, 0)) ∧ V.heap[w.heap.size + 1]? = some (.cells m.val.cells 53 (0, 0)) ∧ Below w.heap.size w V ∧
      (geoR g = true ∧ m.kind.toNat < 13 ∧ useOf m ≠ 0 ∧ (m.line.toNat : Int) < linesOf g), ?_, ?_⟩
  · rw [← es, ← hX]
    refine DrawE.ord [] [0, 1, 2, 3, 4, 5, 6, 7, 8, 9, 10, 11, 12, 13, 14, 15, 16, 17, 18, 19, 20, 21, 22, 23] (by kernel_rfl) ?_
    refine ⟨g.enc, rfl, cells_block (hdr f0), hlt (hdr f0), ?_⟩
    refine Calls.mono (Right_geo_c g _ ((hg.bnd.below hb0).below (Below.refl _ _).drew)) ?_
    rintro e V ⟨rfl, hb⟩
    refine ⟨hb, ?_⟩
    have hw := hb0.drew.trans (hb.mono hb0.size)
    have v0 := block_below hb (hdr f0)
    have v1 := block_below hb (hdr f1)
    have gV := hg.below hw
    rw [es]
    refine And.intro (fun h => ?_) (fun h => ?_)
    · have hR := not_t h
      have fact : rightL g m = false := by unfold rightL; rw [hR]; rfl
      refine And.intro (fun _ => ?_) (fun h => by cases h)
      refine And.intro (fun _ => ?_) (fun h => by cases h)
      refine And.intro (fun _ => ?_) (fun h => by cases h)
      exact And.intro (rb fact.symm) hw
    have hR := not_f h
    refine ⟨_, cells_at (cells_block v1) (i := 0) rfl, ?_⟩
    refine ⟨_, wrap_u8_i64 m.kind, ?_⟩
    refine And.intro (fun h1 => ?_) (fun h1 => ?_)
    · have h1 : (13 : Int) ≤ m.kind.toNat := of_decide_eq_true h1
      have fact : rightL g m = false := by unfold rightL; rw [hR, decide_eq_false (by omega)]; rfl
      refine And.intro (fun _ => ?_) (fun h => by cases h)
      refine And.intro (fun _ => ?_) (fun h => by cases h)
      exact And.intro (rb fact.symm) hw
    have h1 : ¬ (13 : Int) ≤ m.kind.toNat := of_decide_eq_false h1
    have hk : m.kind.toNat < 13 := by omega
    refine ⟨_, cells_at (cells_block v1) (i := 0) rfl, ?_⟩
    refine ⟨m.kind.toNat, rfl, hk, ?_⟩
    have hu : (usesL.map u8)[m.kind.toNat]? = some (u8 (useOf m)) := by
      have hl : m.kind.toNat < usesL.length := hk
      rw [List.getElem?_map, List.getElem?_eq_getElem hl]
      simp only [useOf, List.getD_eq_getElem?_getD, List.getElem?_eq_getElem hl, Option.map_some, Option.getD_some]
    refine ⟨_, by rw [Nat.mul_one]; exact cells_at gV.uses hu, ?_⟩
    refine And.intro (fun h2 => ?_) (fun h2 => ?_)
    · have h2 : ((useOf m).toNat : Int) = ((0 : UInt8).toNat : Int) := of_decide_eq_true h2
      have h2 : useOf m = 0 := u8_eq.1 h2
      have fact : rightL g m = false := by unfold rightL; rw [hR, decide_eq_true hk, h2]; rfl
      refine And.intro (fun _ => ?_) (fun h => by cases h)
      exact And.intro (rb fact.symm) hw
    have h2 : ¬ ((useOf m).toNat : Int) = ((0 : UInt8).toNat : Int) := of_decide_eq_false h2
    have h2 : useOf m ≠ 0 := fun e => h2 (u8_eq.2 e)
    refine ⟨_, cells_at (cells_block v1) (i := 3) rfl, ?_⟩
    refine ⟨_, wrap_u8_i64 m.line, ?_⟩
    refine ⟨g.enc, rfl, cells_block v0, hlt v0, ?_⟩
    refine Calls.mono (Lines_c g V gV.bnd) ?_
    rintro e Y ⟨rfl, hbY⟩
    refine ⟨hbY, ?_⟩
    have hwY := hw.trans (hbY.mono hw.size)
    refine And.intro (fun h3 => ?_) (fun h3 => ?_)
    · have h3 : linesOf g ≤ m.line.toNat := of_decide_eq_true h3
      have fact : rightL g m = false := by unfold rightL; rw [hR, decide_eq_true hk, decide_eq_false h2, decide_eq_false (by omega)]; rfl
      exact And.intro (rb fact.symm) hwY
    have h3 : ¬ linesOf g ≤ m.line.toNat := of_decide_eq_false h3
    exact ⟨(), ⟨.cons rfl (.cons rfl .nil), rfl⟩, block_below hbY v0, block_below hbY v1, hwY, hR, hk, h2, by omega⟩
  rintro _ V ⟨v0, v1, hb, hR, hk, h2, h3⟩
  have gV := hg.below hb
  have hfact : rightL g m = (endsL m g (useOf m) && valuesL m g (useOf m) && plainL m g (useOf m)) := by
    unfold rightL; rw [hR, decide_eq_true hk, decide_eq_false h2, decide_eq_true h3]; rfl
  have hu : (usesL.map u8)[m.kind.toNat]? = some (u8 (useOf m)) := by
    have hl : m.kind.toNat < usesL.length := hk
    rw [List.getElem?_map, List.getElem?_eq_getElem hl]
    simp only [useOf, List.getD_eq_getElem?_getD, List.getElem?_eq_getElem hl, Option.map_some, Option.getD_some]
  obtain ⟨b, hbu⟩ : ∃ b, useOf m = b := ⟨_, rfl⟩
  rw [hbu] at hu hfact
  refine DrawE.ord [8] [0, 1, 2, 3, 4, 5, 6, 7, 8] (by kernel_rfl) ?_
  refine ⟨m.enc, rfl, cells_block (hdr v1), hlt (hdr v1), ?_⟩
  refine ⟨g.enc, rfl, cells_block (hdr v0), hlt (hdr v0), ?_⟩
  refine ⟨_, cells_at (cells_block (hdr v1)) (i := 0) rfl, ?_⟩
  refine ⟨m.kind.toNat, rfl, hk, ?_⟩
  refine ⟨_, by rw [Nat.mul_one]; exact cells_at (cells_below (Below.refl _ V).drew gV.uses) hu, ?_⟩
  refine ⟨lenc m g b, by kernel_rfl, ?_⟩
  refine ⟨(Below.refl _ _).alloc (Nat.le_refl _) _, ?_⟩
  refine store_new (X := V.drew) (v := lval m g b) (ttOk.get 124 _ rfl) (by rfl) rfl (by rfl) fun Y hbY fY sY => ?_
  have hwY := hb.drew.trans (hbY.mono hb.drew.size)
  have lY : LBox m g b V.drew.heap.size Y := ⟨fY⟩
  have gY := hg.below hwY
  refine ⟨lenc m g b, rfl, lY.all, lY.lt, ?_⟩
  refine Calls.mono (ends_c m g b Y gY.bnd) ?_
  rintro e Z ⟨rfl, hbZ⟩
  have hwZ := hwY.trans (hbZ.mono hwY.size)
  have lZ := lY.below hbZ
  refine And.intro (fun k1 => ?_) (fun k1 => ?_)
  · refine ⟨lenc m g b, rfl, lZ.all, lZ.lt, ?_⟩
    refine Calls.mono (values_c m g b Z (hg.below hwZ).bnd) ?_
    rintro e Z1 ⟨rfl, hb1⟩
    have hw1 := hwZ.trans (hb1.mono hwZ.size)
    have l1 := lZ.below hb1
    refine And.intro (fun k2 => ?_) (fun k2 => ?_)
    · refine ⟨lenc m g b, rfl, l1.all, l1.lt, ?_⟩
      refine Calls.mono (plain_c m g b Z1 hR) ?_
      rintro e Z2 ⟨rfl, hb2⟩
      exact And.intro (rb (by rw [hfact, k1, k2]; rfl)) (hw1.trans (hb2.mono hw1.size))
    · have k2 : valuesL m g b = false := k2
      exact And.intro (rb (by rw [hfact, k1, k2]; rfl)) hw1
  · refine And.intro (fun h => by cases h) (fun _ => ?_)
    exact And.intro (rb (by rw [hfact, k1]; rfl)) hwZ
end Go.Proofs.YthgmcegmgjoafaaGreatDoor
namespace Go.Sei

/-- Elements with their places: the order under which a stable sort is a sort. -/
structure MOrd (α : Type) where
  lt : α → α → Bool
  irr : ∀ a, lt a a = false
  trans : ∀ a b c, lt a b = true → lt b c = true → lt a c = true
  neg : ∀ a b c, lt a b = false → lt b c = false → lt a c = false

abbrev Tg (α : Type) := α × Nat
def lt2 {α : Type} (O : MOrd α) (x y : Tg α) : Prop := O.lt x.1 y.1 = true ∨ (O.lt y.1 x.1 = false ∧ x.2 < y.2)
def Srt {α : Type} (O : MOrd α) (l : List (Tg α)) : Prop := l.Pairwise (lt2 O)

section
variable {α : Type} {O : MOrd α}
theorem MOrd.asymm (O : MOrd α) {a b : α} (h : O.lt a b = true) : O.lt b a = false := by
  cases hb : O.lt b a with
  | false => rfl
  | true => have := O.trans a b a h hb; rw [O.irr] at this; cases this
theorem lt2_irr {x : Tg α} : ¬ lt2 O x x := by
  rintro (h | ⟨_, h⟩)
  · rw [O.irr] at h; cases h
  · omega
theorem lt2_trans {x y z : Tg α} (h1 : lt2 O x y) (h2 : lt2 O y z) : lt2 O x z := by
  rcases h1 with h1 | ⟨h1, h1'⟩
  · rcases h2 with h2 | ⟨h2, h2'⟩
    · exact .inl (O.trans _ _ _ h1 h2)
    · left
      cases h : O.lt x.1 z.1 with
      | true => rfl
      | false =>
        have := O.neg _ _ _ h h2
        rw [this] at h1; cases h1
  · rcases h2 with h2 | ⟨h2, h2'⟩
    · left
      cases h : O.lt x.1 z.1 with
      | true => rfl
      | false =>
        have := O.neg _ _ _ h1 h
        rw [this] at h2; cases h2
    · exact .inr ⟨O.neg _ _ _ h2 h1, by omega⟩
theorem lt2_asymm {x y : Tg α} (h1 : lt2 O x y) (h2 : lt2 O y x) : False := lt2_irr (lt2_trans h1 h2)
theorem lt2_total {x y : Tg α} (h : x.2 ≠ y.2) : lt2 O x y ∨ lt2 O y x := by
  cases h1 : O.lt x.1 y.1 with
  | true => exact .inl (.inl h1)
  | false =>
    cases h2 : O.lt y.1 x.1 with
    | true => exact .inr (.inl h2)
    | false =>
      rcases Nat.lt_or_gt_of_ne h with h3 | h3
      · exact .inl (.inr ⟨h2, h3⟩)
      · exact .inr (.inr ⟨h1, h3⟩)

/-- A sorted permutation is unique. -/
theorem srt_unique : ∀ {l1 l2 : List (Tg α)}, Srt O l1 → Srt O l2 → l1.Perm l2 → l1 = l2
  | [], l2, _, _, hp => by simpa using hp.symm
  | a :: r, [], _, _, hp => by simp at hp
  | a :: r, b :: s, h1, h2, hp => by
    have h1' := List.pairwise_cons.1 h1
    have h2' := List.pairwise_cons.1 h2
    have hab : a = b := by
      have ha : a ∈ b :: s := hp.mem_iff.1 List.mem_cons_self
      have hb : b ∈ a :: r := hp.mem_iff.2 List.mem_cons_self
      rcases List.mem_cons.1 ha with e | ha
      · exact e
      · rcases List.mem_cons.1 hb with e | hb
        · exact e.symm
        · exact (lt2_asymm (h1'.1 b hb) (h2'.1 a ha)).elim
    subst hab
    rw [srt_unique h1'.2 h2'.2 ((List.perm_cons a).1 hp)]

theorem ends_lt {X Y : List (Tg α)} (hX : Srt O X) (hY : Srt O Y) (h : ∀ z u, X.getLast? = some z → Y.head? = some u → lt2 O z u) : ∀ x ∈ X, ∀ y ∈ Y, lt2 O x y := by
  intro x hx y hy
  rcases List.eq_nil_or_concat X with e | ⟨X', z, e⟩
  · subst e; cases hx
  · rw [List.concat_eq_append] at e
    subst e
    cases Y with
    | nil => cases hy
    | cons u r =>
      have h0 := h z u (by simp) rfl
      have h1 : x = z ∨ lt2 O x z := by
        rcases List.mem_append.1 hx with hx | hx
        · exact .inr ((List.pairwise_append.1 hX).2.2 x hx z (by simp))
        · exact .inl (by simpa using hx)
      have h2 : lt2 O x u := by
        rcases h1 with rfl | h1
        · exact h0
        · exact lt2_trans h1 h0
      rcases List.mem_cons.1 hy with rfl | hy
      · exact h2
      · exact lt2_trans h2 ((List.pairwise_cons.1 hY).1 y hy)

/-- The two halves of a merge, each merged. -/
theorem mrg_combine {L1 L2 R1 R2 S1 S2 : List (Tg α)} (hL : Srt O (L1 ++ L2)) (hR : Srt O (R1 ++ R2)) (h12 : ∀ x ∈ L1, ∀ y ∈ R2, lt2 O x y) (h21 : ∀ y ∈ R1, ∀ x ∈ L2, lt2 O y x)
    (s1 : Srt O S1) (p1 : S1.Perm (L1 ++ R1)) (s2 : Srt O S2) (p2 : S2.Perm (L2 ++ R2)) : Srt O (S1 ++ S2) ∧ (S1 ++ S2).Perm (L1 ++ L2 ++ (R1 ++ R2)) := by
  refine ⟨List.pairwise_append.2 ⟨s1, s2, fun x hx y hy => ?_⟩, ?_⟩
  · rcases List.mem_append.1 (p1.mem_iff.1 hx) with hx | hx <;> rcases List.mem_append.1 (p2.mem_iff.1 hy) with hy | hy
    · exact (List.pairwise_append.1 hL).2.2 x hx y hy
    · exact h12 x hx y hy
    · exact h21 x hx y hy
    · exact (List.pairwise_append.1 hR).2.2 x hx y hy
  · refine (p1.append p2).trans ?_
    rw [List.append_assoc, List.append_assoc]
    refine List.Perm.append_left L1 ?_
    rw [← List.append_assoc, ← List.append_assoc]
    exact List.Perm.append_right R2 List.perm_append_comm

/-- Between a left element and a right one the comparison tells all. -/
theorem cross_lt {x y : Tg α} (h : x.2 < y.2) : (O.lt y.1 x.1 = true → lt2 O y x) ∧ (O.lt y.1 x.1 = false → lt2 O x y) :=
  ⟨fun h1 => .inl h1, fun h1 => .inr ⟨h1, h⟩⟩
end
end Go.Sei
namespace Go.Proofs.YthgmcegmgjoafaaGreatDoor
open Go.Vc Go.RowKit Go.Sei

theorem cmp8_lt {x y : UInt8} : cmp8 x y < 0 ↔ x.toNat < y.toNat := by
  unfold cmp8; split
  · simp_all
  · split
    · simp; omega
    · simp; omega
theorem cmpL_self : ∀ l, cmpL l l = 0
  | [] => rfl
  | x :: r => by rw [cmpL, if_pos rfl]; exact cmpL_self r
theorem cmpL_lt_cons {x y : UInt8} {r s : List UInt8} : cmpL (x :: r) (y :: s) < 0 ↔ x.toNat < y.toNat ∨ (x = y ∧ cmpL r s < 0) := by
  rw [cmpL]; split
  · rename_i h; subst h; simp
  · rename_i h
    rw [cmp8_lt]; simp [h]
theorem cmpL_total : ∀ l1 l2, cmpL l1 l2 < 0 ∨ cmpL l2 l1 < 0 ∨ l1 = l2
  | [], [] => by simp
  | [], _ :: _ => .inl (by simp [cmpL])
  | _ :: _, [] => .inr (.inl (by simp [cmpL]))
  | x :: r, y :: s => by
    rw [cmpL_lt_cons, cmpL_lt_cons]
    rcases Nat.lt_trichotomy x.toNat y.toNat with h | h | h
    · exact .inl (.inl h)
    · have e : x = y := UInt8.toNat_inj.1 h
      subst e
      rcases cmpL_total r s with h | h | h
      · exact .inl (.inr ⟨rfl, h⟩)
      · exact .inr (.inl (.inr ⟨rfl, h⟩))
      · exact .inr (.inr (by rw [h]))
    · exact .inr (.inl (.inl h))
theorem cmpL_trans : ∀ l1 l2 l3, cmpL l1 l2 < 0 → cmpL l2 l3 < 0 → cmpL l1 l3 < 0
  | [], [], _, h, _ => by simp [cmpL] at h
  | _ :: _, [], _, h, _ => by simp [cmpL] at h
  | [], _ :: _, [], _, h => by simp [cmpL] at h
  | [], _ :: _, _ :: _, _, _ => by simp [cmpL]
  | _ :: _, _ :: _, [], _, h => by simp [cmpL] at h
  | x :: r, y :: s, z :: t, h1, h2 => by
    rw [cmpL_lt_cons] at *
    rcases h1 with h1 | ⟨rfl, h1⟩
    · rcases h2 with h2 | ⟨rfl, h2⟩
      · exact .inl (by omega)
      · exact .inl h1
    · rcases h2 with h2 | ⟨rfl, h2⟩
      · exact .inl h2
      · exact .inr ⟨rfl, cmpL_trans r s t h1 h2⟩

/-- Messages by a key. -/
def keyO (key : Msg → List UInt8) : MOrd Msg where
  lt a b := decide (cmpL (key a) (key b) < 0)
  irr a := by rw [cmpL_self]; rfl
  trans a b c h1 h2 := decide_eq_true (cmpL_trans _ _ _ (of_decide_eq_true h1) (of_decide_eq_true h2))
  neg a b c h1 h2 := by
    have h1 := of_decide_eq_false h1
    have h2 := of_decide_eq_false h2
    refine decide_eq_false fun h => ?_
    rcases cmpL_total (key a) (key b) with k | k | k
    · exact h1 k
    · rcases cmpL_total (key b) (key c) with q | q | q
      · exact h2 q
      · have := cmpL_trans _ _ _ (cmpL_trans _ _ _ h q) k
        rw [cmpL_self] at this; cases this
      · rw [← q] at h; exact h1 (by have := cmpL_trans _ _ _ h k; rw [cmpL_self] at this; cases this)
    · rw [k] at h; exact h2 h
theorem codeOf_inj {a b : Msg} (h : codeOf a = codeOf b) : a = b := by
  obtain ⟨a0, a1, a2, a3, a4, a5, a6, a7, a8, a9, a10⟩ := a
  obtain ⟨b0, b1, b2, b3, b4, b5, b6, b7, b8, b9, b10⟩ := b
  simp only [codeOf, List.cons.injEq, and_true] at h
  obtain ⟨rfl, rfl, rfl, rfl, rfl, rfl, h, rfl, rfl, rfl, rfl⟩ := h
  have : a6 = b6 := by cases a6 <;> cases b6 <;> simp at h ⊢
  rw [this]

/-- The key of a message in a mode. -/
def qbs (mode : UInt8) (m : Msg) : List UInt8 := [(queue m mode).1, (queue m mode).2.1, (queue m mode).2.2]
def mkey (mode : UInt8) (m : Msg) : List UInt8 := if mode = 1 then codeOf m else qbs mode m
end Go.Proofs.YthgmcegmgjoafaaGreatDoor
namespace Go.Sei
open Go.Vc

/-- The table of classes lies in its variable. -/
def Glob (w : World) : Prop := Cells w ⟨1, 0, none⟩ (classes.map u8)
theorem Glob.below {w w2 : World} (h : Glob w) (hb : Go.RowKit.Below w.heap.size w w2) : Glob w2 := cells_below hb h
end Go.Sei
namespace Go.Sei
open Go.Vc

/-- May message i be delivered next? -/
def dlv (l : List Msg) (mode : UInt8) (i : Nat) : Bool :=
  decide (mode = 1) || (match l[i]? with
    | some m => decide (((l.take i).map (queue · mode)).count (queue m mode) = 0)
    | none => false)
def upto (l : List Msg) (mode : UInt8) (k : Nat) : List Nat := (List.range k).filter (dlv l mode)
def nextL (l : List Msg) (mode : UInt8) : List Nat := if knownB mode then upto l mode l.length else []
theorem upto_succ (l : List Msg) (mode : UInt8) (k : Nat) : upto l mode (k + 1) = upto l mode k ++ (if dlv l mode k then [k] else []) := by
  unfold upto; rw [List.range_succ, List.filter_append]; congr 1; simp [List.filter_cons]
theorem upto_prefix (l : List Msg) (mode : UInt8) {k n : Nat} (h : k ≤ n) : upto l mode k <+: upto l mode n := by
  induction n with
  | zero => have : k = 0 := by omega
            subst this; exact List.prefix_refl _
  | succ n ih =>
    rcases Nat.lt_or_ge k (n + 1) with h1 | h1
    · rw [upto_succ]; exact (ih (by omega)).trans (List.prefix_append _ _)
    · have : k = n + 1 := by omega
      subst this; exact List.prefix_refl _
/-- How often each queue has come up. -/
def cnt (l : List Msg) (mode : UInt8) (k : Nat) (q : UInt8 × UInt8 × UInt8) : Nat := ((l.take k).map (queue · mode)).count q
theorem cnt_succ (l : List Msg) (mode : UInt8) {k : Nat} (hk : k < l.length) (q : UInt8 × UInt8 × UInt8) : cnt l mode (k + 1) q = cnt l mode k q + if q = queue l[k] mode then 1 else 0 := by
  unfold cnt
  rw [List.take_succ_eq_append_getElem hk, List.map_append, List.count_append]
  simp only [List.map_cons, List.map_nil, List.count_cons, List.count_nil, Nat.zero_add, beq_iff_eq]
  congr 1
  by_cases h : q = queue l[k] mode
  · simp [h]
  · have : ¬ queue l[k] mode = q := fun e => h e.symm
    simp [h, this]
/-- The map that the iterator keeps. -/
def cntF (l : List Msg) (mode : UInt8) (k : Nat) (q : UInt8 × UInt8 × UInt8) : Option Value := if cnt l mode k q = 0 then none else some (.int .i64 (cnt l mode k q))
theorem cntF_getD (l : List Msg) (mode : UInt8) (k : Nat) (q : UInt8 × UInt8 × UInt8) : (cntF l mode k q).getD (.int .i64 0) = .int .i64 (cnt l mode k q) := by
  unfold cntF; split
  · rename_i h; simp [h]
  · rfl
theorem cnt_le (l : List Msg) (mode : UInt8) (k : Nat) (q : UInt8 × UInt8 × UInt8) : cnt l mode k q ≤ l.length := by
  unfold cnt
  refine Nat.le_trans List.count_le_length ?_
  simp; omega
theorem dlv_eq (l : List Msg) (mode : UInt8) {k : Nat} (hk : k < l.length) : dlv l mode k = (decide (mode = 1) || decide (cnt l mode k (queue l[k] mode) = 0)) := by
  unfold dlv cnt; rw [List.getElem?_eq_getElem hk]
theorem cntF_step (l : List Msg) (mode : UInt8) {k : Nat} (hk : k < l.length) : (fun q' => if q' = queue l[k] mode then some (Value.int .i64 (cnt l mode k (queue l[k] mode) + 1 : Int)) else if q' = queue l[k] mode then some ((cntF l mode k (queue l[k] mode)).getD (.int .i64 0)) else cntF l mode k q') = cntF l mode (k + 1) := by
  funext q
  have h := cnt_succ l mode hk q
  by_cases e : q = queue l[k] mode
  · subst e
    rw [if_pos rfl] at h
    simp [cntF, h]
  · rw [if_neg e, Nat.add_zero] at h
    simp [cntF, e, h]
end Go.Sei
namespace Go.Sei
open Go.Vc

def nats (l : List Nat) : List Int := l.map (fun (i : Nat) => (i : Int))
theorem nats_len (l : List Nat) : (nats l).length = l.length := by simp [nats]
theorem mem_nats (l : List Nat) (i : Nat) : ((i : Int) ∈ nats l) ↔ i ∈ l := by
  unfold nats; rw [List.mem_map]
  constructor
  · rintro ⟨a, ha, h⟩; have : a = i := by omega
    subst this; exact ha
  · exact fun h => ⟨i, h, rfl⟩

theorem mem_upto (l : List Msg) (mode : UInt8) (n i : Nat) : i ∈ upto l mode n ↔ i < n ∧ dlv l mode i = true := by
  unfold upto; simp [List.mem_filter]
theorem next_all (l : List Msg) : nextL l 1 = List.range l.length := by
  have : nextL l 1 = upto l 1 l.length := by simp [nextL, knownB]
  rw [this]; unfold upto
  rw [List.filter_eq_self]
  intro i _; simp [dlv]
theorem next_fifo (l : List Msg) : nextL l 2 = upto l 2 l.length := by simp [nextL, knownB]
theorem next_class (l : List Msg) : nextL l 3 = upto l 3 l.length := by simp [nextL, knownB]
theorem upto_head (l : List Msg) (mode : UInt8) (h : 0 < l.length) : ∃ t, upto l mode l.length = 0 :: t := by
  have h1 : upto l mode 1 <+: upto l mode l.length := upto_prefix l mode h
  have h2 : upto l mode 1 = [0] := by
    have : dlv l mode 0 = true := by rw [dlv_eq l mode h]; simp [cnt]
    have h3 := upto_succ l mode 0
    rw [this] at h3
    simpa [upto] using h3
  rw [h2] at h1
  obtain ⟨t, ht⟩ := h1
  exact ⟨t, ht.symm⟩
/-- Do messages j and i run between other pairs? -/
def differ (a b : Msg) : Bool := decide (¬ a.from_ = b.from_) || decide (¬ a.to = b.to)
theorem dlv_fifo (l : List Msg) {i : Nat} (hi : i < l.length) : dlv l 2 i = (l.take i).all (fun m => differ m l[i]) := by
  rw [dlv_eq l 2 hi]
  have h0 : decide ((2 : UInt8) = 1) = false := by decide
  rw [h0, Bool.false_or, Bool.eq_iff_iff, decide_eq_true_iff, List.all_eq_true]
  unfold cnt
  rw [List.count_eq_zero]
  constructor
  · intro h m hm
    have : queue m 2 ≠ queue l[i] 2 := fun e => h (List.mem_map.2 ⟨m, hm, e⟩)
    simp only [queue, differ] at this ⊢
    by_cases h1 : m.from_ = l[i].from_
    · by_cases h2 : m.to = l[i].to
      · exact absurd (by simp [h1, h2]) this
      · simp [h2]
    · simp [h1]
  · intro h hm
    obtain ⟨m, hm, e⟩ := List.mem_map.1 hm
    have := h m hm
    simp only [queue, Prod.mk.injEq] at e
    have e1 := e.1
    have e2 := e.2
    simp [differ, e1] at this
    exact this (by simpa using e2)
theorem fifo_class (l : List Msg) {i : Nat} (hi : i < l.length) (h : dlv l 2 i = true) : dlv l 3 i = true := by
  rw [dlv_fifo l hi, List.all_eq_true] at h
  rw [dlv_eq l 3 hi, decide_eq_false (show ¬ (3 : UInt8) = 1 by decide), Bool.false_or, decide_eq_true_iff]
  unfold cnt
  rw [List.count_eq_zero]
  intro hm
  obtain ⟨m, hm, e⟩ := List.mem_map.1 hm
  have := h m hm
  simp only [queue, Prod.mk.injEq] at e
  simp [differ, e.1, e.2.1] at this
/-- Is message i the first of its pair among the first k? -/
def firstB (l : List Msg) (m : Msg) (k : Nat) : Bool := (l.take k).all (fun a => differ a m)
theorem firstB_succ (l : List Msg) (m : Msg) {k : Nat} (hk : k < l.length) : firstB l m (k + 1) = (firstB l m k && differ l[k] m) := by
  unfold firstB; rw [List.take_succ_eq_append_getElem hk, List.all_append]; simp only [List.all_cons, List.all_nil, Bool.and_true]
end Go.Sei
namespace Go.Proofs.YthgmcegmgjoafaaGreatDoor
open Go.Vc Go.RowKit Go.Sei

abbrev mO (mode : UInt8) : MOrd Msg := keyO (mkey mode)
/-- r is a stable sort of l. -/
def IsSort (mode : UInt8) (l r : List Msg) : Prop := ∃ ys : List (Tg Msg), Srt (mO mode) ys ∧ ys.Perm l.zipIdx ∧ r = ys.map Prod.fst
/-- The messages of each queue are the same, and in the same order. -/
def EqM (mode : UInt8) (a b : List Msg) : Prop := ∀ q, a.filter (fun m => decide (mkey mode m = q)) = b.filter (fun m => decide (mkey mode m = q))

theorem zip_places : ∀ (l : List Msg) (n : Nat), (l.zipIdx n).Pairwise (fun x y => x.2 < y.2)
  | [], _ => by simp
  | a :: r, n => by
    rw [List.zipIdx_cons, List.pairwise_cons]
    refine ⟨fun x hx => ?_, zip_places r (n + 1)⟩
    obtain ⟨_, h2⟩ := List.mem_zipIdx hx
    dsimp only; omega
theorem zip_fst : ∀ (l : List Msg) (n : Nat), (l.zipIdx n).map Prod.fst = l
  | [], _ => rfl
  | a :: r, n => by rw [List.zipIdx_cons, List.map_cons, zip_fst r (n + 1)]
theorem IsSort.perm {mode : UInt8} {l r : List Msg} (h : IsSort mode l r) : r.Perm l := by
  obtain ⟨ys, _, h2, rfl⟩ := h
  have := h2.map Prod.fst
  rwa [zip_fst] at this
theorem IsSort.filt {mode : UInt8} {l r : List Msg} (h : IsSort mode l r) : EqM mode r l := by
  intro q
  obtain ⟨ys, h1, h2, rfl⟩ := h
  have h3 : (ys.filter (fun x => decide (mkey mode x.1 = q))) = l.zipIdx.filter (fun x => decide (mkey mode x.1 = q)) := by
    refine srt_unique (O := mO mode) (h1.filter _) ?_ (h2.filter _)
    refine List.Pairwise.imp_of_mem ?_ ((zip_places l 0).filter _)
    intro x y hx hy hxy
    have e1 := of_decide_eq_true (List.mem_filter.1 hx).2
    have e2 := of_decide_eq_true (List.mem_filter.1 hy).2
    refine .inr ⟨?_, hxy⟩
    simp only [keyO, e1, e2, cmpL_self]; rfl
  have h4 := congrArg (List.map Prod.fst) h3
  have e : ∀ (zs : List (Tg Msg)), (zs.filter (fun x => decide (mkey mode x.1 = q))).map Prod.fst = (zs.map Prod.fst).filter (fun m => decide (mkey mode m = q)) := fun zs => by
    rw [List.filter_map]; rfl
  rw [e, e, zip_fst] at h4
  exact h4
theorem IsSort.sorted {mode : UInt8} {l r : List Msg} (h : IsSort mode l r) : r.Pairwise (fun x y => (mO mode).lt y x = false) := by
  obtain ⟨ys, h1, h2, rfl⟩ := h
  rw [List.pairwise_map]
  refine h1.imp fun h => ?_
  rcases h with h | ⟨h, _⟩
  · exact (mO mode).asymm h
  · exact h
theorem sorted_uniq {mode : UInt8} : ∀ (r1 r2 : List Msg), r1.Pairwise (fun x y => (mO mode).lt y x = false) → r2.Pairwise (fun x y => (mO mode).lt y x = false) → EqM mode r1 r2 → r1 = r2
  | [], [], _, _, _ => rfl
  | [], y :: t, _, _, h => by have := h (mkey mode y); simp at this
  | x :: t, [], _, _, h => by have := h (mkey mode x); simp at this
  | x :: t, y :: u, h1, h2, h => by
    have p1 := List.pairwise_cons.1 h1
    have p2 := List.pairwise_cons.1 h2
    have hk : mkey mode x = mkey mode y := by
      have hx : x ∈ (y :: u).filter (fun m => decide (mkey mode m = mkey mode x)) := by rw [← h]; simp
      have hy : y ∈ (x :: t).filter (fun m => decide (mkey mode m = mkey mode y)) := by rw [h]; simp
      have hx := (List.mem_filter.1 hx).1
      have hy := (List.mem_filter.1 hy).1
      have a1 : (mO mode).lt x y = false := by
        rcases List.mem_cons.1 hx with e | hx
        · rw [e]; exact (mO mode).irr _
        · exact p2.1 x hx
      have a2 : (mO mode).lt y x = false := by
        rcases List.mem_cons.1 hy with e | hy
        · rw [e]; exact (mO mode).irr _
        · exact p1.1 y hy
      rcases cmpL_total (mkey mode x) (mkey mode y) with h | h | h
      · have a1 := of_decide_eq_false a1; exact absurd h a1
      · have a2 := of_decide_eq_false a2; exact absurd h a2
      · exact h
    have hh := h (mkey mode x)
    rw [List.filter_cons_of_pos (by simp), List.filter_cons_of_pos (by simp [hk])] at hh
    simp only [List.cons.injEq] at hh
    obtain ⟨e, _⟩ := hh
    subst e
    rw [sorted_uniq t u p1.2 p2.2 fun q => ?_]
    have := h q
    simp only [List.filter_cons] at this
    split at this
    · exact (List.cons.inj this).2
    · exact this
theorem isSort_eq {mode : UInt8} {a b r s : List Msg} (h1 : IsSort mode a r) (h2 : IsSort mode b s) : r = s ↔ EqM mode a b := by
  constructor
  · intro e q
    subst e
    rw [← h1.filt q, h2.filt q]
  · intro e
    exact sorted_uniq r s h1.sorted h2.sorted fun q => by rw [h1.filt q, e q, h2.filt q]
theorem EqM.perm {mode : UInt8} {a b : List Msg} (h : EqM mode a b) : a.Perm b := by
  rw [List.perm_iff_count]
  intro m
  have := congrArg (List.count m) (h (mkey mode m))
  rwa [List.count_filter (by simp), List.count_filter (by simp)] at this
theorem EqM.symm {mode : UInt8} {a b : List Msg} (h : EqM mode a b) : EqM mode b a := fun q => (h q).symm
theorem EqM.refl (mode : UInt8) (a : List Msg) : EqM mode a a := fun _ => rfl
theorem EqM.trans {mode : UInt8} {a b c : List Msg} (h : EqM mode a b) (k : EqM mode b c) : EqM mode a c := fun q => (h q).trans (k q)
theorem bag_inj {x y : Msg} (h : mkey 1 x = mkey 1 y) : x = y := codeOf_inj (by simpa [mkey] using h)
theorem perm_bag {a b : List Msg} (h : a.Perm b) : EqM 1 a b := by
  intro q
  have h1 : ∀ x ∈ a.filter (fun m => decide (mkey 1 m = q)), ∀ y ∈ a.filter (fun m => decide (mkey 1 m = q)), x = y := fun x hx y hy => by
    have hx := of_decide_eq_true (List.mem_filter.1 hx).2
    have hy := of_decide_eq_true (List.mem_filter.1 hy).2
    exact bag_inj (hx.trans hy.symm)
  have h2 := h.filter (fun m => decide (mkey 1 m = q))
  generalize a.filter (fun m => decide (mkey 1 m = q)) = u at h1 h2
  generalize b.filter (fun m => decide (mkey 1 m = q)) = v at h2
  match u, v with
  | [], v => exact h2.nil_eq
  | x :: u, v =>
    have e1 : x :: u = List.replicate (u.length + 1) x := by rw [List.eq_replicate_iff]; exact ⟨rfl, fun y hy => h1 y hy x (by simp)⟩
    rw [e1] at h2 ⊢
    first | exact List.replicate_perm.1 h2 | exact (List.replicate_perm.1 h2).symm

theorem qbs_eq {mode : UInt8} {x y : Msg} : qbs mode x = qbs mode y ↔ queue x mode = queue y mode := by
  constructor
  · intro h
    simp only [qbs, List.cons.injEq, and_true] at h
    exact Prod.ext h.1 (Prod.ext h.2.1 h.2.2)
  · intro h; simp only [qbs, h]
/-- What is taken away is the first of its queue. -/
theorem filt_erase {mode : UInt8} {l : List Msg} {i : Nat} (hi : i < l.length) (hd : dlv l mode i = true) (q : List UInt8) :
    (l.eraseIdx i).filter (fun m => decide (mkey mode m = q)) = if mkey mode l[i] = q then (l.filter (fun m => decide (mkey mode m = q))).tail else l.filter (fun m => decide (mkey mode m = q)) := by
  have e : l = l.take i ++ l[i] :: l.drop (i + 1) := by rw [List.getElem_cons_drop, List.take_append_drop]
  have e2 : l.filter (fun m => decide (mkey mode m = q)) = (l.take i).filter (fun m => decide (mkey mode m = q)) ++ (l[i] :: l.drop (i + 1)).filter (fun m => decide (mkey mode m = q)) := by
    rw [← List.filter_append, ← e]
  rw [List.eraseIdx_eq_take_drop_succ, List.filter_append, e2]
  by_cases h : mkey mode l[i] = q
  · rw [if_pos h, List.filter_cons_of_pos (by simp [h])]
    by_cases hm : mode = 1
    · subst hm
      have : (l.take i).filter (fun m => decide (mkey 1 m = q)) = List.replicate ((l.take i).filter (fun m => decide (mkey 1 m = q))).length l[i] := by
        rw [List.eq_replicate_iff]
        exact ⟨rfl, fun y hy => bag_inj ((of_decide_eq_true (List.mem_filter.1 hy).2).trans h.symm)⟩
      generalize ((l.take i).filter (fun m => decide (mkey 1 m = q))) = X at this ⊢
      rw [this]
      generalize X.length = n
      cases n with
      | zero => rfl
      | succ n =>
        rw [List.replicate_succ, List.cons_append, List.cons_append, List.tail_cons, ← List.cons_append, ← List.replicate_succ, List.replicate_succ']
        simp
    · have : (l.take i).filter (fun m => decide (mkey mode m = q)) = [] := by
        rw [List.filter_eq_nil_iff]
        intro m hmem hk
        have hk := of_decide_eq_true hk
        rw [dlv_eq l mode hi, decide_eq_false hm, Bool.false_or, decide_eq_true_iff] at hd
        unfold cnt at hd
        rw [List.count_eq_zero] at hd
        refine hd (List.mem_map.2 ⟨m, hmem, ?_⟩)
        have := hk.trans h.symm
        simp only [mkey, if_neg hm] at this
        exact qbs_eq.1 this
      rw [this]; rfl
  · rw [if_neg h, List.filter_cons_of_neg (by simp [h])]
theorem filt_head {mode : UInt8} {l : List Msg} {i : Nat} (hi : i < l.length) (hd : dlv l mode i = true) : (l.filter (fun m => decide (mkey mode m = mkey mode l[i]))).head? = some l[i] := by
  have e : l = l.take i ++ l[i] :: l.drop (i + 1) := by rw [List.getElem_cons_drop, List.take_append_drop]
  have e2 : l.filter (fun m => decide (mkey mode m = mkey mode l[i])) = (l.take i).filter (fun m => decide (mkey mode m = mkey mode l[i])) ++ (l[i] :: l.drop (i + 1)).filter (fun m => decide (mkey mode m = mkey mode l[i])) := by
    rw [← List.filter_append, ← e]
  rw [e2, List.filter_cons_of_pos (by simp)]
  by_cases hm : mode = 1
  · subst hm
    cases h : (l.take i).filter (fun m => decide (mkey 1 m = mkey 1 l[i])) with
    | nil => rfl
    | cons y r =>
      have hy : y ∈ (l.take i).filter (fun m => decide (mkey 1 m = mkey 1 l[i])) := by rw [h]; simp
      have := bag_inj (of_decide_eq_true (List.mem_filter.1 hy).2)
      rw [this]; rfl
  · have : (l.take i).filter (fun m => decide (mkey mode m = mkey mode l[i])) = [] := by
      rw [List.filter_eq_nil_iff]
      intro m hmem hk
      have hk := of_decide_eq_true hk
      rw [dlv_eq l mode hi, decide_eq_false hm, Bool.false_or, decide_eq_true_iff] at hd
      unfold cnt at hd
      rw [List.count_eq_zero] at hd
      refine hd (List.mem_map.2 ⟨m, hmem, ?_⟩)
      simp only [mkey, if_neg hm] at hk
      exact qbs_eq.1 hk
    rw [this]; rfl
/-- What may be delivered from one of two equivalent lists may be delivered from the other. -/
theorem eqM_next {mode : UInt8} {a b : List Msg} (h : EqM mode a b) {i : Nat} (hi : i < a.length) (hd : dlv a mode i = true) :
    ∃ k, ∃ hk : k < b.length, dlv b mode k = true ∧ a[i] = b[k] ∧ EqM mode (a.eraseIdx i) (b.eraseIdx k) := by
  have h1 := filt_head hi hd
  rw [h] at h1
  cases hb : b.filter (fun m => decide (mkey mode m = mkey mode a[i])) with
  | nil => rw [hb] at h1; cases h1
  | cons y t =>
    rw [hb] at h1
    have hy : y = a[i] := by simpa using h1
    obtain ⟨X, Y, e, hX, hp, _⟩ := List.filter_eq_cons_iff.1 hb
    subst e
    have hk : X.length < (X ++ y :: Y).length := by simp
    have hg : (X ++ y :: Y)[X.length] = y := by simp
    have hdk : dlv (X ++ y :: Y) mode X.length = true := by
      rw [dlv_eq _ mode hk]
      by_cases hm : mode = 1
      · simp [hm]
      · rw [decide_eq_false hm, Bool.false_or, decide_eq_true_iff]
        unfold cnt
        rw [List.count_eq_zero, List.take_left, hg]
        intro hmem
        obtain ⟨m, hm1, hm2⟩ := List.mem_map.1 hmem
        have := hX m hm1
        refine this (decide_eq_true ?_)
        rw [hy] at hm2
        simp only [mkey, if_neg hm]
        exact qbs_eq.2 hm2
    refine ⟨X.length, hk, hdk, by rw [hg, hy], fun q => ?_⟩
    rw [filt_erase hi hd q, filt_erase hk hdk q, hg, h q]
    rw [← hy]
/-- A delivery in order. -/
theorem deliver {mode : UInt8} {l : List Msg} {i : Nat} (hi : i < l.length) (hd : dlv l mode i = true) (out : List Msg) (q : List UInt8) :
    (out ++ [l[i]]).filter (fun m => decide (mkey mode m = q)) ++ (l.eraseIdx i).filter (fun m => decide (mkey mode m = q)) = out.filter (fun m => decide (mkey mode m = q)) ++ l.filter (fun m => decide (mkey mode m = q)) := by
  rw [filt_erase hi hd q, List.filter_append, List.append_assoc]
  congr 1
  by_cases h : mkey mode l[i] = q
  · rw [if_pos h, List.filter_cons_of_pos (by simp [h])]
    have := filt_head hi hd
    rw [h] at this
    cases hl : l.filter (fun m => decide (mkey mode m = q)) with
    | nil => rw [hl] at this; cases this
    | cons y t => rw [hl] at this; simp at this; simp [this]
  · rw [if_neg h, List.filter_cons_of_neg (by simp [h])]; rfl
end Go.Proofs.YthgmcegmgjoafaaGreatDoor
namespace Go.Proofs.YthgmcegmgjoafaaGreatDoor
open Go.Vc Go.RowKit Go.Sei
set_option linter.unusedVariables false
set_option linter.unusedSimpArgs false

theorem ask_bits : ((List.range 13).all fun j => hasB (usesL.getD j 0) 1 == (decide (j = 6) || (decide (j = 7) || decide (j = 8)))) = true := by kernel_rfl
theorem ask_bit {k : UInt8} (h : k.toNat < 13) : hasB (usesL.getD k.toNat 0) 1 = decide (k = 6 ∨ k = 7 ∨ k = 8) := by
  have := List.all_eq_true.1 ask_bits k.toNat (List.mem_range.2 h)
  have := beq_iff_eq.1 this
  rw [this]
  have e : ∀ j : UInt8, (k.toNat = j.toNat) ↔ k = j := fun j => UInt8.toNat_inj
  have e6 : (k.toNat = 6) ↔ k = 6 := e 6
  have e7 : (k.toNat = 7) ↔ k = 7 := e 7
  have e8 : (k.toNat = 8) ↔ k = 8 := e 8
  rw [Bool.eq_iff_iff]
  simp only [Bool.or_eq_true, decide_eq_true_eq, e6, e7, e8]

section
variable {n : Nat} {to : List Int} (h4 : n ≤ 4) (hr : ∀ k, k < n → 0 ≤ to.getD k 0 ∧ to.getD k 0 < n) (hi : ∀ j k, j < n → k < n → to.getD j 0 = to.getD k 0 → j = k)
include h4 hr
theorem nodeU_val {k : UInt8} (hk : k.toNat < n) : (nodeU n to k).toNat = (to.getD k.toNat 0).toNat := by
  have h := hr k.toNat hk
  unfold nodeU
  rw [if_pos hk, UInt8.toNat_ofNat']
  omega
theorem nodeU_lt {k : UInt8} : (nodeU n to k).toNat < n ↔ k.toNat < n := by
  constructor
  · intro h
    by_cases hk : k.toNat < n
    · exact hk
    · unfold nodeU at h; rw [if_neg hk] at h; exact h
  · intro hk
    have h := hr k.toNat hk
    rw [nodeU_val h4 hr hk]; omega
theorem nodeU_hi {k x : UInt8} (hx : ¬ x.toNat < n) : nodeU n to k = x ↔ k = x := by
  by_cases hk : k.toNat < n
  · constructor
    · intro e; rw [← e] at hx; exact absurd ((nodeU_lt h4 hr).2 hk) hx
    · intro e; rw [e] at hk; exact absurd hk hx
  · unfold nodeU; rw [if_neg hk]
include hi
theorem nodeU_inj {j k : UInt8} : nodeU n to j = nodeU n to k ↔ j = k := by
  constructor
  · intro e
    by_cases hk : k.toNat < n
    · have hj : j.toNat < n := (nodeU_lt h4 hr).1 (by rw [e]; exact (nodeU_lt h4 hr).2 hk)
      have e2 := congrArg UInt8.toNat e
      rw [nodeU_val h4 hr hj, nodeU_val h4 hr hk] at e2
      have a := hr _ hj
      have b := hr _ hk
      exact UInt8.toNat_inj.1 (hi _ _ hj hk (by omega))
    · have ek : nodeU n to k = k := by unfold nodeU; rw [if_neg hk]
      rw [ek] at e
      exact (nodeU_hi h4 hr hk).1 e
  · intro e; rw [e]
omit hi
end

def askK (k : UInt8) : Bool := decide (k = 6 ∨ k = 7 ∨ k = 8)
theorem turnM_eq (n : Nat) (to : List Int) (m : Msg) : turnM n to m = { m with from_ := nodeU n to m.from_, «to» := nodeU n to m.to, asker := if askK m.kind = true then nodeU n to m.asker else m.asker } := by
  unfold turnM askK
  by_cases h : m.kind = 6 ∨ m.kind = 7 ∨ m.kind = 8
  · rw [if_pos h, decide_eq_true h]; rfl
  · rw [if_neg h, decide_eq_false h]; rfl

section
variable {n : Nat} {to : List Int} (h4 : n ≤ 4) (hr : ∀ k, k < n → 0 ≤ to.getD k 0 ∧ to.getD k 0 < n) (hi : ∀ j k, j < n → k < n → to.getD j 0 = to.getD k 0 → j = k)
include h4 hr hi
theorem turnM_inj {x y : Msg} : turnM n to x = turnM n to y ↔ x = y := by
  constructor
  · intro e
    rw [turnM_eq, turnM_eq] at e
    simp only [Msg.mk.injEq] at e
    obtain ⟨e0, e1, e2, e3, e4, e5, e6, e7, e8, e9, e10⟩ := e
    have e1 := (nodeU_inj h4 hr hi).1 e1
    have e2 := (nodeU_inj h4 hr hi).1 e2
    have e4 : x.asker = y.asker := by
      rw [e0] at e4
      split at e4
      · exact (nodeU_inj h4 hr hi).1 e4
      · exact e4
    cases x; cases y
    simp only [Msg.mk.injEq]
    exact ⟨e0, e1, e2, e3, e4, e5, e6, e7, e8, e9, e10⟩
  · intro e; rw [e]
theorem queue_turn {x y : Msg} {mode : UInt8} : queue (turnM n to x) mode = queue (turnM n to y) mode ↔ queue x mode = queue y mode := by
  rw [turnM_eq, turnM_eq]
  unfold queue
  simp only [Prod.mk.injEq, nodeU_inj h4 hr hi]
theorem mkey_turn {x y : Msg} {mode : UInt8} : mkey mode (turnM n to x) = mkey mode (turnM n to y) ↔ mkey mode x = mkey mode y := by
  unfold mkey
  by_cases h : mode = 1
  · rw [if_pos h, if_pos h, if_pos h, if_pos h]
    constructor
    · intro e; rw [(turnM_inj h4 hr hi).1 (codeOf_inj e)]
    · intro e; rw [codeOf_inj e]
  · rw [if_neg h, if_neg h, if_neg h, if_neg h, qbs_eq, qbs_eq]
    exact queue_turn h4 hr hi
theorem dlv_turn (l : List Msg) (mode : UInt8) (i : Nat) : dlv (l.map (turnM n to)) mode i = dlv l mode i := by
  unfold dlv
  rw [List.getElem?_map]
  cases h : l[i]? with
  | none => rfl
  | some m =>
    dsimp only [Option.map_some]
    congr 2
    rw [← List.map_take, List.map_map, List.count_eq_zero, List.count_eq_zero]
    refine propext (not_congr ?_)
    simp only [List.mem_map, Function.comp_apply]
    constructor
    · rintro ⟨x, hx, e⟩; exact ⟨x, hx, (queue_turn h4 hr hi).1 e⟩
    · rintro ⟨x, hx, e⟩; exact ⟨x, hx, (queue_turn h4 hr hi).2 e⟩
theorem next_turn (l : List Msg) (mode : UInt8) : nextL (l.map (turnM n to)) mode = nextL l mode := by
  unfold nextL upto
  rw [List.length_map]
  congr 1
  refine List.filter_congr fun i _ => ?_
  rw [dlv_turn h4 hr hi]
theorem eqM_turn {a b : List Msg} {mode : UInt8} : EqM mode (a.map (turnM n to)) (b.map (turnM n to)) ↔ EqM mode a b := by
  have hf : ∀ (l : List Msg) (x : Msg), (l.map (turnM n to)).filter (fun m => decide (mkey mode m = mkey mode (turnM n to x))) = (l.filter (fun m => decide (mkey mode m = mkey mode x))).map (turnM n to) := fun l x => by
    rw [List.filter_map]
    congr 1
    refine List.filter_congr fun m _ => ?_
    rw [Function.comp_apply, decide_eq_decide]
    exact mkey_turn h4 hr hi
  have hinj : ∀ u v : List Msg, u.map (turnM n to) = v.map (turnM n to) → u = v := fun u v e => by
    induction u generalizing v with
    | nil => cases v with
      | nil => rfl
      | cons y t => cases e
    | cons x r ih => cases v with
      | nil => cases e
      | cons y t =>
        rw [List.map_cons, List.map_cons, List.cons.injEq] at e
        rw [(turnM_inj h4 hr hi).1 e.1, ih _ e.2]
  constructor
  · intro h q
    by_cases hq : ∃ x, x ∈ a ++ b ∧ mkey mode x = q
    · obtain ⟨x, _, rfl⟩ := hq
      have := h (mkey mode (turnM n to x))
      rw [hf, hf] at this
      exact hinj _ _ this
    · have e : ∀ l : List Msg, (∀ x ∈ l, x ∈ a ++ b) → l.filter (fun m => decide (mkey mode m = q)) = [] := fun l hl => by
        rw [List.filter_eq_nil_iff]
        intro x hx he
        exact hq ⟨x, hl x hx, of_decide_eq_true he⟩
      rw [e a (fun x hx => List.mem_append.2 (.inl hx)), e b (fun x hx => List.mem_append.2 (.inr hx))]
  · intro h q
    by_cases hq : ∃ x, x ∈ a ++ b ∧ mkey mode (turnM n to x) = q
    · obtain ⟨x, _, rfl⟩ := hq
      rw [hf, hf, h]
    · have e : ∀ l : List Msg, (∀ x ∈ l, x ∈ a ++ b) → (l.map (turnM n to)).filter (fun m => decide (mkey mode m = q)) = [] := fun l hl => by
        rw [List.filter_eq_nil_iff]
        intro y hy he
        obtain ⟨x, hx, rfl⟩ := List.mem_map.1 hy
        exact hq ⟨x, hl x hx, of_decide_eq_true he⟩
      rw [e a (fun x hx => List.mem_append.2 (.inl hx)), e b (fun x hx => List.mem_append.2 (.inr hx))]
omit hi
theorem cache_turn {g : Geo} (hg : g.c = n) {k : UInt8} : isCache g (nodeU n to k) = isCache g k := by
  unfold isCache amongOf
  have h := nodeU_lt h4 hr (k := k)
  rw [decide_eq_decide.2 (show (0 : Int) ≤ ((nodeU n to k).toNat : Int) ↔ (0 : Int) ≤ (k.toNat : Int) by omega), decide_eq_decide.2 (show ((nodeU n to k).toNat : Int) < 0 + g.c ↔ (k.toNat : Int) < 0 + g.c by omega)]
include hi
theorem right_turn {g : Geo} (hg : g.c = n) (m : Msg) : rightL g (turnM n to m) = rightL g m := by
  cases hR : geoR g with
  | false => unfold rightL; rw [hR]; rfl
  | true =>
    by_cases hk : m.kind.toNat < 13
    · obtain ⟨gc, gh, _⟩ := geoR_spec hR
      have ek : (turnM n to m).kind = m.kind := by rw [turnM_eq]
      have el : (turnM n to m).line = m.line := by rw [turnM_eq]
      have ef : (turnM n to m).from_ = nodeU n to m.from_ := by rw [turnM_eq]
      have et : (turnM n to m).to = nodeU n to m.to := by rw [turnM_eq]
      have ec : (turnM n to m).acks = m.acks := by rw [turnM_eq]
      have en : (turnM n to m).alone = m.alone := by rw [turnM_eq]
      have ea : (turnM n to m).asker = if askK m.kind = true then nodeU n to m.asker else m.asker := by rw [turnM_eq]
      have eu : useOf (turnM n to m) = useOf m := by unfold useOf; rw [ek]
      have hb : hasB (useOf m) 1 = askK m.kind := ask_bit hk
      have hh : ¬ (homeOf g m.line).toNat < n := by
        unfold homeOf
        rw [if_pos hR, UInt8.toNat_ofNat']
        have := Nat.mod_lt m.line.toNat (show 0 < g.h.toNat by omega)
        omega
      have e1 : endsL (turnM n to m) g (useOf m) = endsL m g (useOf m) := by
        unfold endsL fromL toL
        rw [el, ef, et, cache_turn h4 hr hg, cache_turn h4 hr hg, decide_eq_decide.2 (nodeU_hi h4 hr hh), decide_eq_decide.2 (nodeU_hi h4 hr hh), decide_eq_decide.2 (nodeU_inj h4 hr hi)]
      have e2 : valuesL (turnM n to m) g (useOf m) = valuesL m g (useOf m) := by
        unfold valuesL badAsk
        rw [ec, en, ef, ea, et, hb, cache_turn h4 hr hg]
        cases hA : askK m.kind with
        | false => rfl
        | true => rw [if_pos rfl, cache_turn h4 hr hg, decide_eq_decide.2 (nodeU_inj h4 hr hi)]
      have e3 : plainL (turnM n to m) g (useOf m) = plainL m g (useOf m) := by
        unfold plainL
        rw [decide_eq_decide, turnM_eq]
        unfold pl4 pl3 pl2 pl1 pl0 dcut
        rw [hb]
        cases askK m.kind <;> cases hasB (useOf m) 2 <;> cases hasB (useOf m) 4 <;> cases hasB (useOf m) 8 <;> cases m <;> simp [zeroM]
      unfold rightL
      rw [eu, ek, el, e1, e2, e3]
    · have ek : (turnM n to m).kind = m.kind := by rw [turnM_eq]
      unfold rightL
      rw [ek, decide_eq_false hk]
      simp
end
/-- What holds of every permutation that suits. -/
theorem grp_inj {n : Nat} {m : Bool} {a : List Int} (h1 : 1 ≤ n) (h4 : n ≤ 4) (ha : a ∈ grpL n m) : (∀ k, k < n → 0 ≤ (toN a n).getD k 0 ∧ (toN a n).getD k 0 < n) ∧ ∀ j k, j < n → k < n → (toN a n).getD j 0 = (toN a n).getD k 0 → j = k := by
  obtain ⟨h, _⟩ := inv_of h1 h4 ha
  refine ⟨h.tr, fun j k hj hk e => ?_⟩
  have a1 := h.at_ j hj
  have a2 := h.at_ k hk
  rw [e] at a1
  omega
end Go.Proofs.YthgmcegmgjoafaaGreatDoor
namespace Go.Proofs.YthgmcegmgjoafaaGreatDoor
open Go.Vc Go.RowKit Go.Sei

theorem known_c (m : UInt8) (w : World) : Calls Tryz.prog 54 #[u8 m] w fun e w' => e = .returned (.bool (knownB m)) ∧ w = w' := by
  refine calls_of_E (S := sg 9) (sgOk _) (args := [u8 m]) Tryz.func54 rfl rfl (Nat.le_of_ble_eq_true rfl) rfl ?_
  refine And.intro (fun h => ?_) (fun h => ?_)
  · exact And.intro (rb (by unfold knownB; rw [h]; rfl)) rfl
  · exact And.intro (rb (by unfold knownB; rw [h]; rfl)) rfl

theorem Class_c (k : UInt8) (w : World) (hg : Glob w) : Calls Tryz.prog 11 #[u8 k] w fun e w' => e = .returned (u8 (classOf k)) ∧ w = w' := by
  refine calls_of_E (S := sg 9) (sgOk _) (args := [u8 k]) Tryz.func11 rfl rfl (Nat.le_of_ble_eq_true rfl) rfl ?_
  refine ⟨_, wrap_u8_i64 k, ?_⟩
  refine And.intro (fun h => ?_) (fun h => ?_)
  · have h := of_decide_eq_true h
    refine And.intro ?_ rfl
    have : classOf k = 0 := by
      unfold classOf
      rw [List.getD_eq_getElem?_getD, List.getElem?_eq_none (by simp only [classes, List.length_cons, List.length_nil]; omega)]; rfl
    rw [this]; rfl
  · have h := of_decide_eq_false h
    refine ⟨k.toNat, rfl, by omega, ?_⟩
    have hk : (classes.map u8)[k.toNat]? = some (u8 (classOf k)) := by
      have hl : k.toNat < classes.length := by simp only [classes, List.length_cons, List.length_nil]; omega
      rw [List.getElem?_map, List.getElem?_eq_getElem hl]
      simp only [classOf, List.getD_eq_getElem?_getD, List.getElem?_eq_getElem hl, Option.map_some, Option.getD_some]
    have := cells_at hg hk
    refine ⟨_, by rw [Nat.mul_one]; exact this, ?_⟩
    exact And.intro rfl rfl

theorem queue_c (m : Msg) (mode : UInt8) (w : World) (hg : Glob w) : Calls Tryz.prog 99 #[m.val, u8 mode] w fun e w' => e = .returned (.agg (qcells (queue m mode)).toArray) ∧ Below w.heap.size w w' := by
  refine calls_of_E (S := sg 20) (sgOk _) (args := [m.val, u8 mode]) Tryz.func99 rfl rfl (Nat.le_of_ble_eq_true rfl) rfl ?_
  have hb1 : Below w.heap.size w ((w.alloc (.cells m.val.cells 53)).alloc (.cells #[.int .u8 0, .int .u8 0, .int .u8 0] 194)) := ((Below.refl _ _).alloc (Nat.le_refl _) _).alloc (by simp) _
  have f1 := hold (.cells #[.int .u8 0, .int .u8 0, .int .u8 0] 194) (hnew w (.cells m.val.cells 53))
  have f2 := hnew (w.alloc (.cells m.val.cells 53)) (.cells #[.int .u8 0, .int .u8 0, .int .u8 0] 194)
  have c1 := cells_block f1
  refine And.intro (fun h => ?_) (fun h => ?_)
  · have h := of_decide_eq_true h
    have h3 : mode = 3 := u8_eq.1 h
    refine DrawE.ord [8] [0, 1, 2, 3, 4, 5, 6, 7, 8] (by kernel_rfl) ?_
    refine ⟨_, cells_at c1 (i := 1) rfl, ?_⟩
    refine ⟨_, cells_at c1 (i := 2) rfl, ?_⟩
    refine ⟨_, cells_at c1 (i := 0) rfl, ?_⟩
    refine Calls.mono (Class_c m.kind _ (hg.below hb1.drew)) ?_
    rintro e w' ⟨rfl, rfl⟩
    refine ⟨Below.refl _ _, ?_⟩
    refine ⟨[u8 m.from_, u8 m.to, u8 (classOf m.kind)], rfl, ?_⟩
    refine store_box (ttOk.get 194 _ rfl) (hdr f2) (by rfl) rfl (by rfl) ?_
    refine ⟨[u8 m.from_, u8 m.to, u8 (classOf m.kind)], rfl, cells_block (setRow_new (hdr f2)), And.intro ?_ (below_setRow hb1.drew (by simp) _)⟩
    simp only [queue, h3, if_true]
    rfl
  · have h := of_decide_eq_false h
    have h3 : ¬ mode = 3 := fun e => h (u8_eq.2 e)
    refine ⟨_, cells_at c1 (i := 1) rfl, ?_⟩
    refine ⟨_, cells_at c1 (i := 2) rfl, ?_⟩
    refine ⟨[u8 m.from_, u8 m.to, u8 0], rfl, ?_⟩
    refine store_box (ttOk.get 194 _ rfl) f2 (by rfl) rfl (by rfl) ?_
    refine ⟨[u8 m.from_, u8 m.to, u8 0], rfl, cells_block (setRow_new f2), And.intro ?_ (below_setRow hb1 (by simp) _)⟩
    simp only [queue, h3, if_false]
    rfl
end Go.Proofs.YthgmcegmgjoafaaGreatDoor
namespace Go.Proofs.YthgmcegmgjoafaaGreatDoor
open Go.Vc Go.RowKit Go.Sei
set_option linter.unusedVariables false

section
variable {B L bp : Nat} {p : Prg} {g : Geo} {md : UInt8} {vs : List Value} {q : Option Addr} {cap : Nat} {l : List Int} {w : World}
theorem apply_c {pm : Option Addr} {cm N : Nat} {ms : List Msg} (hB : B ≤ w.heap.size) (hc : w.heap[L]? = some (.cells vs.toArray 44 (0, 0))) (hp : w.heap[bp]? = some (.cells #[.slice q l.length cap] 46 (0, 0))) (hw : WldV B w vs p g md) (hT : GlobT w) (hU : GlobU w) (hG : Glob w)
    (h1 : vs.all Value.oneCell' = true) (hl : SlR Go.Sei.intE w q l) (hf : (turnsL p g && suitsL g md l) = true) (hgN : g.c = N) (hN : l.length = N) (hN1 : 1 ≤ N) (hN4 : N ≤ 4) (ha : l ∈ grpL N (decide (md = 3))) (hr : SlR Msg.E w pm ms) (hn : ms.length ≤ 30) :
    Calls Tryz.prog 8 #[.slice pm ms.length cm, .pointer (some ⟨L, 0, none⟩), .pointer (some ⟨bp, 0, none⟩)] w fun e w' => ∃ q' c', e = .returned (.tuple #[.slice q' (ms.map (turnM N (toN l N))).length c', .bool true]) ∧ SlR Msg.E w' q' (ms.map (turnM N (toN l N))) ∧ (q' = none → c' = 0) ∧ Below w.heap.size w w' := by
  refine calls_of_M (S := sg 52) (sgOk _) (args := [.slice pm ms.length cm, .pointer (some ⟨L, 0, none⟩), .pointer (some ⟨bp, 0, none⟩)]) (.s .p (.s .p (.s (.s .p (.b (.l (.s .p (.s .p (.s (.b (.s .p (.c .p (.c .p .p)))) .p)))))) .p))) Tryz.func8 rfl rfl (Nat.le_of_ble_eq_true rfl) rfl ?_
  obtain ⟨f, hfm⟩ : ∃ f, f = turnM N (toN l N) := ⟨_, rfl⟩
  rw [← hfm]
  obtain ⟨hrng, hinj⟩ := grp_inj hN1 hN4 ha
  refine ⟨Nat × Option Addr × Nat, fun s => ⟨[(1, .pointer (some ⟨L, 0, none⟩)), (2, .pointer (some ⟨bp, 0, none⟩)), (6, .slice s.2.1 ((ms.map f).take s.1).length s.2.2), (11, .slice pm ms.length cm), (12, .int .i64 ms.length), (13, .int .i64 (s.1 : Nat))], []⟩,
    fun s X => s.1 ≤ ms.length ∧ Below w.heap.size w X ∧ OwnS Msg.E 53 w.heap.size X s.2.1 s.2.2 ((ms.map f).take s.1), fun s => ms.length - s.1, (0, none, 0), ⟨.cons rfl (.cons rfl (.cons rfl (.cons rfl (.cons rfl (.cons rfl .nil))))), rfl⟩, ⟨Nat.zero_le _, Below.refl _ _, OwnS.nil⟩, ?_⟩
  rintro ⟨k, q', c'⟩ X ⟨hk, hb, ho⟩
  dsimp only at hk ho ⊢
  refine And.intro (fun h => ?_) (fun h => ?_)
  · have h : (k : Int) < ms.length := of_decide_eq_true h
    have hkl : k < ms.length := by omega
    obtain ⟨b, o, rfl, hbs, hat⟩ := (hr.below hb).at hkl
    refine ⟨k, rfl, hkl, ?_⟩
    refine ⟨ms[k].enc, rfl, hat k hkl, hbs, ?_⟩
    refine store_new (X := X) (v := ms[k].val) (ttOk.get 53 _ rfl) (by rfl) rfl (by rfl) fun Y hbY fY sY => ?_
    have hwY := hb.trans (hbY.mono hb.size)
    have oY := ho.below hbY
    -- turned
    refine ⟨Nat, fun u => ⟨[(1, .pointer (some ⟨L, 0, none⟩)), (2, .pointer (some ⟨bp, 0, none⟩)), (6, .slice q' ((ms.map f).take k).length c'), (8, .pointer (some ⟨X.heap.size, 0, none⟩)), (9, .pointer (some ⟨u, 0, none⟩)), (10, i64 0), (11, .slice (some ⟨b, o, none⟩) ms.length cm), (12, .int .i64 ms.length), (13, .int .i64 (k : Nat))], []⟩,
      fun u Z => Below Y.heap.size Y Z ∧ Z.heap[u]? = some (.cells (f ms[k]).val.cells 53 (0, 0)), ?_, ?_⟩
    · refine ⟨vs, hw.len, cells_block (block_below hwY hc), hlt (block_below hwY hc), ?_⟩
      refine ⟨ms[k].enc, rfl, cells_block fY, hlt fY, ?_⟩
      refine ⟨_, cells_at (cells_block (block_below hwY hp)) (i := 0) rfl, ?_⟩
      refine Calls.mono (Msg_c (Nat.le_trans hB hwY.size) (hw.below (hwY.mono hB)) (hT.below hwY) h1 (hl.below hwY) hf) ?_
      rintro e V ⟨rfl, hbV⟩
      rw [show turnM l.length (toN l l.length) ms[k] = f ms[k] by rw [hN, hfm]]
      refine store_new (X := V) (v := (f ms[k]).val) (ttOk.get 53 _ rfl) (by rfl) rfl (by rfl) fun Z hbZ fZ sZ => ?_
      exact ⟨V.heap.size, ⟨.cons rfl (.cons rfl (.cons rfl (.cons rfl (.cons rfl (.cons rfl (.cons rfl (.cons rfl (.cons rfl .nil)))))))), rfl⟩, hbV.trans (hbZ.mono hbV.size), fZ⟩
    rintro u Z ⟨hbZ, fu⟩
    have fm := block_below hbZ fY
    have hwZ := hwY.trans (hbZ.mono hwY.size)
    have oZ := oY.below hbZ
    clear oY ho hbZ
    -- right, class
    refine ⟨Unit, fun _ => ⟨[(1, .pointer (some ⟨L, 0, none⟩)), (2, .pointer (some ⟨bp, 0, none⟩)), (6, .slice q' ((ms.map f).take k).length c'), (9, .pointer (some ⟨u, 0, none⟩)), (11, .slice (some ⟨b, o, none⟩) ms.length cm), (12, .int .i64 ms.length), (13, .int .i64 (k : Nat))], []⟩,
      fun _ U => Below Z.heap.size Z U, ?_, ?_⟩
    · refine DrawE.ord [] [0, 1, 2, 3, 4, 5, 7, 8, 9, 6, 10, 11, 12, 13, 14, 15, 17, 18, 16, 19, 20, 21] (by kernel_rfl) ?_
      have hbd : Below Z.heap.size Z Z.drew := (Below.refl _ Z).drew
      have hwD := hwZ.trans (hbd.mono hwZ.size)
      have cD : WldC B Z.drew L p g md := ⟨Nat.le_trans hB hwD.size, ⟨vs, block_below hwD hc, hw.below (hwD.mono hB)⟩, hT.below hwD⟩
      obtain ⟨pc, rest, hpv, c1, c2, c3, hm, hlw⟩ := cD.cells
      refine brF ?_
      refine ⟨g.enc, rfl, c2, hlw, ?_⟩
      refine ⟨(f ms[k]).enc, rfl, cells_block (block_below hbd fu), hlt (block_below hbd fu), ?_⟩
      refine ⟨g.enc, rfl, c2, hlw, ?_⟩
      refine ⟨ms[k].enc, rfl, cells_block (block_below hbd fm), hlt (block_below hbd fm), ?_⟩
      refine Calls.mono (RightU_c g (f ms[k]) _ (hU.below hwD)) ?_
      rintro e V ⟨rfl, hbV⟩
      refine ⟨hbV, ?_⟩
      have hwV := hwD.trans (hbV.mono hwD.size)
      refine Calls.mono (RightU_c g ms[k] _ (hU.below hwV)) ?_
      rintro e U ⟨rfl, hbU⟩
      refine ⟨hbU, ?_⟩
      have hwU := hwV.trans (hbU.mono hwV.size)
      have hbDU := hbV.trans (hbU.mono hbV.size)
      refine ⟨_, fun w => neq_bool _ _ (rightL g (f ms[k])) (rightL g ms[k]) w, ?_⟩
      refine brN (by rw [hfm, right_turn hN4 hrng hinj hgN]; simp) ?_
      have fuU := block_below hbDU (block_below hbd fu)
      have fmU := block_below hbDU (block_below hbd fm)
      refine ⟨_, cells_at (cells_block fuU) (i := 0) rfl, ?_⟩
      refine ⟨_, cells_at (cells_block fmU) (i := 0) rfl, ?_⟩
      refine Calls.mono (Class_c (f ms[k]).kind _ (hG.below hwU)) ?_
      rintro e _ ⟨rfl, rfl⟩
      refine ⟨Below.refl _ _, ?_⟩
      refine Calls.mono (Class_c ms[k].kind _ (hG.below hwU)) ?_
      rintro e _ ⟨rfl, rfl⟩
      refine ⟨Below.refl _ _, ?_⟩
      refine brN (by rw [hfm, turnM_eq]; simp) ?_
      exact ⟨(), ⟨.cons rfl (.cons rfl (.cons rfl (.cons rfl (.cons rfl (.cons rfl (.cons rfl .nil)))))), rfl⟩, hbd.trans (hbDU.mono hbd.size)⟩
    rintro _ U hbU
    have fuU := block_below hbU fu
    have hwU := hwZ.trans (hbU.mono hwZ.size)
    have oU := oZ.below hbU
    refine ⟨(f ms[k]).enc, rfl, cells_block fuU, hlt fuU, ?_⟩
    refine ⟨⟨by decide, by decide, rfl⟩, (f ms[k]).enc, fill_one rfl rfl, ?_⟩
    have hsz : ((ms.map f).take k).length = k := by rw [List.length_take, List.length_map]; omega
    refine app_own (E := Msg.E) (news := [f ms[k]]) (m := 1) (B := w.heap.size) Tryz.underlying45 (ttOk.get 53 _ rfl) rfl rfl rfl (oU.alloc _) rfl (one_new Msg.E (f ms[k])) (by rw [World.size_alloc]; have := hwU.size; omega) (by rw [hsz]; omega) (by rw [hsz]; show (k + 1) * 11 ≤ _; omega) ?_
    intro p3 cap3 W4 ho4 hg4 hb4 hat4
    have e1 : (ms.map f).take (k + 1) = (ms.map f).take k ++ [f ms[k]] := by
      rw [List.take_succ_eq_append_getElem (by rw [List.length_map]; exact hkl), List.getElem_map]
    refine ⟨((k + 1 : Nat) : Int), (wrap_i64 (by omega)).trans (by omega), ?_⟩
    refine ⟨(k + 1, p3, cap3), ⟨.cons rfl (.cons rfl (.cons (by dsimp only; rw [e1]; rfl) (.cons rfl (.cons rfl (.cons rfl .nil))))), rfl⟩, ⟨hkl, (hwU.alloc hwU.size _).trans (hb4.mono (Nat.le_refl _)), by dsimp only; rw [e1]; exact ho4⟩, by dsimp only; omega⟩
  · have h : ¬ (k : Int) < ms.length := of_decide_eq_false h
    have hkl : k = ms.length := by omega
    have e1 : (ms.map f).take k = ms.map f := List.take_of_length_le (by rw [List.length_map]; omega)
    rw [e1] at ho ⊢
    have hq : q' = none → c' = 0 := fun h0 => by
      rcases ho.inv with ⟨_, h2, _⟩ | ⟨g, cur, h2, _⟩
      · exact h2
      · rw [h0] at h2; cases h2
    exact ⟨q', c', rfl, ho.row, hq, hb⟩
end
end Go.Proofs.YthgmcegmgjoafaaGreatDoor
namespace Go.Proofs.YthgmcegmgjoafaaGreatDoor
open Go.Vc Go.RowKit Go.Sei

def qv (q : UInt8 × UInt8 × UInt8) : Value := .agg (qcells q).toArray

theorem chk5 (e : Bool) (n : Nat) (x : UInt8) (w : World) : (Instr.checkKey e (n + 1) 5 (u8 x)).run Tryz.prog w = .ok () w := by
  simp only [Instr.checkKey, Sem.run_bind, run_underlying Tryz.underlying5, Result.andThen_ok, u8, Sem.run_pure]
theorem chkq (e : Bool) (n : Nat) (q : UInt8 × UInt8 × UInt8) (w : World) : (Instr.checkKey e (n + 2) 194 (qv q)).run Tryz.prog w = .ok () w := by
  obtain ⟨a, b, c⟩ := q
  have hp : ∀ (i : Nat) (v : UInt8) (w : World), (qcells (a, b, c))[i]? = some (u8 v) → (part 5 (qcells (a, b, c)).toArray i).run Tryz.prog w = .ok (u8 v) w := fun i v w h => by
    simp only [part, Sem.run_bind, Tryz.isAgg5, Result.andThen_ok, Bool.false_eq_true, if_false]
    have : (qcells (a, b, c)).toArray[i]? = some (u8 v) := by simpa using h
    rw [this]; rfl
  have h5 := fun x w => chk5 e n x w
  obtain ⟨m, hm⟩ : ∃ m, m = n + 1 := ⟨_, rfl⟩
  rw [← hm] at h5
  rw [show n + 2 = m + 1 by omega]
  clear hm
  simp only [Instr.checkKey, Sem.run_bind, run_underlying Tryz.underlying194, Result.andThen_ok, qv, Std.Legacy.Range.forIn_eq_forIn_range', Std.Legacy.Range.size, Nat.sub_zero, Nat.add_one_sub_one, Nat.div_one,
    List.range', List.forIn_cons, List.forIn_nil, Tryz.sizeOf5, hp 0 a _ rfl, hp 1 b _ rfl, hp 2 c _ rfl, h5, Sem.run_pure, Nat.zero_add, Nat.reduceAdd, Nat.mul_one]
theorem eqq (d : Nat) (q q' : UInt8 × UInt8 × UInt8) (w : World) : (Op.equalIn (d + 2) 194 (qv q) (qv q')).run Tryz.prog w = .ok (decide (q = q')) w := by
  obtain ⟨a, b, c⟩ := q
  obtain ⟨a', b', c'⟩ := q'
  have hp : ∀ (q : UInt8 × UInt8 × UInt8) (i : Nat) (v : UInt8) (w : World), (qcells q)[i]? = some (u8 v) → (part 5 (qcells q).toArray i).run Tryz.prog w = .ok (u8 v) w := fun q i v w h => by
    simp only [part, Sem.run_bind, Tryz.isAgg5, Result.andThen_ok, Bool.false_eq_true, if_false]
    have : (qcells q).toArray[i]? = some (u8 v) := by simpa using h
    rw [this]; rfl
  have he : ∀ (x y : UInt8) (w : World), (Op.equalIn (d + 1) 5 (u8 x) (u8 y)).run Tryz.prog w = .ok (decide (x = y)) w := fun x y w => by
    simp only [Op.equalIn, Sem.run_bind, run_underlying Tryz.underlying5, Result.andThen_ok, u8, if_true, Sem.run_pure]
    congr 1
    by_cases h : x = y
    · simp [h]
    · simp [h, u8_eq]
  have hc : Tryz.prog.cellsOf 5 = 1 := by kernel_rfl
  obtain ⟨⟨inf, hi⟩, _⟩ : Known Tryz.prog 5 := known_of (by kernel_rfl) (by kernel_rfl)
  rw [qv, qv, run_equalIn_array w (d + 1) _ _ Tryz.underlying194 hi, hc]
  simp only [List.range, List.range.loop, Op.eqItems, Sem.run_bind, Sem.run_ite, Nat.mul_one, hp (a, b, c) 0 a _ rfl, hp (a, b, c) 1 b _ rfl, hp (a, b, c) 2 c _ rfl, hp (a', b', c') 0 a' _ rfl, hp (a', b', c') 1 b' _ rfl, hp (a', b', c') 2 c' _ rfl, Result.andThen_ok, he]
  by_cases h1 : a = a' <;> by_cases h2 : b = b' <;> by_cases h3 : c = c' <;> simp [h1, h2, h3]

theorem qkey : MapK Tryz.prog 194 qv where
  check := fun q e w => chkq e 9998 q w
  eq := fun q q' w => eqq 9998 q q' w
  same := fun q => by
    obtain ⟨a, b, c⟩ := q
    simp [Instr.sameBits, qv, qcells, u8]
  desc := ⟨_, Tryz.underlying194, fun _ _ => .inl rfl⟩
end Go.Proofs.YthgmcegmgjoafaaGreatDoor
namespace Go.Proofs.YthgmcegmgjoafaaGreatDoor
open Go.Vc Go.RowKit Go.Sei

theorem cells_same {w w2 : World} {b o : Nat} {vs : List Value} (hb : w2.heap[b]? = w.heap[b]?) (h : Cells w ⟨b, o, none⟩ vs) : Cells w2 ⟨b, o, none⟩ vs :=
  cells_mk fun i v hv => by have := cells_at h hv; rw [← this]; exact World.cell?_of_block (a := ⟨b, o + i, none⟩) hb

/-- The blocks that the iterator reads. -/
def RdN (b1 b2 : Nat) (p : Option Addr) (l : List Msg) (k : Nat) : Prop := k = 1 ∨ k = b1 ∨ k = b2 ∨ (l ≠ [] ∧ ∃ a, p = some a ∧ k = a.block)

/-- What the iterator finds. -/
structure Found (X : World) (b1 b2 : Nat) (p : Option Addr) (cap : Nat) (l : List Msg) (mode : UInt8) : Prop where
  box1 : X.heap[b1]? = some (.cells #[.slice p l.length cap] 45 (0, 0))
  box2 : X.heap[b2]? = some (.cells #[u8 mode] 5 (0, 0))
  glob : Glob X
  row : SlR Msg.E X p l

theorem Found.same {X Y : World} {b1 b2 : Nat} {p : Option Addr} {cap : Nat} {l : List Msg} {mode : UInt8} (h : Found X b1 b2 p cap l mode) (hs : X.heap.size ≤ Y.heap.size) (hr : ∀ k, RdN b1 b2 p l k → Y.heap[k]? = X.heap[k]?) : Found Y b1 b2 p cap l mode := by
  refine ⟨(hr b1 (.inr (.inl rfl))).trans h.box1, (hr b2 (.inr (.inr (.inl rfl)))).trans h.box2, cells_same (hr 1 (.inl rfl)) h.glob, ?_⟩
  rcases h.row with h0 | ⟨b, o, rfl, hb, hc⟩
  · exact .inl h0
  · by_cases hl : l = []
    · exact .inl hl
    · exact .inr ⟨b, o, rfl, by omega, fun i hi => cells_same (hr b (.inr (.inr (.inr ⟨hl, _, rfl, rfl⟩)))) (hc i hi)⟩

theorem Found.below {X Y : World} {b1 b2 : Nat} {p : Option Addr} {cap : Nat} {l : List Msg} {mode : UInt8} (h : Found X b1 b2 p cap l mode) (hb : Below X.heap.size X Y) : Found Y b1 b2 p cap l mode :=
  ⟨block_below hb h.box1, block_below hb h.box2, h.glob.below hb, h.row.below hb⟩

theorem RdN.lt {X : World} {b1 b2 : Nat} {p : Option Addr} {cap : Nat} {l : List Msg} {mode : UInt8} (h : Found X b1 b2 p cap l mode) {k : Nat} (hk : RdN b1 b2 p l k) : k < X.heap.size := by
  rcases hk with rfl | rfl | rfl | ⟨hl, a, rfl, rfl⟩
  · exact World.block_lt_of_cell? X _ (cells_head h.glob)
  · exact hlt h.box1
  · exact hlt h.box2
  · rcases h.row with h0 | ⟨b, o, he, hb, _⟩
    · exact absurd h0 hl
    · cases he; exact hb

theorem zint (w : World) : (zeroValue 3).run Tryz.prog w = .ok (.int .i64 0) w := by
  have h : (Tryz.prog.info? 3).bind (·.zero) = some (.int .i64 0) := by kernel_rfl
  cases hi : Tryz.prog.info? 3 with
  | none => rw [hi] at h; cases h
  | some inf =>
    rw [hi] at h
    have h : inf.zero = some (.int .i64 0) := h
    simp [zeroValue, typeInfo, hi, h]

theorem look_c {w : World} {r : Nat} {f : UInt8 × UInt8 × UInt8 → Option Value} (h : MapF qv w r f) (q : UInt8 × UInt8 × UInt8) : (Instr.lookup 193 (.map (some r)) (.agg (qcells q).toArray) false).run Tryz.prog w = .ok ((f q).getD (.int .i64 0)) w :=
  lookup_run qkey Tryz.underlying193 zint h q false

theorem ready1_c (b1 b2 : Nat) (p : Option Addr) (cap : Nat) (l : List Msg) (mode : UInt8) (W0 : World) (hF : Found W0 b1 b2 p cap l mode) (hn : l.length ≤ 1000000000) :
    IterS Tryz.prog 98 [.pointer (some ⟨b1, 0, none⟩), .pointer (some ⟨b2, 0, none⟩)] (fun i : Nat => [.int .i64 i]) (upto l mode l.length) W0 (RdN b1 b2 p l) := by
  intro yl Fp J Jx W hsz hrd hrf hJ hJx hy h0
  have hFW : Found W b1 b2 p cap l mode := hF.same hsz hrd
  refine calls_of_E (S := sg 40) (sgOk _) (args := [.func (.yield yl) #[] #[], .pointer (some ⟨b1, 0, none⟩), .pointer (some ⟨b2, 0, none⟩)]) Tryz.func98 rfl rfl (Nat.le_of_ble_eq_true rfl) rfl ?_
  refine ⟨Value.map (some W.heap.size), W.alloc (Obj.map #[] 0), by rfl, ?_⟩
  have hb1 : Below W.heap.size W (W.alloc (.map #[] 0)) := (Below.refl _ W).alloc (Nat.le_refl _) _
  refine ⟨_, cells_head (cells_block (block_below hb1 hFW.box1)), ?_⟩
  obtain ⟨hJ1, hfp1⟩ := hJ.step _ _ _ h0 (.of_below hb1)
  refine ⟨Nat, fun k => ⟨[(0, .func (.yield yl) #[] #[]), (2, .pointer (some ⟨b2, 0, none⟩)), (4, .map (some W.heap.size)), (9, .slice p l.length cap), (10, .int .i64 l.length), (11, .int .i64 (k : Nat))], []⟩,
    fun k X => k ≤ l.length ∧ J (upto l mode k) X ∧ W.heap.size ≤ X.heap.size ∧ (∀ k, RdN b1 b2 p l k → X.heap[k]? = W.heap[k]? ∧ ¬ Fp X k) ∧ MapF qv X W.heap.size (cntF l mode k) ∧ ¬ Fp X W.heap.size,
    fun k => l.length - k, 0, ⟨.cons rfl (.cons rfl (.cons rfl (.cons rfl (.cons rfl (.cons rfl .nil))))), rfl⟩, ⟨Nat.zero_le _, hJ1, by simp, ?_, ?_, ?_⟩, ?_⟩
  · exact fun k hk => ⟨hb1.block k (RdN.lt hFW hk), fun h => hrf k hk (hfp1 k h)⟩
  · have : (cntF l mode 0) = fun _ => none := by funext q; simp [cntF, cnt]
    rw [this]; exact MapF.new
  · exact fun h => by have := hJ.lt _ _ _ h0 (hfp1 _ h); omega
  rintro k X ⟨hk, hj, hszX, hrdX, hm, hfr⟩
  have hFX : Found X b1 b2 p cap l mode := hFW.same hszX fun k hk => (hrdX k hk).1
  refine And.intro (fun h => ?_) (fun h => ?_)
  · have h := of_decide_eq_true h
    have hkl : k < l.length := by omega
    obtain ⟨b, o, rfl, hb, hc⟩ := hFX.row.at hkl
    refine ⟨k, rfl, hkl, ?_⟩
    refine ⟨(l[k]).enc, rfl, hc k hkl, hb, ?_⟩
    refine store_new (ttOk.get 53 _ rfl) (by rfl) rfl (by rfl) fun X1 hb2 f6 s1 => ?_
    refine ⟨_, rfl, cells_block f6, by show X.heap.size < X1.heap.size; omega, ?_⟩
    have hF1 : Found X1 b1 b2 (some ⟨b, o, none⟩) cap l mode := hFX.below hb2
    refine ⟨_, cells_head (cells_block hF1.box2), ?_⟩
    refine Calls.mono (queue_c l[k] mode X1 hF1.glob) ?_
    rintro e X2 ⟨rfl, hb3⟩
    refine store_new (ttOk.get 194 _ rfl) (by rfl) rfl (by rfl) fun X3 hb4 f7 s3 => ?_
    have hb5 : Below X.heap.size X X3 := (hb2.trans (hb3.mono hb2.size)).trans (hb4.mono (Nat.le_trans hb2.size hb3.size))
    refine DrawE.tree [4, 6] (.op 0 (.op 1 (.alt (.op 2 (.op 3 (.op 4 (.op 5 (.op 6 .nil))))) (.op 4 (.op 2 (.op 3 (.op 5 (.op 6 .nil)))))))) (by kernel_rfl) ?_
    refine ⟨_, rfl, cells_block (hdr f7), hlt (hdr f7), ?_⟩
    have hW : W.heap.size < X.heap.size := by obtain ⟨es, cl, h1, _⟩ := hm; exact hlt h1
    have hm5 : MapF qv X3.drew W.heap.size (cntF l mode k) := hm.below (hb5.drew)
    have hcn := cnt_le l mode k (queue l[k] mode)
    have hget := cntF_getD l mode k (queue l[k] mode)
    obtain ⟨born, o1, hme, hms⟩ := mapEntry_run qkey Tryz.underlying193 zint hm5 (queue l[k] mode)
    obtain ⟨o2, hes, hm7⟩ := entryStore_run (P := Tryz.prog) (T := 193) hms (.int .i64 (cnt l mode k (queue l[k] mode) + 1 : Int))
    rw [cntF_step l mode hkl] at hm7
    obtain ⟨hj5, hfp5⟩ := hJ.step _ _ _ hj (Step.of_below hb5.drew)
    have hfr5 : ¬ Fp X3.drew W.heap.size := fun h => hfr (hfp5 _ h)
    obtain ⟨hj6, hfp6⟩ := hJ.step _ _ _ hj5 (Step.put (Nat.le_refl _) hfr5 o1)
    have hfr6 : ¬ Fp (X3.drew.putObj W.heap.size o1) W.heap.size := fun h => hfr5 (hfp6 _ h)
    obtain ⟨hj7, hfp7⟩ := hJ.step _ _ _ hj6 (Step.put (Nat.le_refl _) hfr6 o2)
    have hfp : ∀ i, Fp ((X3.drew.putObj W.heap.size o1).putObj W.heap.size o2) i → Fp X i := fun i h => hfp5 i (hfp6 i (hfp7 i h))
    have hold7 : ∀ i, i ≠ W.heap.size → ((X3.drew.putObj W.heap.size o1).putObj W.heap.size o2).heap[i]? = X3.heap[i]? := fun i hi => (heap_put_old hi).trans (heap_put_old hi)
    have hsz7 : ((X3.drew.putObj W.heap.size o1).putObj W.heap.size o2).heap.size = X3.heap.size := by simp [World.putObj]
    have hb4s := hb4.size
    have hb5s := hb5.size
    have hb3s := hb3.size
    obtain ⟨Z, hZ⟩ : ∃ Z, Z = (X3.drew.putObj W.heap.size o1).putObj W.heap.size o2 := ⟨_, rfl⟩
    have f7Z : Z.heap[X2.heap.size]? = some (.cells (Value.agg (qcells (queue l[k] mode)).toArray).cells 194 (0, 0)) := by
      rw [hZ, hold7 _ (by omega)]; exact f7
    have hrdZ : ∀ i, RdN b1 b2 (some ⟨b, o, none⟩) l i → Z.heap[i]? = W.heap[i]? ∧ ¬ Fp Z i := fun i hi => by
      have h1 := RdN.lt hFW hi
      refine ⟨?_, fun h => (hrdX i hi).2 (hfp i (hZ ▸ h))⟩
      rw [hZ, hold7 i (by omega), hb5.block i (by omega)]
      exact (hrdX i hi).1
    have hFZ : Found Z b1 b2 (some ⟨b, o, none⟩) cap l mode := hFW.same (by rw [hZ, hsz7]; omega) fun i hi => (hrdZ i hi).1
    have hszZ : W.heap.size ≤ Z.heap.size := by rw [hZ, hsz7]; omega
    rw [← hZ] at hm7 hj7
    have hfrZ : ¬ Fp Z W.heap.size := fun h => hfr (hfp _ (hZ ▸ h))
    have hup := upto_succ l mode k
    have hpre : upto l mode (k + 1) <+: upto l mode l.length := upto_prefix l mode hkl
    have hdl := dlv_eq l mode hkl
    have hc1 : (cntF l mode (k + 1) (queue l[k] mode)).getD (.int .i64 0) = .int .i64 (cnt l mode k (queue l[k] mode) + 1 : Int) := by
      rw [cntF_getD, cnt_succ l mode hkl, if_pos rfl]; rfl
    have hZM : W.heap.size < Z.heap.size := by obtain ⟨es, cl, h1, _⟩ := hm7; exact hlt h1
    have hinv : ∀ V, J (upto l mode (k + 1)) V → Keeps Fp Z V → k + 1 ≤ l.length ∧ J (upto l mode (k + 1)) V ∧ W.heap.size ≤ V.heap.size ∧ (∀ i, RdN b1 b2 (some ⟨b, o, none⟩) l i → V.heap[i]? = W.heap[i]? ∧ ¬ Fp V i) ∧
        MapF qv V W.heap.size (cntF l mode (k + 1)) ∧ ¬ Fp V W.heap.size := fun V hJV hKV => by
      have hKs := hKV.size
      refine ⟨hkl, hJV, by omega, fun i hi => ?_, hm7.same (hKV.same _ hZM hfrZ), fun h => ?_⟩
      · have h1 := RdN.lt hFW hi
        obtain ⟨h2, h3⟩ := hrdZ i hi
        refine ⟨(hKV.same i (by omega) h3).trans h2, fun h => ?_⟩
        rcases hKV.fp i h with h4 | h4
        · exact h3 h4
        · omega
      · rcases hKV.fp _ h with h4 | h4
        · exact hfrZ h4
        · omega
    refine And.intro ?_ ?_
    refine ⟨.int .i64 (cnt l mode k (queue l[k] mode)), fun w2 hb => ?_, ?_⟩
    · rw [← hget]; exact look_c (hm5.below hb) _
    refine ⟨_, wrap_i64 (by omega), ?_⟩
    refine ⟨_, _, hme, ?_⟩
    refine ⟨_, _, hes, ?_⟩
    rw [← hZ]
    rotate_left
    refine ⟨_, _, hme, ?_⟩
    refine ⟨.int .i64 (cnt l mode k (queue l[k] mode)), fun w2 hb => ?_, ?_⟩
    · have := look_c (hms.map.below hb) (queue l[k] mode)
      rw [if_pos rfl, Option.getD_some, hget] at this
      exact this
    refine ⟨_, wrap_i64 (by omega), ?_⟩
    refine ⟨_, _, hes, ?_⟩
    rw [← hZ]
    rotate_left
    all_goals
      refine ⟨_, cells_head (cells_block hFZ.box2), ?_⟩
      refine And.intro (fun hm1 => ?_) (fun hm1 => ?_)
      · have hm1 := (u8_eq (y := 1)).1 (of_decide_eq_true hm1)
        have hd : dlv l mode k = true := by rw [hdl, hm1]; rfl
        rw [hd, if_pos rfl] at hup
        refine And.intro (fun _ => ?_) (fun h => by cases h)
        refine YieldR.mono (hy (upto l mode k) k Z hj7 (hup ▸ hpre)) ?_
        rintro v V (⟨rfl, hJV, hKV⟩ | ⟨rfl, hJV⟩)
        · refine And.intro (fun h => by cases h) (fun _ => ?_)
          refine ⟨_, wrap_i64 (by omega), ?_⟩
          exact ⟨k + 1, ⟨.cons rfl (.cons rfl (.cons rfl (.cons rfl (.cons rfl (.cons rfl .nil))))), rfl⟩, hinv V (hup ▸ hJV) hKV, by dsimp only; omega⟩
        · refine And.intro (fun _ => ?_) (fun h => by cases h)
          exact And.intro ⟨_, rfl⟩ (.inr ⟨_, hup ▸ hpre, hJV⟩)
      · have hm1 := of_decide_eq_false hm1
        refine ⟨_, rfl, cells_block f7Z, hlt f7Z, ?_⟩
        refine ⟨.int .i64 (cnt l mode k (queue l[k] mode) + 1 : Int), fun w2 hb => ?_, ?_⟩
        · rw [← hc1]; exact look_c (hm7.below hb) _
        refine And.intro (fun hq => ?_) (fun hq => ?_)
        · have hq := of_decide_eq_true hq
          have hd : dlv l mode k = true := by rw [hdl, decide_eq_true (show cnt l mode k (queue l[k] mode) = 0 by omega), Bool.or_true]
          rw [hd, if_pos rfl] at hup
          refine YieldR.mono (hy (upto l mode k) k Z hj7 (hup ▸ hpre)) ?_
          rintro v V (⟨rfl, hJV, hKV⟩ | ⟨rfl, hJV⟩)
          · refine And.intro (fun h => by cases h) (fun _ => ?_)
            refine ⟨_, wrap_i64 (by omega), ?_⟩
            exact ⟨k + 1, ⟨.cons rfl (.cons rfl (.cons rfl (.cons rfl (.cons rfl (.cons rfl .nil))))), rfl⟩, hinv V (hup ▸ hJV) hKV, by dsimp only; omega⟩
          · refine And.intro (fun _ => ?_) (fun h => by cases h)
            exact And.intro ⟨_, rfl⟩ (.inr ⟨_, hup ▸ hpre, hJV⟩)
        · have hq := of_decide_eq_false hq
          have hd : dlv l mode k = false := by
            rw [hdl, decide_eq_false (show ¬ cnt l mode k (queue l[k] mode) = 0 by omega), decide_eq_false (fun e => hm1 (by rw [e]; rfl))]; rfl
          rw [hd] at hup
          simp only [Bool.false_eq_true, if_false, List.append_nil] at hup
          refine And.intro (fun h => by cases h) (fun _ => ?_)
          refine ⟨_, wrap_i64 (by omega), ?_⟩
          exact ⟨k + 1, ⟨.cons rfl (.cons rfl (.cons rfl (.cons rfl (.cons rfl (.cons rfl .nil))))), rfl⟩, hinv Z (hup ▸ hj7) (Keeps.refl _ _), by dsimp only; omega⟩
  · refine And.intro ⟨_, rfl⟩ (.inl ?_)
    have h := of_decide_eq_false h
    have : k = l.length := by omega
    subst this
    exact hj
end Go.Proofs.YthgmcegmgjoafaaGreatDoor
namespace Go.Proofs.YthgmcegmgjoafaaGreatDoor
open Go.Vc Go.RowKit Go.Sei

theorem neq_t {a b : Int} (h : (!decide (a = b)) = true) : ¬ a = b := by simpa using h
theorem neq_f {a b : Int} (h : (!decide (a = b)) = false) : a = b := by simpa using h

theorem int_at {w : World} {p : Option Addr} {l : List Int} (h : SlR intE w p l) {k : Nat} (hk : k < l.length) : ∃ b o, p = some ⟨b, o, none⟩ ∧ b < w.heap.size ∧ w.cell? ⟨b, o + k * 1, none⟩ = some (.int .i64 l[k]) := by
  obtain ⟨b, o, rfl, hb, hc⟩ := h.at hk
  exact ⟨b, o, rfl, hb, cells_head (hc k hk)⟩

theorem ready_c (p : Option Addr) (cap : Nat) (l : List Msg) (mode : UInt8) (w : World) (hl : SlR Msg.E w p l) (hg : Glob w) :
    Calls Tryz.prog 55 #[.slice p l.length cap, u8 mode] w fun e w' => e = .returned (.func (.func 98) #[] #[.pointer (some ⟨w.heap.size, 0, none⟩), .pointer (some ⟨w.heap.size + 1, 0, none⟩)]) ∧
      Below w.heap.size w w' ∧ Found w' w.heap.size (w.heap.size + 1) p cap l mode := by
  refine calls_of_E (S := sg 6) (sgOk _) (args := [.slice p l.length cap, u8 mode]) Tryz.func55 rfl rfl (Nat.le_of_ble_eq_true rfl) rfl ?_
  have hb : Below w.heap.size w ((w.alloc (.cells #[.slice p l.length cap] 45)).alloc (.cells #[u8 mode] 5)) := ((Below.refl _ _).alloc (Nat.le_refl _) _).alloc (by simp) _
  refine And.intro (by rw [World.size_alloc]; rfl) (And.intro hb ?_)
  refine ⟨hold _ (hnew w _), ?_, hg.below hb, hl.below hb⟩
  have := hnew (w.alloc (.cells #[.slice p l.length cap] 45)) (.cells #[u8 mode] 5)
  rwa [World.size_alloc] at this
end Go.Proofs.YthgmcegmgjoafaaGreatDoor
namespace Go.Proofs.YthgmcegmgjoafaaGreatDoor
open Go.Vc Go.RowKit Go.Sei



/-- The box of what is gathered, and its row. -/
def FpN (g : Nat) (X : World) (k : Nat) : Prop := k = g ∨ ∃ a n cap, X.heap[g]? = some (.cells #[.slice (some a) n cap] 46 (0, 0)) ∧ k = a.block
def JN (w0 : World) (g : Nat) (xs : List Nat) (X : World) : Prop :=
  Below w0.heap.size w0 X ∧ ∃ p cap, X.heap[g]? = some (.cells #[.slice p (nats xs).length cap] 46 (0, 0)) ∧ OwnS intE 3 (g + 1) X p cap (nats xs)

theorem FpN.row {X : World} {g : Nat} {p : Option Addr} {n cap : Nat} (hg : X.heap[g]? = some (.cells #[.slice p n cap] 46 (0, 0))) {k : Nat} (h : FpN g X k) : k = g ∨ ∃ a, p = some a ∧ k = a.block := by
  rcases h with h | ⟨a, n', cap', h1, h2⟩
  · exact .inl h
  · rw [hg] at h1
    simp at h1
    exact .inr ⟨a, h1.1, h2⟩

theorem JN.iter {w0 : World} {g n0 : Nat} (h0 : w0.heap.size ≤ n0) : IterJ n0 (FpN g) (JN w0 g) := by
  refine ⟨fun xs A B ⟨hb, p, cap, hg, ho⟩ hs => ?_, fun xs A k ⟨hb, p, cap, hg, ho⟩ hf => ?_⟩
  · have hgB : B.heap[g]? = some (.cells #[.slice p (nats xs).length cap] 46 (0, 0)) := (hs.same g (hlt hg) (.inr (.inl rfl))).trans hg
    have hrow : ∀ a, p = some a → B.heap[a.block]? = A.heap[a.block]? := fun a ha => by
      rcases ho.inv with ⟨rfl, _⟩ | ⟨g', cur, rfl, _, hg', _⟩
      · cases ha
      · cases ha
        exact hs.same _ (hlt hg') (.inr (.inr ⟨_, _, _, hg, rfl⟩))
    refine ⟨⟨⟨hs.os.trans hb.os, hs.tape.trans hb.tape, hs.output.trans hb.output, Nat.le_trans hb.size hs.size, fun k hk => ?_⟩, p, cap, hgB, ho.same hrow⟩, fun k hk => ?_⟩
    · exact (hs.same k (Nat.lt_of_lt_of_le hk hb.size) (.inl (by omega))).trans (hb.block k hk)
    · rcases FpN.row hgB hk with rfl | ⟨a, rfl, rfl⟩
      · exact .inl rfl
      · exact .inr ⟨_, _, _, hg, rfl⟩
  · rcases FpN.row hg hf with rfl | ⟨a, rfl, rfl⟩
    · exact hlt hg
    · rcases ho.inv with ⟨h, _⟩ | ⟨g', cur, h, _, hg', _⟩
      · cases h
      · cases h; exact hlt hg'

theorem Next_c (p : Option Addr) (cap : Nat) (l : List Msg) (mode : UInt8) (w : World) (hl : SlR Msg.E w p l) (hg : Glob w) (hn : l.length ≤ 1000000000) :
    Calls Tryz.prog 13 #[.slice p l.length cap, u8 mode] w fun e w' => ∃ p' cap', e = .returned (.slice p' (nats (nextL l mode)).length cap') ∧ SlR intE w' p' (nats (nextL l mode)) ∧ Below w.heap.size w w' := by
  refine calls_of_E (S := sg 19) (sgOk _) (args := [.slice p l.length cap, u8 mode]) Tryz.func13 rfl rfl (Nat.le_of_ble_eq_true rfl) rfl ?_
  refine Calls.mono (known_c mode w) ?_
  rintro e w' ⟨rfl, rfl⟩
  refine And.intro (fun h => ?_) (fun h => ?_)
  · have h : knownB mode = false := by simpa using h
    have : nextL l mode = [] := by simp [nextL, h]
    rw [this]
    exact ⟨none, 0, rfl, .nil, Below.refl _ _⟩
  have h : knownB mode = true := by simpa using h
  have hb1 : Below w.heap.size w (w.alloc (.cells #[.slice none 0 0] 46)) := (Below.refl _ _).alloc (Nat.le_refl _) _
  refine Calls.mono (ready_c p cap l mode _ (hl.below hb1) (hg.below hb1)) ?_
  rintro e W0 ⟨rfl, hb2, hF⟩
  have hsz1 : (w.alloc (.cells #[.slice none 0 0] 46)).heap.size = w.heap.size + 1 := World.size_alloc _ _
  rw [hsz1] at hF hb2
  have hbw : Below w.heap.size w W0 := hb1.trans (hb2.mono (by omega))
  have hbox : W0.heap[w.heap.size]? = some (.cells #[.slice none 0 0] 46 (0, 0)) := by
    rw [hb2.block _ (by omega)]; exact hnew w _
  have hs0 := hb2.size
  rw [hsz1] at hs0
  refine rangeE (sgOk _) rfl (lb := #[.pointer (some ⟨(w.alloc (.cells #[.slice none 0 0] 46)).heap.size, 0, none⟩), .pointer (some ⟨(w.alloc (.cells #[.slice none 0 0] 46)).heap.size + 1, 0, none⟩)]) rfl rfl
    (by rw [hsz1]; exact ready1_c _ _ p cap l mode W0 hF hn) (Nat.le_refl _) (fun k hk => ⟨RdN.lt hF hk, rfl⟩) (fun _ => rfl) (by decide) (FpN w.heap.size) (JN w w.heap.size) (fun _ _ _ => False) ?_ (JN.iter (by omega)) (fun _ => ⟨fun _ _ _ h _ => h.elim, fun _ _ _ h _ => h.elim⟩) ?_ ?_ ?_ ?_
  · intro k hk hf
    rcases FpN.row hbox hf with rfl | ⟨a, ha, _⟩
    · rcases hk with h1 | h1 | h1 | ⟨h1, a, rfl, h2⟩
      · have : 1 < w.heap.size := World.block_lt_of_cell? w _ (cells_head hg)
        omega
      · omega
      · omega
      · rcases hl with h3 | ⟨b, o, h4, h5, _⟩
        · exact h1 h3
        · cases h4; dsimp only at h2; omega
    · cases ha
  · exact ⟨hbw, none, 0, hbox, .nil⟩
  · intro yl pre x W hyl hpre hJ hfy hly
    refine ⟨rfl, Keeps.refl _ _, hJ, ?_⟩
    rintro o W2 - ⟨hbW, p2, cap2, hgW, ho⟩ hF2
    refine ⟨_, cells_head (cells_block hgW), ?_⟩
    have hlen : (nats pre).length + 1 ≤ 1000000000 := by
      have h1 := hpre.length_le
      have h2 : (upto l mode l.length).length ≤ l.length := by unfold upto; refine Nat.le_trans (List.length_filter_le _ _) ?_; simp
      simp [nats] at h1 ⊢
      omega
    refine ⟨⟨by decide, by decide, rfl⟩, [.int .i64 x], rfl, ?_⟩
    have hw2 := hlt hgW
    refine app_own (E := intE) (news := [(x : Int)]) (B := w.heap.size + 1) Tryz.underlying46 (ttOk.get 3 _ rfl) rfl rfl rfl (ho.alloc _) rfl cells_new (by simp; omega) (by show (nats pre).length + 1 ≤ _; omega) (by show ((nats pre).length + 1) * 8 ≤ _; omega) ?_
    intro p3 cap3 W4 ho4 hg4 hb4 hat
    have hbox3 : (W2.alloc (.cells #[.int .i64 x] 3)).heap[w.heap.size]? = some (.cells #[.slice p2 (nats pre).length cap2] 46 (0, 0)) := hold _ hgW
    have hbox4 : W4.heap[w.heap.size]? = some (.cells #[.slice p2 (nats pre).length cap2] 46 (0, 0)) := (hb4.block _ (by omega)).trans hbox3
    refine store_box (ttOk.get 46 _ rfl) hbox4 (by rfl) rfl (by rfl) ?_
    have hnat : nats pre ++ [(x : Int)] = nats (pre ++ [x]) := by simp [nats]
    rw [hnat] at ho4 ⊢
    have hbox5 := setRow_new (cs' := (Value.slice p3 (nats (pre ++ [x])).length cap3).cells) hbox4
    have hbB : Below w.heap.size W2 (W4.setRow w.heap.size (Value.slice p3 (nats (pre ++ [x])).length cap3).cells) :=
      below_setRow (((Below.refl _ W2).alloc (by omega) _).trans (hb4.mono (by omega))) (Nat.le_refl _) _
    refine And.intro ⟨hbW.trans hbB, p3, cap3, hbox5, ho4.same fun a ha => ?_⟩ ⟨hbB.os, hbB.tape, hbB.output, hbB.size, fun k hk hf => ?_, fun k hk => ?_⟩
    · refine setRow_old ?_
      rcases ho4.inv with ⟨h1, _⟩ | ⟨g', _, h1, h2, _⟩
      · rw [h1] at ha; cases ha
      · rw [h1] at ha; cases ha; dsimp only; omega
    · have h1 : k ≠ w.heap.size := fun e => hf (.inl e)
      rw [setRow_old h1]
      refine (hg4.block k (by simp; omega) ?_).trans ?_
      · intro e
        cases p2 with
        | none => simp [Value.ownBlock] at e
        | some a =>
          simp only [Value.ownBlock, Option.some.injEq] at e
          exact hf (.inr ⟨a, _, _, hgW, e⟩)
      · show (W2.heap.push _)[k]? = _
        rw [Array.getElem?_push, if_neg (Nat.ne_of_lt hk)]
    · rcases FpN.row hbox5 hk with rfl | ⟨a, ha, rfl⟩
      · exact .inl (.inl rfl)
      · rcases hat a ha with h1 | h1
        · exact .inl (.inr ⟨a, _, _, h1 ▸ hgW, rfl⟩)
        · refine .inr ?_
          rw [h1]; simp
  · intro D W hD hfD hJ hdef
    obtain ⟨hbW, p2, cap2, hgW, ho⟩ := hJ
    refine ⟨_, cells_head (cells_block hgW), ?_⟩
    have hnx : nextL l mode = upto l mode l.length := by simp [nextL, h]
    rw [hnx]
    refine ⟨_, rfl, hdef, ?_⟩
    refine ⟨p2, cap2, rfl, (ho.same fun a ha => heap_put_old fun e => ?_).row, below_put hbW (by omega) _⟩
    subst ha
    exact hfD (.inr ⟨a, _, _, hgW, e.symm⟩)
  · exact fun _ _ _ _ _ _ _ h => h.elim
end Go.Proofs.YthgmcegmgjoafaaGreatDoor
namespace Go.Proofs.YthgmcegmgjoafaaGreatDoor
open Go.Vc Go.RowKit Go.Sei

theorem Grow_c (n : Nat) (hn : n ≤ 1000000000) (w : World) (B : Nat) (hB : B ≤ w.heap.size) :
    Calls Tryz.prog 163 #[.slice none 0 0, .int .i64 n] w fun e w' => ∃ p cap, e = .returned (.slice p 0 cap) ∧ OwnS Msg.E 53 B w' p cap [] ∧ Below w.heap.size w w' := by
  refine calls_of_E (S := sg 27) (sgOk _) (args := [.slice none 0 0, .int .i64 n]) Tryz.func163 rfl rfl (Nat.le_of_ble_eq_true rfl) rfl ?_
  refine And.intro (fun h => ?_) (fun _ => ?_)
  · have := of_decide_eq_true h
    omega
  have hcap : ∀ w, (Builtin.cap_ #[45] 3 #[.slice none 0 0]).run Tryz.prog w = .ok (.int .i64 0) w := fun w => by simp [Builtin.cap_, run_underlying Tryz.underlying45, goInt]
  refine SatR.mk (hcap _) ?_
  refine ⟨0, by rfl, ?_⟩
  refine ⟨n, (wrap_i64 (by omega)).trans (by omega), ?_⟩
  refine And.intro (fun h => ?_) (fun _ => ?_)
  · have h := of_decide_eq_true h
    refine SatR.mk (hcap _) ?_
    refine ⟨0, rfl, by omega, ?_⟩
    refine app_zeros (α := Msg) (E := Msg.E) Tryz.underlying45 Tryz.underlying3 (ttOk.get 53 _ rfl) rfl rfl rfl hB (by omega) (by omega) (by dsimp only; omega) ?_
    intro cap' w' ho hb hc
    refine ⟨0, rfl, by omega, ?_⟩
    exact ⟨some ⟨w.heap.size, 0, none⟩, cap', by rw [cutBase_zero]; rfl, ho, hb⟩
  · exact ⟨none, 0, rfl, .nil, Below.refl _ _⟩

/-- A part: where it lies, how much room, what it holds. -/
structure Part where
  p : Option Addr
  cap : Nat
  l : List Msg
def Part.val (q : Part) : Value := .slice q.p q.l.length q.cap
def partE : Enc Part := ⟨fun q => [q.val], 1, fun _ => rfl, by decide, fun a u hu => by
  simp only [List.mem_cons, List.not_mem_nil, or_false] at hu; subst hu; rfl⟩
def Part.ok (w : World) (q : Part) : Prop := SlR Msg.E w q.p q.l ∧ (q.p = none → q.cap = 0)
theorem Part.ok.below {w w2 : World} {q : Part} (h : q.ok w) (hb : Below w.heap.size w w2) : q.ok w2 := ⟨h.1.below hb, h.2⟩
def total (qs : List Part) : List Msg := qs.flatMap (·.l)
theorem total_take {qs : List Part} {k : Nat} (hk : k < qs.length) : total (qs.take (k + 1)) = total (qs.take k) ++ qs[k].l := by
  unfold total; rw [List.take_succ_eq_append_getElem hk, List.flatMap_append]; simp
theorem total_len {qs : List Part} (k : Nat) : (total (qs.take k)).length ≤ (total qs).length := by
  have : total qs = total (qs.take k) ++ total (qs.drop k) := by unfold total; rw [← List.flatMap_append, List.take_append_drop]
  rw [this]; simp

theorem Concat_c (p : Option Addr) (cap : Nat) (qs : List Part) (w : World) (hp : SlR partE w p qs) (hq : ∀ q ∈ qs, q.ok w) (hn : (total qs).length ≤ 1000000000) (hqn : qs.length ≤ 1000000000) :
    Calls Tryz.prog 100 #[.slice p qs.length cap] w fun e w' => ∃ p' cap', e = .returned (.slice p' (total qs).length cap') ∧ OwnS Msg.E 53 w.heap.size w' p' cap' (total qs) ∧ Below w.heap.size w w' := by
  refine calls_of_E (S := sg 36) (sgOk _) (args := [.slice p qs.length cap]) Tryz.func100 rfl rfl (Nat.le_of_ble_eq_true rfl) rfl ?_
  refine ⟨Nat, fun k => ⟨[(0, .slice p qs.length cap), (2, .slice none 0 0), (3, .int .i64 (total (qs.take k)).length), (9, .slice p qs.length cap), (10, .int .i64 qs.length), (11, .int .i64 (k : Nat))], []⟩,
    fun k X => k ≤ qs.length ∧ X = w, fun k => qs.length - k, 0, ⟨.cons rfl (.cons rfl (.cons rfl (.cons rfl (.cons rfl (.cons rfl .nil))))), rfl⟩, ⟨Nat.zero_le _, rfl⟩, ?_⟩
  rintro k X ⟨hk, rfl⟩
  refine And.intro (fun h => ?_) (fun h => ?_)
  · have h := of_decide_eq_true h
    have hkl : k < qs.length := by omega
    obtain ⟨b, o, rfl, hb, hc⟩ := hp.at hkl
    have ht := total_take hkl
    have ht1 := total_len (qs := qs) (k + 1)
    rw [ht, List.length_append] at ht1
    refine ⟨k, rfl, hkl, ?_⟩
    refine ⟨_, cells_head (hc k hkl), ?_⟩
    refine ⟨_, wrap_i64 (by omega), ?_⟩
    refine And.intro (fun h => ?_) (fun h => ?_)
    · have := of_decide_eq_true h
      omega
    · refine ⟨_, wrap_i64 (by omega), ?_⟩
      exact ⟨k + 1, ⟨.cons rfl (.cons rfl (.cons (by rw [ht, List.length_append]; rfl) (.cons rfl (.cons rfl (.cons rfl .nil))))), rfl⟩, ⟨hkl, rfl⟩, by dsimp only; omega⟩
  · have h := of_decide_eq_false h
    have hke : k = qs.length := by omega
    subst hke
    have hT : total (qs.take qs.length) = total qs := by rw [List.take_length]
    refine Calls.mono (Grow_c (total (qs.take qs.length)).length (by rw [hT]; exact hn) X X.heap.size (Nat.le_refl _)) ?_
    rintro e Y ⟨pg, cg, rfl, hog, hbY⟩
    refine ⟨Nat × Option Addr × Nat, fun s => ⟨[(0, .slice p qs.length cap), (2, .slice none 0 0), (6, .slice s.2.1 (total (qs.take s.1)).length s.2.2), (25, .slice p qs.length cap), (26, .int .i64 qs.length), (27, .int .i64 (s.1 : Nat))], []⟩,
      fun s Z => s.1 ≤ qs.length ∧ Below X.heap.size X Z ∧ OwnS Msg.E 53 X.heap.size Z s.2.1 s.2.2 (total (qs.take s.1)), fun s => qs.length - s.1, (0, pg, cg), ⟨.cons rfl (.cons rfl (.cons rfl (.cons rfl (.cons rfl (.cons rfl .nil))))), rfl⟩, ⟨Nat.zero_le _, hbY, hog⟩, ?_⟩
    rintro ⟨k, pn, cn⟩ Z ⟨hk, hbZ, hoZ⟩
    dsimp only at hk hoZ
    refine And.intro (fun h => ?_) (fun h => ?_)
    · have h := of_decide_eq_true h
      have hkl : k < qs.length := by omega
      obtain ⟨b, o, rfl, hb, hc⟩ := (hp.below hbZ).at hkl
      have ht := total_take hkl
      have ht1 := total_len (qs := qs) (k + 1)
      rw [ht, List.length_append] at ht1
      have hqk := (hq qs[k] (List.getElem_mem _)).below hbZ
      refine ⟨k, rfl, hkl, ?_⟩
      refine ⟨_, cells_head (hc k hkl), ?_⟩
      refine app_any (α := Msg) (E := Msg.E) (news := qs[k].l) Tryz.underlying45 (ttOk.get 53 _ rfl) rfl rfl rfl hoZ rfl hqk.1 hqk.2 hbZ.size (by omega) (by dsimp only; omega) ?_
      intro p' cap' w' ho' hg' hb'
      refine ⟨_, wrap_i64 (by omega), ?_⟩
      rw [← ht] at ho'
      exact ⟨(k + 1, p', cap'), ⟨.cons rfl (.cons rfl (.cons (by rw [ht]; rfl) (.cons rfl (.cons rfl (.cons rfl .nil))))), rfl⟩, ⟨hkl, hbZ.trans hb', ho'⟩, by dsimp only; omega⟩
    · have h := of_decide_eq_false h
      have hke : k = qs.length := by omega
      subst hke
      rw [hT] at hoZ
      exact ⟨pn, cn, by rw [← hT]; rfl, hoZ, hbZ⟩
end Go.Proofs.YthgmcegmgjoafaaGreatDoor
namespace Go.Proofs.YthgmcegmgjoafaaGreatDoor
open Go.Vc Go.RowKit Go.Sei

abbrev RowM (w : World) (g : Nat) (sp : List Value) (l : List Msg) : Prop := RowS Msg.E 53 w g sp l

theorem swap_c (g cap a b n L : Nat) (sp : List Value) (P X M Y Q : List Msg) (cmp : Value) (w : World) (hr : RowM w g sp (P ++ X ++ M ++ Y ++ Q)) (hX : X.length = n) (hY : Y.length = n)
    (ha : P.length = a) (hb : b = P.length + X.length + M.length) (hL : L = (P ++ X ++ M ++ Y ++ Q).length) (hl : L ≤ 1000000000) :
    Calls Tryz.prog 241 #[.slice (some ⟨g, 0, none⟩) L cap, .int .i64 a, .int .i64 b, .int .i64 n, cmp] w
      fun e w' => (∃ v, e = .returned v) ∧ RowM w' g sp (P ++ Y ++ M ++ X ++ Q) ∧ w.grownBy w' (some g) := by
  subst ha
  have hL2 : L = b + n + Q.length := by rw [hL, hb]; simp; omega
  refine calls_of_E (S := sg 38) (sgOk _) (args := [.slice (some ⟨g, 0, none⟩) L cap, .int .i64 P.length, .int .i64 b, .int .i64 n, cmp]) Tryz.func241 rfl rfl (Nat.le_of_ble_eq_true rfl) rfl ?_
  refine ⟨Nat, fun k => ⟨[(0, .slice (some ⟨g, 0, none⟩) L cap), (1, .int .i64 P.length), (2, .int .i64 b), (3, .int .i64 n), (10, .int .i64 (k : Nat))], []⟩,
    fun k W => k ≤ n ∧ RowM W g sp (P ++ Y.take k ++ X.drop k ++ M ++ X.take k ++ Y.drop k ++ Q) ∧ w.grownBy W (some g), fun k => n - k, 0,
    ⟨.cons rfl (.cons rfl (.cons rfl (.cons rfl (.cons rfl .nil)))), rfl⟩, ⟨Nat.zero_le _, by simpa using hr, grown_refl _ _⟩, ?_⟩
  rintro k W ⟨hk, hrW, hgW⟩
  refine And.intro (fun h => ?_) (fun h => ?_)
  · have h := of_decide_eq_true h
    have hkn : k < n := by omega
    have hx : X.drop k = X[k] :: X.drop (k + 1) := List.drop_eq_getElem_cons (by omega)
    have hy : Y.drop k = Y[k] :: Y.drop (k + 1) := List.drop_eq_getElem_cons (by omega)
    have e0 : P ++ Y.take k ++ X.drop k ++ M ++ X.take k ++ Y.drop k ++ Q = (P ++ Y.take k) ++ X[k] :: (X.drop (k + 1) ++ M ++ X.take k ++ Y[k] :: (Y.drop (k + 1) ++ Q)) := by rw [hx, hy]; simp only [List.append_assoc, List.cons_append]
    have hA : (P ++ Y.take k).length = P.length + k := by simp; omega
    have hB : ∀ z : Msg, ((P ++ Y.take k) ++ z :: (X.drop (k + 1) ++ M ++ X.take k)).length = b + k := fun z => by simp [hb]; omega
    have r0 : RowM W.drew g sp ((P ++ Y.take k) ++ X[k] :: (X.drop (k + 1) ++ M ++ X.take k ++ Y[k] :: (Y.drop (k + 1) ++ Q))) := e0 ▸ hrW
    have r1 : RowM W.drew g sp (((P ++ Y.take k) ++ X[k] :: (X.drop (k + 1) ++ M ++ X.take k)) ++ Y[k] :: (Y.drop (k + 1) ++ Q)) := by
      have : ((P ++ Y.take k) ++ X[k] :: (X.drop (k + 1) ++ M ++ X.take k)) ++ Y[k] :: (Y.drop (k + 1) ++ Q) = (P ++ Y.take k) ++ X[k] :: (X.drop (k + 1) ++ M ++ X.take k ++ Y[k] :: (Y.drop (k + 1) ++ Q)) := by simp
      rw [this]; exact r0
    have hgl := r0.lt
    refine DrawE.ord [21, 23] [0, 1, 2, 3, 4, 5, 6, 7, 8, 9, 10, 11, 12, 13, 14, 15, 16, 17, 18, 19, 20, 21, 22, 23] (by kernel_rfl) ?_
    refine ⟨(P.length + k : Nat), (wrap_i64 (by omega)).trans (by omega), ?_⟩
    refine ⟨(b + k : Nat), (wrap_i64 (by omega)).trans (by omega), ?_⟩
    refine ⟨(b + k : Nat), (wrap_i64 (by omega)).trans (by omega), ?_⟩
    refine ⟨b + k, rfl, by omega, ?_⟩
    refine ⟨Y[k].enc, rfl, r1.mid (hB _), hgl, ?_⟩
    refine ⟨(P.length + k : Nat), (wrap_i64 (by omega)).trans (by omega), ?_⟩
    refine ⟨P.length + k, rfl, by omega, ?_⟩
    refine ⟨X[k].enc, rfl, r0.mid hA, hgl, ?_⟩
    refine ⟨P.length + k, rfl, by omega, ?_⟩
    refine store_mid (ttOk.get 53 _ rfl) rfl r0 hA Y[k] fun V1 s1 g1 z1 => ?_
    refine ⟨b + k, rfl, by omega, ?_⟩
    have s2 : RowM V1 g sp (((P ++ Y.take k) ++ Y[k] :: (X.drop (k + 1) ++ M ++ X.take k)) ++ Y[k] :: (Y.drop (k + 1) ++ Q)) := by
      have : ((P ++ Y.take k) ++ Y[k] :: (X.drop (k + 1) ++ M ++ X.take k)) ++ Y[k] :: (Y.drop (k + 1) ++ Q) = (P ++ Y.take k) ++ Y[k] :: (X.drop (k + 1) ++ M ++ X.take k ++ Y[k] :: (Y.drop (k + 1) ++ Q)) := by simp
      rw [this]; exact s1
    refine store_mid (ttOk.get 53 _ rfl) rfl s2 (hB _) X[k] fun V2 s3 g2 z2 => ?_
    refine ⟨(k + 1 : Nat), (wrap_i64 (by omega)).trans (by omega), ?_⟩
    refine ⟨k + 1, ⟨.cons rfl (.cons rfl (.cons rfl (.cons rfl (.cons rfl .nil)))), rfl⟩, ⟨hkn, ?_, grown_trans hgW (grown_trans (grown_of_below (Below.refl _ W).drew) (grown_trans g1 g2))⟩, by dsimp only; omega⟩
    have : P ++ Y.take (k + 1) ++ X.drop (k + 1) ++ M ++ X.take (k + 1) ++ Y.drop (k + 1) ++ Q = ((P ++ Y.take k) ++ Y[k] :: (X.drop (k + 1) ++ M ++ X.take k)) ++ X[k] :: (Y.drop (k + 1) ++ Q) := by
      rw [List.take_succ_eq_append_getElem (by omega), List.take_succ_eq_append_getElem (by omega)]; simp only [List.append_assoc, List.cons_append, List.nil_append]
    rw [this]; exact s3
  · have h := of_decide_eq_false h
    have hkn : k = n := by omega
    subst hkn
    refine And.intro ⟨_, rfl⟩ (And.intro ?_ hgW)
    rw [List.take_of_length_le (by omega), List.take_of_length_le (by omega), List.drop_of_length_le (by omega), List.drop_of_length_le (by omega)] at hrW
    simpa using hrW

theorem rotate_c (g cap a m b L : Nat) (sp : List Value) (A X Y B : List Msg) (cmp : Value) (w : World) (hr : RowM w g sp (A ++ X ++ Y ++ B)) (hX : X ≠ []) (hY : Y ≠ [])
    (ha : A.length = a) (hm : A.length + X.length = m) (hb : A.length + X.length + Y.length = b) (hL : L = (A ++ X ++ Y ++ B).length) (hl : L ≤ 1000000000) :
    Calls Tryz.prog 232 #[.slice (some ⟨g, 0, none⟩) L cap, .int .i64 a, .int .i64 m, .int .i64 b, cmp] w
      fun e w' => (∃ v, e = .returned v) ∧ RowM w' g sp (A ++ Y ++ X ++ B) ∧ w.grownBy w' (some g) := by
  have hX0 : 0 < X.length := List.length_pos_iff.2 hX
  have hY0 : 0 < Y.length := List.length_pos_iff.2 hY
  have hL2 : L = A.length + X.length + Y.length + B.length := by rw [hL]; simp; omega
  refine calls_of_E (S := sg 58) (sgOk _) (args := [.slice (some ⟨g, 0, none⟩) L cap, .int .i64 a, .int .i64 m, .int .i64 b, cmp]) Tryz.func232 rfl rfl (Nat.le_of_ble_eq_true rfl) rfl ?_
  refine ⟨(X.length : Nat), (wrap_i64 (by first | omega | (dsimp only; omega))).trans (by first | omega | (dsimp only; omega)), ?_⟩
  refine ⟨(Y.length : Nat), (wrap_i64 (by first | omega | (dsimp only; omega))).trans (by first | omega | (dsimp only; omega)), ?_⟩
  refine ⟨List Msg × List Msg × List Msg × List Msg, fun s => ⟨[(0, .slice (some ⟨g, 0, none⟩) L cap), (1, .int .i64 a), (2, .int .i64 m), (3, .int .i64 b), (4, cmp), (10, .int .i64 s.2.1.length), (11, .int .i64 s.2.2.1.length)], []⟩,
    fun s W => RowM W g sp (s.1 ++ s.2.1 ++ s.2.2.1 ++ s.2.2.2) ∧ s.1.length + s.2.1.length = m ∧ s.2.1 ≠ [] ∧ s.2.2.1 ≠ [] ∧ s.1 ++ s.2.2.1 ++ s.2.1 ++ s.2.2.2 = A ++ Y ++ X ++ B ∧ w.grownBy W (some g),
    fun s => s.2.1.length + s.2.2.1.length, (A, X, Y, B), ⟨.cons rfl (.cons rfl (.cons rfl (.cons rfl (.cons rfl (.cons rfl (.cons rfl .nil)))))), rfl⟩, ⟨hr, hm, hX, hY, rfl, grown_refl _ _⟩, ?_⟩
  rintro ⟨P, X', Y', Q⟩ W ⟨hrW, hmW, hX', hY', ht, hgW⟩
  dsimp only at hrW hmW hX' hY' ht
  have hX1 : 0 < X'.length := List.length_pos_iff.2 hX'
  have hY1 : 0 < Y'.length := List.length_pos_iff.2 hY'
  have htl : P.length + Y'.length + X'.length + Q.length = L := by
    have := congrArg List.length ht
    simp at this; omega
  refine And.intro (fun h => ?_) (fun h => ?_)
  · have h : ¬ (X'.length : Int) = Y'.length := by simpa using h
    refine And.intro (fun h2 => ?_) (fun h2 => ?_)
    · have h2 : (Y'.length : Int) < X'.length := of_decide_eq_true h2
      have e : X' = X'.take Y'.length ++ X'.drop Y'.length := (List.take_append_drop _ _).symm
      have hl1 : (X'.take Y'.length).length = Y'.length := by rw [List.length_take]; omega
      have hl2 : (X'.drop Y'.length).length = X'.length - Y'.length := by simp
      obtain ⟨X1, hX1e⟩ : ∃ X1, X1 = X'.take Y'.length := ⟨_, rfl⟩
      obtain ⟨X2, hX2e⟩ : ∃ X2, X2 = X'.drop Y'.length := ⟨_, rfl⟩
      rw [← hX1e, ← hX2e] at e
      rw [← hX1e] at hl1
      rw [← hX2e] at hl2
      refine ⟨(P.length : Nat), (wrap_i64 (by first | omega | (dsimp only; omega))).trans (by first | omega | (dsimp only; omega)), ?_⟩
      refine Calls.mono (swap_c g cap P.length m Y'.length L sp P X1 X2 Y' Q cmp W (by rw [e] at hrW; simpa using hrW) hl1 rfl rfl (by omega) (by simp; omega) hl) ?_
      rintro e2 V ⟨⟨v, rfl⟩, hrV, hgV⟩
      refine ⟨(X2.length : Nat), (wrap_i64 (by first | omega | (dsimp only; omega))).trans (by first | omega | (dsimp only; omega)), ?_⟩
      refine ⟨(P ++ Y', X2, X1, Q), ⟨.cons rfl (.cons rfl (.cons rfl (.cons rfl (.cons rfl (.cons rfl (.cons (by rw [hl1]; rfl) .nil)))))), rfl⟩, ⟨by simpa using hrV, by simp; omega, ?_, ?_, ?_, grown_trans hgW hgV⟩, by dsimp only; omega⟩
      · exact List.ne_nil_of_length_pos (by dsimp only; omega)
      · exact List.ne_nil_of_length_pos (by dsimp only; omega)
      · rw [← ht, e]; simp
    · have h2 : ¬ (Y'.length : Int) < X'.length := of_decide_eq_false h2
      have e : Y' = Y'.take (Y'.length - X'.length) ++ Y'.drop (Y'.length - X'.length) := (List.take_append_drop _ _).symm
      have hl1 : (Y'.take (Y'.length - X'.length)).length = Y'.length - X'.length := by rw [List.length_take]; omega
      have hl2 : (Y'.drop (Y'.length - X'.length)).length = X'.length := by simp; omega
      obtain ⟨Y1, hY1e⟩ : ∃ Y1, Y1 = Y'.take (Y'.length - X'.length) := ⟨_, rfl⟩
      obtain ⟨Y2, hY2e⟩ : ∃ Y2, Y2 = Y'.drop (Y'.length - X'.length) := ⟨_, rfl⟩
      rw [← hY1e, ← hY2e] at e
      rw [← hY1e] at hl1
      rw [← hY2e] at hl2
      refine ⟨(P.length : Nat), (wrap_i64 (by first | omega | (dsimp only; omega))).trans (by first | omega | (dsimp only; omega)), ?_⟩
      refine ⟨(m + Y'.length : Nat), (wrap_i64 (by first | omega | (dsimp only; omega))).trans (by first | omega | (dsimp only; omega)), ?_⟩
      refine ⟨(m + Y'.length - X'.length : Nat), (wrap_i64 (by first | omega | (dsimp only; omega))).trans (by first | omega | (dsimp only; omega)), ?_⟩
      refine Calls.mono (swap_c g cap P.length (m + Y'.length - X'.length) X'.length L sp P X' Y1 Y2 Q cmp W (by rw [e] at hrW; simpa using hrW) rfl hl2 rfl (by omega) (by simp; omega) hl) ?_
      rintro e2 V ⟨⟨v, rfl⟩, hrV, hgV⟩
      refine ⟨(Y1.length : Nat), (wrap_i64 (by first | omega | (dsimp only; omega))).trans (by first | omega | (dsimp only; omega)), ?_⟩
      refine ⟨(P, Y2, Y1, X' ++ Q), ⟨.cons rfl (.cons rfl (.cons rfl (.cons rfl (.cons rfl (.cons (by rw [hl2]; rfl) (.cons rfl .nil)))))), rfl⟩, ⟨by simpa using hrV, by dsimp only; omega, ?_, ?_, ?_, grown_trans hgW hgV⟩, by dsimp only; omega⟩
      · exact List.ne_nil_of_length_pos (by dsimp only; omega)
      · exact List.ne_nil_of_length_pos (by dsimp only; omega)
      · rw [← ht, e]; simp
  · have h : (X'.length : Int) = Y'.length := by simpa using h
    refine ⟨(P.length : Nat), (wrap_i64 (by first | omega | (dsimp only; omega))).trans (by first | omega | (dsimp only; omega)), ?_⟩
    refine Calls.mono (swap_c g cap P.length m X'.length L sp P X' [] Y' Q cmp W (by simpa using hrW) rfl (by omega) rfl (by simp; omega) (by simp; omega) hl) ?_
    rintro e2 V ⟨⟨v, rfl⟩, hrV, hgV⟩
    refine And.intro ⟨_, rfl⟩ (And.intro ?_ (grown_trans hgW hgV))
    rw [← ht]; simpa using hrV
end Go.Proofs.YthgmcegmgjoafaaGreatDoor
namespace Go.Proofs.YthgmcegmgjoafaaGreatDoor
open Go.Vc Go.RowKit Go.Sei

abbrev fsts (l : List (Tg Msg)) : List Msg := l.map Prod.fst

/-- What a sort asks of its comparison. -/
structure CmpOk (cap : Array Value) (O : MOrd Msg) (g : Nat) (Good : World → Prop) : Prop where
  run : ∀ X, Good X → ∀ m n : Msg, Calls Tryz.prog 102 ([m.val, n.val] ++ cap.toList).toArray X fun e w' => ∃ v : Int, e = .returned (.int .i64 v) ∧ decide (v < 0) = O.lt m n ∧ Below X.heap.size X w'
  keep : ∀ A B, Good A → A.grownBy B (some g) → Good B

theorem insertion_c (cp : Array Value) (O : MOrd Msg) (Good : World → Prop) (g cap a b L : Nat) (sp : List Value) (A B : List Msg) (xs : List (Tg Msg)) (w : World) (hG : Good w) (hC : CmpOk cp O g Good)
    (hr : RowM w g sp (A ++ fsts xs ++ B)) (ht : xs.Pairwise (fun x y => x.2 < y.2)) (ha : A.length = a) (hb : A.length + xs.length = b) (hL : L = (A ++ fsts xs ++ B).length) (hl : L ≤ 1000000000) :
    Calls Tryz.prog 200 #[.slice (some ⟨g, 0, none⟩) L cap, .int .i64 a, .int .i64 b, .func (.func 102) #[] cp] w
      fun e w' => (∃ v, e = .returned v) ∧ (∃ ys, Srt O ys ∧ ys.Perm xs ∧ RowM w' g sp (A ++ fsts ys ++ B)) ∧ w.grownBy w' (some g) := by
  have hL2 : L = A.length + xs.length + B.length := by rw [hL]; simp; omega
  refine calls_of_E (S := sg 53) (sgOk _) (args := [.slice (some ⟨g, 0, none⟩) L cap, .int .i64 a, .int .i64 b, .func (.func 102) #[] cp]) Tryz.func200 rfl rfl (Nat.le_of_ble_eq_true rfl) rfl ?_
  refine ⟨(a + 1 : Nat), (wrap_i64 (by omega)).trans (by omega), ?_⟩
  refine ⟨Nat × List (Tg Msg), fun s => ⟨[(0, .slice (some ⟨g, 0, none⟩) L cap), (1, .int .i64 a), (2, .int .i64 b), (3, .func (.func 102) #[] cp), (8, .int .i64 (a + s.1 : Nat))], []⟩,
    fun s W => 1 ≤ s.1 ∧ Srt O s.2 ∧ s.2.Perm (xs.take s.1) ∧ RowM W g sp (A ++ fsts s.2 ++ fsts (xs.drop s.1) ++ B) ∧ w.grownBy W (some g), fun s => xs.length - s.1, (1, xs.take 1),
    ⟨.cons rfl (.cons rfl (.cons rfl (.cons rfl (.cons rfl .nil)))), rfl⟩, ⟨Nat.le_refl _, ?_, .refl _, ?_, grown_refl _ _⟩, ?_⟩
  · cases xs with
    | nil => simp [Srt]
    | cons x r => simp [Srt]
  · have : A ++ fsts (xs.take 1) ++ fsts (xs.drop 1) ++ B = A ++ fsts xs ++ B := by
      rw [List.append_assoc A, ← List.map_append, List.take_append_drop]
    dsimp only
    rw [this]; exact hr
  rintro ⟨k, S⟩ W ⟨hk1, hS, hP, hrW, hgW⟩
  dsimp only at hk1 hS hP hrW
  refine And.intro (fun h => ?_) (fun h => ?_)
  · have h : ((a + k : Nat) : Int) < b := of_decide_eq_true h
    have hkl : k < xs.length := by omega
    have hSl : S.length = k := by rw [hP.length_eq, List.length_take]; omega
    obtain ⟨x, hx⟩ : ∃ x, x = xs[k] := ⟨_, rfl⟩
    have hxd : xs.drop k = x :: xs.drop (k + 1) := by rw [hx]; exact List.drop_eq_getElem_cons hkl
    have hlow : ∀ z ∈ S, z.2 < x.2 := fun z hz => by
      have hz : z ∈ xs.take k := hP.mem_iff.1 hz
      obtain ⟨i, hi, e⟩ := List.getElem_of_mem hz
      rw [List.length_take] at hi
      rw [List.getElem_take] at e
      rw [hx, ← e]
      exact List.pairwise_iff_getElem.1 ht i k (by omega) hkl (by omega)
    refine ⟨List (Tg Msg) × List (Tg Msg), fun s => ⟨[(0, .slice (some ⟨g, 0, none⟩) L cap), (1, .int .i64 a), (2, .int .i64 b), (3, .func (.func 102) #[] cp), (8, .int .i64 (a + k : Nat)), (9, .int .i64 (a + s.1.length : Nat))], []⟩,
      fun s V => s.1 ++ s.2 = S ∧ (∀ y ∈ s.2, lt2 O x y) ∧ RowM V g sp (A ++ fsts s.1 ++ x.1 :: (fsts s.2 ++ fsts (xs.drop (k + 1)) ++ B)) ∧ w.grownBy V (some g), fun s => s.1.length, (S, []),
      ⟨.cons rfl (.cons rfl (.cons rfl (.cons rfl (.cons rfl (.cons (by dsimp only; rw [hSl]; rfl) .nil))))), rfl⟩, ⟨by simp, by simp, ?_, hgW⟩, ?_⟩
    · rw [hxd] at hrW
      simpa using hrW
    rintro ⟨S1, S2⟩ V ⟨hSS, hlt, hrV, hgV⟩
    dsimp only at hSS hlt hrV
    have hS1l : S1.length + S2.length = k := by rw [← hSl, ← hSS]; simp
    refine DrawE.ord [] [0, 1, 2, 3, 4, 5, 6, 7, 8, 9, 10, 11, 12, 13, 14, 15, 16] (by kernel_rfl) ?_
    have fin : ∀ Z, RowM Z g sp (A ++ fsts S1 ++ x.1 :: (fsts S2 ++ fsts (xs.drop (k + 1)) ++ B)) → w.grownBy Z (some g) → (∀ z ∈ S1, lt2 O z x) →
        1 ≤ k + 1 ∧ Srt O (S1 ++ x :: S2) ∧ (S1 ++ x :: S2).Perm (xs.take (k + 1)) ∧ RowM Z g sp (A ++ fsts (S1 ++ x :: S2) ++ fsts (xs.drop (k + 1)) ++ B) ∧ w.grownBy Z (some g) := fun Z hrZ hgZ hle => by
      refine ⟨by omega, ?_, ?_, ?_, hgZ⟩
      · rw [← hSS] at hS
        obtain ⟨p1, p2, p3⟩ := List.pairwise_append.1 hS
        refine List.pairwise_append.2 ⟨p1, List.pairwise_cons.2 ⟨hlt, p2⟩, fun u hu v hv => ?_⟩
        rcases List.mem_cons.1 hv with rfl | hv
        · exact hle u hu
        · exact p3 u hu v hv
      · rw [List.take_succ_eq_append_getElem hkl, ← hx]
        refine List.perm_middle.trans ?_
        rw [hSS]
        exact (List.Perm.cons x hP).trans (List.perm_append_singleton x _).symm
      · have : A ++ fsts (S1 ++ x :: S2) ++ fsts (xs.drop (k + 1)) ++ B = A ++ fsts S1 ++ x.1 :: (fsts S2 ++ fsts (xs.drop (k + 1)) ++ B) := by
          simp only [fsts, List.map_append, List.map_cons, List.append_assoc, List.cons_append]
        rw [this]; exact hrZ
    refine And.intro (fun h2 => ?_) (fun h2 => ?_)
    · have h2 : (a : Int) < (a + S1.length : Nat) := of_decide_eq_true h2
      obtain ⟨S1', z, rfl⟩ : ∃ S1' z, S1 = S1' ++ [z] := by
        rcases List.eq_nil_or_concat S1 with e | ⟨q, r, e⟩
        · subst e; simp at h2
        · exact ⟨q, r, by rw [e, List.concat_eq_append]⟩
      have hzl : z.2 < x.2 := hlow z (by rw [← hSS]; simp)
      have r0 : RowM V.drew g sp ((A ++ fsts (S1' ++ [z])) ++ x.1 :: (fsts S2 ++ fsts (xs.drop (k + 1)) ++ B)) := hrV
      have r1 : RowM V.drew g sp ((A ++ fsts S1') ++ z.1 :: (x.1 :: (fsts S2 ++ fsts (xs.drop (k + 1)) ++ B))) := by
        have : (A ++ fsts S1') ++ z.1 :: (x.1 :: (fsts S2 ++ fsts (xs.drop (k + 1)) ++ B)) = A ++ fsts (S1' ++ [z]) ++ x.1 :: (fsts S2 ++ fsts (xs.drop (k + 1)) ++ B) := by
          simp only [fsts, List.map_append, List.map_cons, List.map_nil, List.append_assoc, List.cons_append, List.nil_append]
        rw [this]; exact hrV
      have hA0 : (A ++ fsts (S1' ++ [z])).length = a + (S1' ++ [z]).length := by simp; omega
      have hA1 : (A ++ fsts S1').length = a + S1'.length := by simp; omega
      have hlz : (S1' ++ [z]).length = S1'.length + 1 := by simp
      have hgl := r0.lt
      refine ⟨a + (S1' ++ [z]).length, rfl, by omega, ?_⟩
      refine ⟨x.1.enc, rfl, r0.mid hA0, hgl, ?_⟩
      refine ⟨(a + S1'.length : Nat), (wrap_i64 (by first | omega | (dsimp only; omega))).trans (by first | omega | (dsimp only; omega)), ?_⟩
      refine ⟨a + S1'.length, rfl, by omega, ?_⟩
      refine ⟨z.1.enc, rfl, r1.mid hA1, hgl, ?_⟩
      refine Calls.mono (hC.run V.drew (hC.keep _ _ (hC.keep _ _ hG hgV) (grown_of_below (Below.refl _ V).drew)) x.1 z.1) ?_
      rintro e V2 ⟨v, rfl, hv, hbV⟩
      refine ⟨hbV, ?_⟩
      have hgV2 : w.grownBy V2 (some g) := grown_trans hgV (grown_trans (grown_of_below (Below.refl _ V).drew) (grown_of_below hbV))
      refine And.intro (fun h3 => ?_) (fun h3 => ?_)
      · have h3 : O.lt x.1 z.1 = true := by rw [← hv]; exact h3
        have q0 : RowM V2.drew g sp ((A ++ fsts S1') ++ z.1 :: (x.1 :: (fsts S2 ++ fsts (xs.drop (k + 1)) ++ B))) := r1.below hbV.drew
        have q1 : RowM V2.drew g sp ((A ++ fsts (S1' ++ [z])) ++ x.1 :: (fsts S2 ++ fsts (xs.drop (k + 1)) ++ B)) := r0.below hbV.drew
        have hgl2 := q0.lt
        refine DrawE.ord [15, 17] [0, 1, 2, 3, 4, 5, 6, 7, 8, 9, 10, 11, 12, 13, 14, 15, 16, 17] (by kernel_rfl) ?_
        refine ⟨(a + S1'.length : Nat), (wrap_i64 (by first | omega | (dsimp only; omega))).trans (by first | omega | (dsimp only; omega)), ?_⟩
        refine ⟨(a + S1'.length : Nat), (wrap_i64 (by first | omega | (dsimp only; omega))).trans (by first | omega | (dsimp only; omega)), ?_⟩
        refine ⟨a + S1'.length, rfl, by omega, ?_⟩
        refine ⟨z.1.enc, rfl, q0.mid hA1, hgl2, ?_⟩
        refine ⟨a + (S1' ++ [z]).length, rfl, by omega, ?_⟩
        refine ⟨x.1.enc, rfl, q1.mid hA0, hgl2, ?_⟩
        refine ⟨a + (S1' ++ [z]).length, rfl, by omega, ?_⟩
        refine store_mid (ttOk.get 53 _ rfl) rfl q1 hA0 z.1 fun V3 s1 g1 z1 => ?_
        refine ⟨a + S1'.length, rfl, by omega, ?_⟩
        have s2 : RowM V3 g sp ((A ++ fsts S1') ++ z.1 :: (z.1 :: (fsts S2 ++ fsts (xs.drop (k + 1)) ++ B))) := by
          have : (A ++ fsts S1') ++ z.1 :: (z.1 :: (fsts S2 ++ fsts (xs.drop (k + 1)) ++ B)) = A ++ fsts (S1' ++ [z]) ++ z.1 :: (fsts S2 ++ fsts (xs.drop (k + 1)) ++ B) := by
            simp only [fsts, List.map_append, List.map_cons, List.map_nil, List.append_assoc, List.cons_append, List.nil_append]
          rw [this]; exact s1
        refine store_mid (ttOk.get 53 _ rfl) rfl s2 hA1 x.1 fun V4 s3 g2 z2 => ?_
        refine ⟨(a + S1'.length : Nat), (wrap_i64 (by first | omega | (dsimp only; omega))).trans (by first | omega | (dsimp only; omega)), ?_⟩
        refine ⟨(S1', z :: S2), ⟨.cons rfl (.cons rfl (.cons rfl (.cons rfl (.cons rfl (.cons rfl .nil))))), rfl⟩, ⟨by rw [← hSS]; simp, ?_, s3, grown_trans hgV2 (grown_trans (grown_of_below (Below.refl _ V2).drew) (grown_trans g1 g2))⟩, by dsimp only; omega⟩
        intro y hy
        rcases List.mem_cons.1 hy with rfl | hy
        · exact .inl h3
        · exact hlt y hy
      · have h3 : O.lt x.1 z.1 = false := by rw [← hv]; exact h3
        refine ⟨(a + (k + 1) : Nat), (wrap_i64 (by first | omega | (dsimp only; omega))).trans (by first | omega | (dsimp only; omega)), ?_⟩
        refine ⟨(k + 1, (S1' ++ [z]) ++ x :: S2), ⟨.cons rfl (.cons rfl (.cons rfl (.cons rfl (.cons rfl .nil)))), rfl⟩, fin V2 (r0.below hbV) hgV2 ?_, by dsimp only; omega⟩
        intro u hu
        have hzx : lt2 O z x := .inr ⟨h3, hzl⟩
        rcases List.mem_append.1 hu with hu | hu
        · refine lt2_trans ?_ hzx
          rw [← hSS] at hS
          exact (List.pairwise_append.1 (List.pairwise_append.1 hS).1).2.2 u hu z (by simp)
        · simp at hu; rw [hu]; exact hzx
    · have h2 : ¬ (a : Int) < (a + S1.length : Nat) := of_decide_eq_false h2
      have : S1 = [] := List.eq_nil_of_length_eq_zero (by omega)
      subst this
      refine And.intro (fun h => by cases h) (fun _ => ?_)
      refine ⟨(a + (k + 1) : Nat), (wrap_i64 (by first | omega | (dsimp only; omega))).trans (by first | omega | (dsimp only; omega)), ?_⟩
      exact ⟨(k + 1, [] ++ x :: S2), ⟨.cons rfl (.cons rfl (.cons rfl (.cons rfl (.cons rfl .nil)))), rfl⟩, fin V.drew hrV (grown_trans hgV (grown_of_below (Below.refl _ V).drew)) (by simp), by dsimp only; omega⟩
  · have h : ¬ ((a + k : Nat) : Int) < b := of_decide_eq_false h
    rw [List.take_of_length_le (by omega)] at hP
    rw [List.drop_of_length_le (by omega)] at hrW
    exact And.intro ⟨_, rfl⟩ (And.intro ⟨S, hS, hP, by simpa using hrW⟩ hgW)
end Go.Proofs.YthgmcegmgjoafaaGreatDoor
namespace Go.Proofs.YthgmcegmgjoafaaGreatDoor
open Go.Vc Go.RowKit Go.Sei

theorem RowM.get {w : World} {g : Nat} {sp : List Value} {l : List Msg} (h : RowM w g sp l) {i : Nat} {v : Msg} (hv : l[i]? = some v) : Cells w ⟨g, 0 + i * 11, none⟩ v.enc := by
  obtain ⟨hi, e⟩ := List.getElem?_eq_some_iff.1 hv
  subst e
  exact h.at hi

theorem row_r (A B : List Msg) (l r : List (Tg Msg)) {k : Nat} (hk : k < r.length) : (A ++ fsts l ++ fsts r ++ B)[A.length + l.length + k]? = some r[k].1 := by
  have h : (A ++ fsts l).length = A.length + l.length := by simp
  rw [List.append_assoc (A ++ fsts l), List.getElem?_append_right (by omega), h, Nat.add_sub_cancel_left, List.getElem?_append_left (by simpa using hk)]
  simp [hk]
theorem row_l (A B : List Msg) (l r : List (Tg Msg)) {k : Nat} (hk : k < l.length) : (A ++ fsts l ++ fsts r ++ B)[A.length + k]? = some l[k].1 := by
  rw [List.append_assoc, List.append_assoc, List.getElem?_append_right (by omega), Nat.add_sub_cancel_left, List.getElem?_append_left (by simpa using hk)]
  simp [hk]

def SymGoal (cp : Array Value) (O : MOrd Msg) (Good : World → Prop) (g cap L : Nat) (sp : List Value) (N : Nat) : Prop :=
  ∀ (a m b : Nat) (A B : List Msg) (l r : List (Tg Msg)) (w : World), l.length + r.length ≤ N → 0 < l.length → 0 < r.length → Good w → RowM w g sp (A ++ fsts l ++ fsts r ++ B) → Srt O l → Srt O r → (∀ x ∈ l, ∀ y ∈ r, x.2 < y.2) →
    A.length = a → A.length + l.length = m → A.length + l.length + r.length = b → L = (A ++ fsts l ++ fsts r ++ B).length →
    Calls Tryz.prog 201 #[.slice (some ⟨g, 0, none⟩) L cap, .int .i64 a, .int .i64 m, .int .i64 b, .func (.func 102) #[] cp] w
      fun e w' => (∃ v, e = .returned v) ∧ (∃ ys, Srt O ys ∧ ys.Perm (l ++ r) ∧ RowM w' g sp (A ++ fsts ys ++ B)) ∧ w.grownBy w' (some g)

theorem sym_l (cp : Array Value) (O : MOrd Msg) (Good : World → Prop) (g cap L : Nat) (sp : List Value) (hC : CmpOk cp O g Good) (hl : L ≤ 1000000000)
    (a m b : Nat) (A B : List Msg) (l r : List (Tg Msg)) (w : World) (hone : l.length = 1) (hl0 : 0 < l.length) (hr0 : 0 < r.length) (hG : Good w) (hr : RowM w g sp (A ++ fsts l ++ fsts r ++ B)) (hSl : Srt O l) (hSr : Srt O r) (hX : ∀ x ∈ l, ∀ y ∈ r, x.2 < y.2)
    (ha : A.length = a) (hm : A.length + l.length = m) (hb : A.length + l.length + r.length = b) (hL : L = (A ++ fsts l ++ fsts r ++ B).length) :
    Calls Tryz.prog 201 #[.slice (some ⟨g, 0, none⟩) L cap, .int .i64 a, .int .i64 m, .int .i64 b, .func (.func 102) #[] cp] w
      fun e w' => (∃ v, e = .returned v) ∧ (∃ ys, Srt O ys ∧ ys.Perm (l ++ r) ∧ RowM w' g sp (A ++ fsts ys ++ B)) ∧ w.grownBy w' (some g) := by
  have hL2 : L = A.length + l.length + r.length + B.length := by rw [hL]; simp; omega
  refine calls_of_E (S := sg 220) (sgOk _) (args := [.slice (some ⟨g, 0, none⟩) L cap, .int .i64 a, .int .i64 m, .int .i64 b, .func (.func 102) #[] cp]) Tryz.func201 rfl rfl (Nat.le_of_ble_eq_true rfl) rfl ?_
  refine ⟨(l.length : Nat), (wrap_i64 (by omega)).trans (by omega), ?_⟩
  refine And.intro (fun h => ?_) (fun h1 => ?_)
  · have h : (l.length : Int) = 1 := of_decide_eq_true h
    obtain ⟨x, rfl⟩ : ∃ x, l = [x] := List.length_eq_one_iff.1 (by omega)
    have hXx : ∀ y ∈ r, x.2 < y.2 := fun y hy => hX x (by simp) y hy
    refine ⟨Nat × Nat, fun s => ⟨[(0, .slice (some ⟨g, 0, none⟩) L cap), (1, .int .i64 a), (2, .int .i64 m), (3, .int .i64 b), (4, .func (.func 102) #[] cp), (10, .int .i64 (m + s.1 : Nat)), (11, .int .i64 (m + s.2 : Nat))], []⟩,
      fun s V => s.1 ≤ s.2 ∧ s.2 ≤ r.length ∧ (s.1 = 0 ∨ ∃ y, r[s.1 - 1]? = some y ∧ O.lt y.1 x.1 = true) ∧ (s.2 = r.length ∨ ∃ y, r[s.2]? = some y ∧ O.lt y.1 x.1 = false) ∧ RowM V g sp (A ++ fsts [x] ++ fsts r ++ B) ∧ w.grownBy V (some g),
      fun s => s.2 - s.1, (0, r.length), ⟨.cons rfl (.cons rfl (.cons rfl (.cons rfl (.cons rfl (.cons rfl (.cons (by dsimp only; rw [← hb, ← hm]; rfl) .nil)))))), rfl⟩, ⟨Nat.zero_le _, Nat.le_refl _, .inl rfl, .inl rfl, hr, grown_refl _ _⟩, ?_⟩
    rintro ⟨p, q⟩ V ⟨hpq, hqr, hp, hq, hrV, hgV⟩
    dsimp only at hpq hqr hp hq
    refine And.intro (fun h2 => ?_) (fun h2 => ?_)
    · have h2 : ((m + p : Nat) : Int) < (m + q : Nat) := of_decide_eq_true h2
      have hh : (m + p + (m + q)) / 2 = m + ((m + p + (m + q)) / 2 - m) := by omega
      obtain ⟨c, hc⟩ : ∃ c, c = (m + p + (m + q)) / 2 - m := ⟨_, rfl⟩
      rw [← hc] at hh
      have hc1 : p ≤ c := by omega
      have hc2 : c < q := by omega
      refine ⟨(m + p + (m + q) : Nat), (wrap_i64 (by dsimp only; omega)).trans (by dsimp only; omega), ?_⟩
      refine ⟨(m + p + (m + q) : Nat), wrap_u64 (by omega), ?_⟩
      refine And.intro (by decide) ⟨(m + c : Nat), (half_u64 _).trans (by rw [hh]), ?_⟩
      refine ⟨(m + c : Nat), wrap_i64 (by omega), ?_⟩
      refine DrawE.ord [] [0, 1, 2, 3, 4, 5, 6, 7, 8, 9, 10] (by kernel_rfl) ?_
      have hgl : g < V.drew.heap.size := hrV.lt
      have hrc : c < r.length := by omega
      have g1 : Cells V.drew ⟨g, 0 + (m + c) * 11, none⟩ r[c].1.enc := RowM.get hrV (by rw [← hm]; exact row_r A B [x] r hrc)
      have g2 : Cells V.drew ⟨g, 0 + a * 11, none⟩ x.1.enc := RowM.get hrV (by rw [← ha]; exact row_l A B [x] r (k := 0) (by simp))
      refine ⟨m + c, rfl, by omega, ?_⟩
      refine ⟨_, rfl, g1, hgl, ?_⟩
      refine ⟨a, rfl, by omega, ?_⟩
      refine ⟨_, rfl, g2, hgl, ?_⟩
      refine Calls.mono (hC.run V.drew (hC.keep _ _ (hC.keep _ _ hG hgV) (grown_of_below (Below.refl _ V).drew)) r[c].1 x.1) ?_
      rintro e V2 ⟨v, rfl, hv, hbV⟩
      refine ⟨hbV, ?_⟩
      have hgV2 : w.grownBy V2 (some g) := grown_trans hgV (grown_trans (grown_of_below (Below.refl _ V).drew) (grown_of_below hbV))
      have hrV2 : RowM V2 g sp (A ++ fsts [x] ++ fsts r ++ B) := RowS.below (w := V.drew) hrV hbV
      refine And.intro (fun h3 => ?_) (fun h3 => ?_)
      · rw [hv] at h3
        refine ⟨(m + (c + 1) : Nat), (wrap_i64 (by omega)).trans (by omega), ?_⟩
        exact ⟨(c + 1, q), ⟨.cons rfl (.cons rfl (.cons rfl (.cons rfl (.cons rfl (.cons rfl (.cons rfl .nil)))))), rfl⟩, ⟨hc2, hqr, .inr ⟨r[c], by simp [hrc], h3⟩, hq, hrV2, hgV2⟩, by dsimp only; omega⟩
      · rw [hv] at h3
        exact ⟨(p, c), ⟨.cons rfl (.cons rfl (.cons rfl (.cons rfl (.cons rfl (.cons rfl (.cons rfl .nil)))))), rfl⟩, ⟨hc1, by dsimp only; omega, hp, .inr ⟨r[c], by simp [hrc], h3⟩, hrV2, hgV2⟩, by dsimp only; omega⟩
    · have h2 : ¬ ((m + p : Nat) : Int) < (m + q : Nat) := of_decide_eq_false h2
      have hpe : q = p := by omega
      subst hpe
      have hfin : Srt O (r.take q ++ x :: r.drop q) ∧ (r.take q ++ x :: r.drop q).Perm ([x] ++ r) := by
        have hrs : Srt O (r.take q ++ r.drop q) := by rw [List.take_append_drop]; exact hSr
        have c1 : ∀ y ∈ r.take q, lt2 O y x := fun y hy => by
          refine ends_lt (List.pairwise_append.1 hrs).1 (List.pairwise_singleton _ x) (fun z u hz hu => ?_) y hy x (by simp)
          simp at hu; subst hu
          rcases hp with rfl | ⟨y', hy', hlt⟩
          · simp at hz
          · have hq0 : 0 < q := by
              rcases Nat.eq_zero_or_pos q with e | e
              · subst e; simp at hz
              · exact e
            rw [List.getLast?_eq_getElem?, List.length_take, Nat.min_eq_left hqr, List.getElem?_take, if_pos (by omega), hy'] at hz
            cases hz; exact .inl hlt
        have c2 : ∀ y ∈ r.drop q, lt2 O x y := fun y hy => by
          refine ends_lt (List.pairwise_singleton _ x) (List.pairwise_append.1 hrs).2.1 (fun z u hz hu => ?_) x (by simp) y hy
          simp at hz; subst hz
          rcases hq with e | ⟨y', hy', hlt⟩
          · rw [List.head?_drop, e] at hu; simp at hu
          · rw [List.head?_drop, hy'] at hu
            have hu : y' = u := by simpa using hu
            subst hu
            exact .inr ⟨hlt, hXx y' (List.mem_of_getElem? hy')⟩
        refine ⟨List.pairwise_append.2 ⟨(List.pairwise_append.1 hrs).1, List.pairwise_cons.2 ⟨c2, (List.pairwise_append.1 hrs).2.1⟩, fun u hu v hv => ?_⟩, ?_⟩
        · rcases List.mem_cons.1 hv with rfl | hv
          · exact c1 u hu
          · exact (List.pairwise_append.1 hrs).2.2 u hu v hv
        · refine List.perm_middle.trans ?_
          rw [List.take_append_drop]; exact .refl _
      refine ⟨Nat, fun t => ⟨[(0, .slice (some ⟨g, 0, none⟩) L cap), (1, .int .i64 a), (2, .int .i64 m), (3, .int .i64 b), (4, .func (.func 102) #[] cp), (10, .int .i64 (m + q : Nat)), (13, .int .i64 (a + t : Nat))], []⟩,
        fun t V => t ≤ q ∧ RowM V g sp (A ++ fsts (r.take t) ++ x.1 :: (fsts (r.drop t) ++ B)) ∧ w.grownBy V (some g),
        fun t => q - t, 0, ⟨.cons rfl (.cons rfl (.cons rfl (.cons rfl (.cons rfl (.cons rfl (.cons rfl .nil)))))), rfl⟩, ⟨Nat.zero_le _, by simpa using hrV, hgV⟩, ?_⟩
      rintro t V1 ⟨htq, hrV1, hgV1⟩
      refine ⟨(a + q : Nat), (wrap_i64 (by first | omega | (simp at hm; omega))).trans (by first | omega | (simp at hm; omega)), ?_⟩
      refine And.intro (fun h4 => ?_) (fun h4 => ?_)
      · have h4 : ((a + t : Nat) : Int) < (a + q : Nat) := of_decide_eq_true h4
        have htr : t < r.length := by omega
        have hmm : m = a + 1 := by rw [← hm, ← ha]; rfl
        have hLL : a + 1 + r.length ≤ L := by simp at hL2; omega
        have hd : r.drop t = r[t] :: r.drop (t + 1) := List.drop_eq_getElem_cons htr
        have hA0 : (A ++ fsts (r.take t)).length = a + t := by simp; omega
        have hA1 : ((A ++ fsts (r.take t)) ++ [x.1]).length = a + t + 1 := by simp; omega
        have hA2 : ((A ++ fsts (r.take t)) ++ [r[t].1]).length = a + t + 1 := by simp; omega
        have q0 : RowM V1.drew g sp ((A ++ fsts (r.take t)) ++ x.1 :: (r[t].1 :: (fsts (r.drop (t + 1)) ++ B))) := by
          rw [hd] at hrV1; exact hrV1
        have q1 : RowM V1.drew g sp (((A ++ fsts (r.take t)) ++ [x.1]) ++ r[t].1 :: (fsts (r.drop (t + 1)) ++ B)) := by
          have : ((A ++ fsts (r.take t)) ++ [x.1]) ++ r[t].1 :: (fsts (r.drop (t + 1)) ++ B) = (A ++ fsts (r.take t)) ++ x.1 :: (r[t].1 :: (fsts (r.drop (t + 1)) ++ B)) := by
            simp only [List.append_assoc, List.cons_append, List.nil_append]
          rw [this]; exact q0
        have hgl := q0.lt
        refine DrawE.ord [15, 17] [0, 1, 2, 3, 4, 5, 6, 7, 8, 9, 10, 11, 12, 13, 14, 15, 16, 17] (by kernel_rfl) ?_
        refine ⟨(a + t + 1 : Nat), (wrap_i64 (by omega)).trans (by omega), ?_⟩
        refine ⟨(a + t + 1 : Nat), (wrap_i64 (by omega)).trans (by omega), ?_⟩
        refine ⟨a + t + 1, rfl, by omega, ?_⟩
        refine ⟨r[t].1.enc, rfl, q1.mid hA1, hgl, ?_⟩
        refine ⟨a + t, rfl, by omega, ?_⟩
        refine ⟨x.1.enc, rfl, q0.mid hA0, hgl, ?_⟩
        refine ⟨a + t, rfl, by omega, ?_⟩
        refine store_mid (ttOk.get 53 _ rfl) rfl q0 hA0 r[t].1 fun V3 s1 g1 z1 => ?_
        refine ⟨a + t + 1, rfl, by omega, ?_⟩
        have s2 : RowM V3 g sp (((A ++ fsts (r.take t)) ++ [r[t].1]) ++ r[t].1 :: (fsts (r.drop (t + 1)) ++ B)) := by
          have : ((A ++ fsts (r.take t)) ++ [r[t].1]) ++ r[t].1 :: (fsts (r.drop (t + 1)) ++ B) = (A ++ fsts (r.take t)) ++ r[t].1 :: (r[t].1 :: (fsts (r.drop (t + 1)) ++ B)) := by
            simp only [List.append_assoc, List.cons_append, List.nil_append]
          rw [this]; exact s1
        refine store_mid (ttOk.get 53 _ rfl) rfl s2 hA2 x.1 fun V4 s3 g2 z2 => ?_
        refine ⟨(a + (t + 1) : Nat), (wrap_i64 (by omega)).trans (by omega), ?_⟩
        refine ⟨t + 1, ⟨.cons rfl (.cons rfl (.cons rfl (.cons rfl (.cons rfl (.cons rfl (.cons rfl .nil)))))), rfl⟩, ⟨by omega, ?_, grown_trans hgV1 (grown_trans (grown_of_below (Below.refl _ V1).drew) (grown_trans g1 g2))⟩, by dsimp only; omega⟩
        have : A ++ fsts (r.take (t + 1)) ++ x.1 :: (fsts (r.drop (t + 1)) ++ B) = ((A ++ fsts (r.take t)) ++ [r[t].1]) ++ x.1 :: (fsts (r.drop (t + 1)) ++ B) := by
          rw [List.take_succ_eq_append_getElem htr]
          simp only [fsts, List.map_append, List.map_cons, List.map_nil, List.append_assoc]
        rw [this]; exact s3
      · have h4 : ¬ ((a + t : Nat) : Int) < (a + q : Nat) := of_decide_eq_false h4
        have hte : t = q := by omega
        subst hte
        refine And.intro ⟨_, rfl⟩ (And.intro ⟨r.take t ++ x :: r.drop t, hfin.1, hfin.2, ?_⟩ hgV1)
        have : A ++ fsts (r.take t ++ x :: r.drop t) ++ B = A ++ fsts (r.take t) ++ x.1 :: (fsts (r.drop t) ++ B) := by
          simp only [fsts, List.map_append, List.map_cons, List.append_assoc, List.cons_append]
        rw [this]; exact hrV1
  · exact absurd (of_decide_eq_false h1) (by omega)
end Go.Proofs.YthgmcegmgjoafaaGreatDoor
namespace Go.Proofs.YthgmcegmgjoafaaGreatDoor
open Go.Vc Go.RowKit Go.Sei

theorem sym_r (cp : Array Value) (O : MOrd Msg) (Good : World → Prop) (g cap L : Nat) (sp : List Value) (hC : CmpOk cp O g Good) (hl : L ≤ 1000000000)
    (a m b : Nat) (A B : List Msg) (l r : List (Tg Msg)) (w : World) (hn1 : l.length ≠ 1) (hone : r.length = 1) (hl0 : 0 < l.length) (hr0 : 0 < r.length) (hG : Good w) (hr : RowM w g sp (A ++ fsts l ++ fsts r ++ B)) (hSl : Srt O l) (hSr : Srt O r) (hX : ∀ x ∈ l, ∀ y ∈ r, x.2 < y.2)
    (ha : A.length = a) (hm : A.length + l.length = m) (hb : A.length + l.length + r.length = b) (hL : L = (A ++ fsts l ++ fsts r ++ B).length) :
    Calls Tryz.prog 201 #[.slice (some ⟨g, 0, none⟩) L cap, .int .i64 a, .int .i64 m, .int .i64 b, .func (.func 102) #[] cp] w
      fun e w' => (∃ v, e = .returned v) ∧ (∃ ys, Srt O ys ∧ ys.Perm (l ++ r) ∧ RowM w' g sp (A ++ fsts ys ++ B)) ∧ w.grownBy w' (some g) := by
  have hL2 : L = A.length + l.length + r.length + B.length := by rw [hL]; simp; omega
  refine calls_of_M (S := sg 220) (sgOk _) (args := [.slice (some ⟨g, 0, none⟩) L cap, .int .i64 a, .int .i64 m, .int .i64 b, .func (.func 102) #[] cp]) (.c .p (.s (.s .p (.d (.s .p (.s .p (.c .p .p))) .p)) .p)) Tryz.func201 rfl rfl (Nat.le_of_ble_eq_true rfl) rfl ?_
  refine ⟨Unit, fun _ => ⟨[(0, .slice (some ⟨g, 0, none⟩) L cap), (1, .int .i64 a), (2, .int .i64 m), (3, .int .i64 b), (4, .func (.func 102) #[] cp)], []⟩, fun _ V => w = V, ?_, ?_⟩
  rotate_left
  · rintro _ _ rfl
    refine ⟨(r.length : Nat), (wrap_i64 (by omega)).trans (by omega), ?_⟩
    refine And.intro (fun h => ?_) (fun h2 => ?_)
    · have h : (r.length : Int) = 1 := of_decide_eq_true h
      obtain ⟨y, rfl⟩ : ∃ y, r = [y] := List.length_eq_one_iff.1 (by omega)
      have hXy : ∀ x ∈ l, x.2 < y.2 := fun x hx => hX x hx y (by simp)
      have hyl : (A ++ fsts l ++ fsts [y] ++ B)[m]? = some y.1 := by rw [← hm]; exact row_r A B l [y] (k := 0) (by simp)
      refine ⟨Nat, fun q => ⟨[(0, .slice (some ⟨g, 0, none⟩) L cap), (1, .int .i64 a), (2, .int .i64 m), (3, .int .i64 b), (4, .func (.func 102) #[] cp), (14, .int .i64 (a + q : Nat))], []⟩,
        fun q V => q ≤ l.length ∧ (q = 0 ∨ ∃ z, l[q - 1]? = some z ∧ O.lt y.1 z.1 = false) ∧ (q = l.length ∨ ∃ z, l[q]? = some z ∧ O.lt y.1 z.1 = true) ∧ RowM V g sp (A ++ fsts l ++ fsts [y] ++ B) ∧ w.grownBy V (some g), ?_, ?_⟩
      rotate_left
      · rintro q V ⟨hqr, hp, hq, hrV, hgV⟩
        have hmm : m = a + l.length := by omega
        have hLL : a + l.length + 1 ≤ L := by simp at hL2; omega
        have hfin : Srt O (l.take q ++ y :: l.drop q) ∧ (l.take q ++ y :: l.drop q).Perm (l ++ [y]) := by
          have hrs : Srt O (l.take q ++ l.drop q) := by rw [List.take_append_drop]; exact hSl
          have c1 : ∀ z ∈ l.take q, lt2 O z y := fun z hz0 => by
            refine ends_lt (List.pairwise_append.1 hrs).1 (List.pairwise_singleton _ y) (fun z u hz hu => ?_) z hz0 y (by simp)
            simp at hu; subst hu
            rcases hp with rfl | ⟨z', hz', hlt⟩
            · simp at hz
            · have hq0 : 0 < q := by
                rcases Nat.eq_zero_or_pos q with e | e
                · subst e; simp at hz
                · exact e
              rw [List.getLast?_eq_getElem?, List.length_take, Nat.min_eq_left hqr, List.getElem?_take, if_pos (by omega), hz'] at hz
              have hz : z' = z := by simpa using hz
              subst hz
              exact .inr ⟨hlt, hXy z' (List.mem_of_getElem? hz')⟩
          have c2 : ∀ z ∈ l.drop q, lt2 O y z := fun z hz0 => by
            refine ends_lt (List.pairwise_singleton _ y) (List.pairwise_append.1 hrs).2.1 (fun z u hz hu => ?_) y (by simp) z hz0
            simp at hz; subst hz
            rcases hq with e | ⟨z', hz', hlt⟩
            · rw [List.head?_drop, e] at hu; simp at hu
            · rw [List.head?_drop, hz'] at hu
              have hu : z' = u := by simpa using hu
              subst hu
              exact .inl hlt
          refine ⟨List.pairwise_append.2 ⟨(List.pairwise_append.1 hrs).1, List.pairwise_cons.2 ⟨c2, (List.pairwise_append.1 hrs).2.1⟩, fun u hu v hv => ?_⟩, ?_⟩
          · rcases List.mem_cons.1 hv with rfl | hv
            · exact c1 u hu
            · exact (List.pairwise_append.1 hrs).2.2 u hu v hv
          · refine List.perm_middle.trans ?_
            rw [List.take_append_drop]; exact (List.perm_append_singleton y l).symm
        refine ⟨Nat, fun t => ⟨[(0, .slice (some ⟨g, 0, none⟩) L cap), (1, .int .i64 a), (2, .int .i64 m), (3, .int .i64 b), (4, .func (.func 102) #[] cp), (14, .int .i64 (a + q : Nat)), (17, .int .i64 (a + t : Nat))], []⟩,
          fun t V => q ≤ t ∧ t ≤ l.length ∧ RowM V g sp (A ++ fsts (l.take t) ++ y.1 :: (fsts (l.drop t) ++ B)) ∧ w.grownBy V (some g),
          fun t => t, l.length, ⟨.cons rfl (.cons rfl (.cons rfl (.cons rfl (.cons rfl (.cons rfl (.cons (by dsimp only; rw [← hmm]; rfl) .nil)))))), rfl⟩, ⟨hqr, Nat.le_refl _, by simpa using hrV, hgV⟩, ?_⟩
        rintro t V1 ⟨htq, htl, hrV1, hgV1⟩
        refine And.intro (fun h4 => ?_) (fun h4 => ?_)
        · have h4 : ((a + q : Nat) : Int) < (a + t : Nat) := of_decide_eq_true h4
          obtain ⟨u, rfl⟩ : ∃ u, t = u + 1 := ⟨t - 1, by omega⟩
          have hul : u < l.length := by omega
          have hd : l.take (u + 1) = l.take u ++ [l[u]] := List.take_succ_eq_append_getElem hul
          have hA0 : (A ++ fsts (l.take u)).length = a + u := by simp; omega
          have hA1 : ((A ++ fsts (l.take u)) ++ [l[u].1]).length = a + (u + 1) := by simp; omega
          have q1 : RowM V1.drew g sp (((A ++ fsts (l.take u)) ++ [l[u].1]) ++ y.1 :: (fsts (l.drop (u + 1)) ++ B)) := by
            have : ((A ++ fsts (l.take u)) ++ [l[u].1]) ++ y.1 :: (fsts (l.drop (u + 1)) ++ B) = A ++ fsts (l.take (u + 1)) ++ y.1 :: (fsts (l.drop (u + 1)) ++ B) := by
              rw [hd]; simp only [fsts, List.map_append, List.map_cons, List.map_nil, List.append_assoc]
            rw [this]; exact hrV1
          have q0 : RowM V1.drew g sp ((A ++ fsts (l.take u)) ++ l[u].1 :: (y.1 :: (fsts (l.drop (u + 1)) ++ B))) := by
            have : (A ++ fsts (l.take u)) ++ l[u].1 :: (y.1 :: (fsts (l.drop (u + 1)) ++ B)) = ((A ++ fsts (l.take u)) ++ [l[u].1]) ++ y.1 :: (fsts (l.drop (u + 1)) ++ B) := by
              simp only [List.append_assoc, List.cons_append, List.nil_append]
            rw [this]; exact q1
          have hgl := q0.lt
          refine DrawE.ord [15, 17] [0, 1, 2, 3, 4, 5, 6, 7, 8, 9, 10, 11, 12, 13, 14, 15, 16, 17] (by kernel_rfl) ?_
          refine ⟨(a + u : Nat), (wrap_i64 (by omega)).trans (by omega), ?_⟩
          refine ⟨(a + u : Nat), (wrap_i64 (by omega)).trans (by omega), ?_⟩
          refine ⟨a + u, rfl, by omega, ?_⟩
          refine ⟨l[u].1.enc, rfl, q0.mid hA0, hgl, ?_⟩
          refine ⟨a + (u + 1), rfl, by omega, ?_⟩
          refine ⟨y.1.enc, rfl, q1.mid hA1, hgl, ?_⟩
          refine ⟨a + (u + 1), rfl, by omega, ?_⟩
          refine store_mid (ttOk.get 53 _ rfl) rfl q1 hA1 l[u].1 fun V3 s1 g1 z1 => ?_
          refine ⟨a + u, rfl, by omega, ?_⟩
          have s2 : RowM V3 g sp ((A ++ fsts (l.take u)) ++ l[u].1 :: (l[u].1 :: (fsts (l.drop (u + 1)) ++ B))) := by
            have : (A ++ fsts (l.take u)) ++ l[u].1 :: (l[u].1 :: (fsts (l.drop (u + 1)) ++ B)) = ((A ++ fsts (l.take u)) ++ [l[u].1]) ++ l[u].1 :: (fsts (l.drop (u + 1)) ++ B) := by
              simp only [List.append_assoc, List.cons_append, List.nil_append]
            rw [this]; exact s1
          refine store_mid (ttOk.get 53 _ rfl) rfl s2 hA0 y.1 fun V4 s3 g2 z2 => ?_
          refine ⟨(a + u : Nat), (wrap_i64 (by omega)).trans (by omega), ?_⟩
          refine ⟨u, ⟨.cons rfl (.cons rfl (.cons rfl (.cons rfl (.cons rfl (.cons rfl (.cons rfl .nil)))))), rfl⟩, ⟨by omega, by omega, ?_, grown_trans hgV1 (grown_trans (grown_of_below (Below.refl _ V1).drew) (grown_trans g1 g2))⟩, by dsimp only; omega⟩
          have : A ++ fsts (l.take u) ++ y.1 :: (fsts (l.drop u) ++ B) = (A ++ fsts (l.take u)) ++ y.1 :: (l[u].1 :: (fsts (l.drop (u + 1)) ++ B)) := by
            rw [show l.drop u = l[u] :: l.drop (u + 1) from List.drop_eq_getElem_cons hul]; rfl
          rw [this]; exact s3
        · have h4 : ¬ ((a + q : Nat) : Int) < (a + t : Nat) := of_decide_eq_false h4
          have hte : t = q := by omega
          subst hte
          refine And.intro ⟨_, rfl⟩ (And.intro ⟨l.take t ++ y :: l.drop t, hfin.1, hfin.2, ?_⟩ hgV1)
          have : A ++ fsts (l.take t ++ y :: l.drop t) ++ B = A ++ fsts (l.take t) ++ y.1 :: (fsts (l.drop t) ++ B) := by
            simp only [fsts, List.map_append, List.map_cons, List.append_assoc, List.cons_append]
          rw [this]; exact hrV1
      refine ⟨Nat × Nat, fun s => ⟨[(0, .slice (some ⟨g, 0, none⟩) L cap), (1, .int .i64 a), (2, .int .i64 m), (3, .int .i64 b), (4, .func (.func 102) #[] cp), (14, .int .i64 (a + s.1 : Nat)), (15, .int .i64 (a + s.2 : Nat))], []⟩,
        fun s V => s.1 ≤ s.2 ∧ s.2 ≤ l.length ∧ (s.1 = 0 ∨ ∃ z, l[s.1 - 1]? = some z ∧ O.lt y.1 z.1 = false) ∧ (s.2 = l.length ∨ ∃ z, l[s.2]? = some z ∧ O.lt y.1 z.1 = true) ∧ RowM V g sp (A ++ fsts l ++ fsts [y] ++ B) ∧ w.grownBy V (some g),
        fun s => s.2 - s.1, (0, l.length), ⟨.cons rfl (.cons rfl (.cons rfl (.cons rfl (.cons rfl (.cons rfl (.cons (by dsimp only; rw [← ha, hm]; rfl) .nil)))))), rfl⟩, ⟨Nat.zero_le _, Nat.le_refl _, .inl rfl, .inl rfl, hr, grown_refl _ _⟩, ?_⟩
      rintro ⟨p, q⟩ V ⟨hpq, hqr, hp, hq, hrV, hgV⟩
      dsimp only at hpq hqr hp hq
      have hmm : m = a + l.length := by omega
      have hLL : a + l.length + 1 ≤ L := by simp at hL2; omega
      refine And.intro (fun h2 => ?_) (fun h2 => ?_)
      · have h2 : ((a + p : Nat) : Int) < (a + q : Nat) := of_decide_eq_true h2
        have hh : (a + p + (a + q)) / 2 = a + ((a + p + (a + q)) / 2 - a) := by omega
        obtain ⟨c, hc⟩ : ∃ c, c = (a + p + (a + q)) / 2 - a := ⟨_, rfl⟩
        rw [← hc] at hh
        have hc1 : p ≤ c := by omega
        have hc2 : c < q := by omega
        refine ⟨(a + p + (a + q) : Nat), (wrap_i64 (by dsimp only; omega)).trans (by dsimp only; omega), ?_⟩
        refine ⟨(a + p + (a + q) : Nat), wrap_u64 (by omega), ?_⟩
        refine And.intro (by decide) ⟨(a + c : Nat), (half_u64 _).trans (by rw [hh]), ?_⟩
        refine ⟨(a + c : Nat), wrap_i64 (by omega), ?_⟩
        refine DrawE.ord [] [0, 1, 2, 3, 4, 5, 6, 7, 8, 9, 10, 11] (by kernel_rfl) ?_
        have hgl : g < V.drew.heap.size := hrV.lt
        have hrc : c < l.length := by omega
        have g1 : Cells V.drew ⟨g, 0 + (a + c) * 11, none⟩ l[c].1.enc := RowM.get hrV (by rw [← ha]; exact row_l A B l [y] hrc)
        have g2 : Cells V.drew ⟨g, 0 + m * 11, none⟩ y.1.enc := RowM.get hrV hyl
        refine ⟨m, rfl, by omega, ?_⟩
        refine ⟨_, rfl, g2, hgl, ?_⟩
        refine ⟨a + c, rfl, by omega, ?_⟩
        refine ⟨_, rfl, g1, hgl, ?_⟩
        refine Calls.mono (hC.run V.drew (hC.keep _ _ (hC.keep _ _ hG hgV) (grown_of_below (Below.refl _ V).drew)) y.1 l[c].1) ?_
        rintro e V2 ⟨v, rfl, hv, hbV⟩
        refine ⟨hbV, ?_⟩
        have hgV2 : w.grownBy V2 (some g) := grown_trans hgV (grown_trans (grown_of_below (Below.refl _ V).drew) (grown_of_below hbV))
        have hrV2 : RowM V2 g sp (A ++ fsts l ++ fsts [y] ++ B) := RowS.below (w := V.drew) hrV hbV
        refine And.intro (fun h3 => ?_) (fun h3 => ?_)
        · have h3 : O.lt y.1 l[c].1 = false := by rw [← hv]; simpa using h3
          refine ⟨(a + (c + 1) : Nat), (wrap_i64 (by omega)).trans (by omega), ?_⟩
          exact ⟨(c + 1, q), ⟨.cons rfl (.cons rfl (.cons rfl (.cons rfl (.cons rfl (.cons rfl (.cons rfl .nil)))))), rfl⟩, ⟨hc2, hqr, .inr ⟨l[c], by simp [hrc], h3⟩, hq, hrV2, hgV2⟩, by dsimp only; omega⟩
        · have h3 : O.lt y.1 l[c].1 = true := by rw [← hv]; simpa using h3
          exact ⟨(p, c), ⟨.cons rfl (.cons rfl (.cons rfl (.cons rfl (.cons rfl (.cons rfl (.cons rfl .nil)))))), rfl⟩, ⟨hc1, by dsimp only; omega, hp, .inr ⟨l[c], by simp [hrc], h3⟩, hrV2, hgV2⟩, by dsimp only; omega⟩
      · have h2 : ¬ ((a + p : Nat) : Int) < (a + q : Nat) := of_decide_eq_false h2
        have hpe : q = p := by omega
        subst hpe
        exact ⟨q, ⟨.cons rfl (.cons rfl (.cons rfl (.cons rfl (.cons rfl (.cons rfl .nil))))), rfl⟩, hqr, hp, hq, hrV, hgV⟩
    · exact absurd (of_decide_eq_false h2) (by omega)
  refine ⟨(l.length : Nat), (wrap_i64 (by omega)).trans (by omega), ?_⟩
  refine And.intro (fun h => absurd (of_decide_eq_true h) (by omega)) (fun _ => ?_)
  exact ⟨(), ⟨.cons rfl (.cons rfl (.cons rfl (.cons rfl (.cons rfl .nil)))), rfl⟩, rfl⟩
end Go.Proofs.YthgmcegmgjoafaaGreatDoor
namespace Go.Proofs.YthgmcegmgjoafaaGreatDoor
open Go.Vc Go.RowKit Go.Sei

abbrev symEnv (cp : Array Value) (g cap L a m b : Nat) : VEnv := [(0, .slice (some ⟨g, 0, none⟩) L cap), (1, .int .i64 a), (2, .int .i64 m), (3, .int .i64 b), (4, .func (.func 102) #[] cp)]

theorem sym_m (cp : Array Value) (O : MOrd Msg) (Good : World → Prop) (g cap L : Nat) (sp : List Value) (hC : CmpOk cp O g Good) (hl : L ≤ 1000000000) (N : Nat) (ih : SymGoal cp O Good g cap L sp N)
    (a m b : Nat) (A B : List Msg) (l r : List (Tg Msg)) (w : World) (hN : l.length + r.length ≤ N + 1) (hn1 : l.length ≠ 1) (hn2 : r.length ≠ 1) (hl0 : 0 < l.length) (hr0 : 0 < r.length) (hG : Good w) (hr : RowM w g sp (A ++ fsts l ++ fsts r ++ B)) (hSl : Srt O l) (hSr : Srt O r) (hX : ∀ x ∈ l, ∀ y ∈ r, x.2 < y.2)
    (ha : A.length = a) (hm : A.length + l.length = m) (hb : A.length + l.length + r.length = b) (hL : L = (A ++ fsts l ++ fsts r ++ B).length) :
    Calls Tryz.prog 201 #[.slice (some ⟨g, 0, none⟩) L cap, .int .i64 a, .int .i64 m, .int .i64 b, .func (.func 102) #[] cp] w
      fun e w' => (∃ v, e = .returned v) ∧ (∃ ys, Srt O ys ∧ ys.Perm (l ++ r) ∧ RowM w' g sp (A ++ fsts ys ++ B)) ∧ w.grownBy w' (some g) := by
  have hL2 : L = A.length + l.length + r.length + B.length := by rw [hL]; simp; omega
  refine calls_of_M (S := sg 220) (sgOk _) (args := [.slice (some ⟨g, 0, none⟩) L cap, .int .i64 a, .int .i64 m, .int .i64 b, .func (.func 102) #[] cp]) (.c .p (.c .p (.s .p (.s .p (.s .p (.c .p (.s .p (.s .p (.s .p (.c .p (.c .p .p))))))))))) Tryz.func201 rfl rfl (Nat.le_of_ble_eq_true rfl) rfl ?_
  refine ⟨Unit, fun _ => ⟨symEnv cp g cap L a m b, []⟩, fun _ V => w = V, ?_, ?_⟩
  · refine ⟨(l.length : Nat), (wrap_i64 (by omega)).trans (by omega), ?_⟩
    refine And.intro (fun h => absurd (of_decide_eq_true h) (by omega)) (fun _ => ?_)
    exact ⟨(), ⟨.cons rfl (.cons rfl (.cons rfl (.cons rfl (.cons rfl .nil)))), rfl⟩, rfl⟩
  rintro _ _ rfl
  refine ⟨Unit, fun _ => ⟨symEnv cp g cap L a m b, []⟩, fun _ V => w = V, ?_, ?_⟩
  · refine ⟨(r.length : Nat), (wrap_i64 (by omega)).trans (by omega), ?_⟩
    refine And.intro (fun h => absurd (of_decide_eq_true h) (by omega)) (fun _ => ?_)
    exact ⟨(), ⟨.cons rfl (.cons rfl (.cons rfl (.cons rfl (.cons rfl .nil)))), rfl⟩, rfl⟩
  rintro _ _ rfl
  obtain ⟨mid, hmid⟩ : ∃ mid, mid = (a + b) / 2 := ⟨_, rfl⟩
  obtain ⟨n, hn⟩ : ∃ n, n = mid + m := ⟨_, rfl⟩
  refine ⟨(a + b : Nat), (wrap_i64 (by omega)).trans (by omega), ?_⟩
  refine ⟨(a + b : Nat), wrap_u64 (by omega), ?_⟩
  refine And.intro (by decide) ⟨(mid : Nat), (half_u64 _).trans (by rw [hmid]), ?_⟩
  refine ⟨(mid : Nat), wrap_i64 (by omega), ?_⟩
  refine ⟨(n : Nat), (wrap_i64 (by omega)).trans (by omega), ?_⟩
  refine ⟨Nat × Nat, fun s => ⟨symEnv cp g cap L a m b ++ [(18, .int .i64 mid), (19, .int .i64 n), (20, .int .i64 s.1), (21, .int .i64 s.2)], []⟩,
    fun s V => a ≤ s.1 ∧ s.1 ≤ s.2 ∧ s.2 ≤ m ∧ s.2 ≤ mid ∧ n ≤ b + s.1 ∧ (s.1 = a ∨ n = b + s.1) ∧ (s.2 = m ∨ s.2 = mid) ∧ w = V, ?_, ?_⟩
  · refine And.intro (fun h => ?_) (fun h => ?_)
    · have h : (mid : Int) < m := of_decide_eq_true h
      refine ⟨(n - b : Nat), (wrap_i64 (by omega)).trans (by omega), ?_⟩
      exact ⟨(n - b, mid), ⟨.cons rfl (.cons rfl (.cons rfl (.cons rfl (.cons rfl (.cons rfl (.cons rfl (.cons rfl (.cons rfl .nil)))))))), rfl⟩, by dsimp only; omega, by dsimp only; omega, by dsimp only; omega, by dsimp only; omega, by dsimp only; omega, .inr (by dsimp only; omega), .inr rfl, rfl⟩
    · have h : ¬ (mid : Int) < m := of_decide_eq_false h
      exact ⟨(a, m), ⟨.cons rfl (.cons rfl (.cons rfl (.cons rfl (.cons rfl (.cons rfl (.cons rfl (.cons rfl (.cons rfl .nil)))))))), rfl⟩, by dsimp only; omega, by dsimp only; omega, by dsimp only; omega, by dsimp only; omega, by dsimp only; omega, .inl rfl, .inl rfl, rfl⟩
  rintro ⟨s0, r0⟩ _ ⟨i1, i2, i3, i4, i5, i6, i7, rfl⟩
  dsimp only at i1 i2 i3 i4 i5 i6 i7
  refine ⟨(n - 1 : Nat), (wrap_i64 (by omega)).trans (by omega), ?_⟩
  refine ⟨Nat × Nat, fun s => ⟨symEnv cp g cap L a m b ++ [(18, .int .i64 mid), (19, .int .i64 n), (20, .int .i64 s.1), (21, .int .i64 s.2), (22, .int .i64 (n - 1 : Nat))], []⟩,
    fun s V => a ≤ s.1 ∧ s.1 ≤ s.2 ∧ s.2 ≤ m ∧ s.2 ≤ mid ∧ n ≤ b + s.1 ∧ (s.1 = a ∨ n = b + s.1 ∨ (a < s.1 ∧ ∃ x y, l[s.1 - 1 - a]? = some x ∧ r[mid - s.1]? = some y ∧ O.lt y.1 x.1 = false)) ∧
      (s.2 = m ∨ s.2 = mid ∨ (s.2 < mid ∧ ∃ x y, l[s.2 - a]? = some x ∧ r[mid - 1 - s.2]? = some y ∧ O.lt y.1 x.1 = true)) ∧ RowM V g sp (A ++ fsts l ++ fsts r ++ B) ∧ w.grownBy V (some g),
    fun s => s.2 - s.1, (s0, r0), ⟨.cons rfl (.cons rfl (.cons rfl (.cons rfl (.cons rfl (.cons rfl (.cons rfl (.cons rfl (.cons rfl (.cons rfl .nil))))))))), rfl⟩,
    ⟨i1, i2, i3, i4, i5, by rcases i6 with h | h; exact .inl h; exact .inr (.inl h), by rcases i7 with h | h; exact .inl h; exact .inr (.inl h), hr, grown_refl _ _⟩, ?_⟩
  clear i1 i2 i3 i4 i5 i6 i7 s0 r0
  rintro ⟨s, t⟩ V ⟨i1, i2, i3, i4, i5, i6, i7, hrV, hgV⟩
  dsimp only at i1 i2 i3 i4 i5 i6 i7
  refine And.intro (fun h => ?_) (fun h => ?_)
  · have h : (s : Int) < t := of_decide_eq_true h
    obtain ⟨c, hc⟩ : ∃ c, c = (s + t) / 2 := ⟨_, rfl⟩
    have hc1 : s ≤ c := by omega
    have hc2 : c < t := by omega
    refine ⟨(s + t : Nat), (wrap_i64 (by dsimp only; omega)).trans (by dsimp only; omega), ?_⟩
    refine ⟨(s + t : Nat), wrap_u64 (by omega), ?_⟩
    refine And.intro (by decide) ⟨(c : Nat), (half_u64 _).trans (by rw [hc]), ?_⟩
    refine ⟨(c : Nat), wrap_i64 (by omega), ?_⟩
    refine DrawE.ord [] [0, 1, 2, 3, 4, 5, 6, 7, 8, 9, 10, 11, 12, 13] (by kernel_rfl) ?_
    have hgl : g < V.drew.heap.size := hrV.lt
    obtain ⟨j, hj⟩ : ∃ j, c = A.length + j := ⟨c - a, by omega⟩
    obtain ⟨k, hk⟩ : ∃ k, n - 1 - c = A.length + l.length + k := ⟨n - 1 - c - m, by omega⟩
    have hjl : j < l.length := by omega
    have hkr : k < r.length := by omega
    have g1 : Cells V.drew ⟨g, 0 + (n - 1 - c) * 11, none⟩ r[k].1.enc := RowM.get hrV (by rw [hk]; exact row_r A B l r hkr)
    have g2 : Cells V.drew ⟨g, 0 + c * 11, none⟩ l[j].1.enc := RowM.get hrV (by rw [hj]; exact row_l A B l r hjl)
    refine ⟨(n - 1 - c : Nat), (wrap_i64 (by omega)).trans (by omega), ?_⟩
    refine ⟨n - 1 - c, rfl, by omega, ?_⟩
    refine ⟨_, rfl, g1, hgl, ?_⟩
    refine ⟨c, rfl, by omega, ?_⟩
    refine ⟨_, rfl, g2, hgl, ?_⟩
    refine Calls.mono (hC.run V.drew (hC.keep _ _ (hC.keep _ _ hG hgV) (grown_of_below (Below.refl _ V).drew)) r[k].1 l[j].1) ?_
    rintro e V2 ⟨v, rfl, hv, hbV⟩
    refine ⟨hbV, ?_⟩
    have hgV2 : w.grownBy V2 (some g) := grown_trans hgV (grown_trans (grown_of_below (Below.refl _ V).drew) (grown_of_below hbV))
    have hrV2 : RowM V2 g sp (A ++ fsts l ++ fsts r ++ B) := RowS.below (w := V.drew) hrV hbV
    refine And.intro (fun h3 => ?_) (fun h3 => ?_)
    · have h3 : O.lt r[k].1 l[j].1 = false := by rw [← hv]; simpa using h3
      refine ⟨(c + 1 : Nat), (wrap_i64 (by omega)).trans (by omega), ?_⟩
      refine ⟨(c + 1, t), ⟨.cons rfl (.cons rfl (.cons rfl (.cons rfl (.cons rfl (.cons rfl (.cons rfl (.cons rfl (.cons rfl (.cons rfl .nil))))))))), rfl⟩, ⟨by dsimp only; omega, hc2, i3, i4, by dsimp only; omega, .inr (.inr ⟨by dsimp only; omega, l[j], r[k], ?_, ?_, h3⟩), i7, hrV2, hgV2⟩, by dsimp only; omega⟩
      · have : c + 1 - 1 - a = j := by omega
        dsimp only; rw [this]; exact List.getElem?_eq_getElem hjl
      · have : mid - (c + 1) = k := by omega
        dsimp only; rw [this]; exact List.getElem?_eq_getElem hkr
    · have h3 : O.lt r[k].1 l[j].1 = true := by rw [← hv]; simpa using h3
      refine ⟨(s, c), ⟨.cons rfl (.cons rfl (.cons rfl (.cons rfl (.cons rfl (.cons rfl (.cons rfl (.cons rfl (.cons rfl (.cons rfl .nil))))))))), rfl⟩, ⟨i1, hc1, by dsimp only; omega, by dsimp only; omega, i5, i6, .inr (.inr ⟨by dsimp only; omega, l[j], r[k], ?_, ?_, h3⟩), hrV2, hgV2⟩, by dsimp only; omega⟩
      · have : c - a = j := by omega
        dsimp only; rw [this]; exact List.getElem?_eq_getElem hjl
      · have : mid - 1 - c = k := by omega
        dsimp only; rw [this]; exact List.getElem?_eq_getElem hkr
  have h : ¬ (s : Int) < t := of_decide_eq_false h
  have hst : t = s := by omega
  subst hst
  obtain ⟨L1, hL1⟩ : ∃ L1, L1 = l.take (t - a) := ⟨_, rfl⟩
  obtain ⟨L2, hL2'⟩ : ∃ L2, L2 = l.drop (t - a) := ⟨_, rfl⟩
  obtain ⟨R1, hR1⟩ : ∃ R1, R1 = r.take (mid - t) := ⟨_, rfl⟩
  obtain ⟨R2, hR2⟩ : ∃ R2, R2 = r.drop (mid - t) := ⟨_, rfl⟩
  have el : L1 ++ L2 = l := by rw [hL1, hL2']; exact List.take_append_drop _ _
  have er : R1 ++ R2 = r := by rw [hR1, hR2]; exact List.take_append_drop _ _
  have zl1 : L1.length = t - a := by rw [hL1, List.length_take]; omega
  have zl2 : L2.length = m - t := by rw [hL2', List.length_drop]; omega
  have zr1 : R1.length = mid - t := by rw [hR1, List.length_take]; omega
  have zr2 : R2.length = b + t - n := by rw [hR2, List.length_drop]; omega
  have sl : Srt O (L1 ++ L2) := by rw [el]; exact hSl
  have sr : Srt O (R1 ++ R2) := by rw [er]; exact hSr
  have hX11 : ∀ x ∈ L1, ∀ y ∈ R1, x.2 < y.2 := fun x hx y hy => hX x (el ▸ List.mem_append_left _ hx) y (er ▸ List.mem_append_left _ hy)
  have hX22 : ∀ x ∈ L2, ∀ y ∈ R2, x.2 < y.2 := fun x hx y hy => hX x (el ▸ List.mem_append_right _ hx) y (er ▸ List.mem_append_right _ hy)
  have h12 : ∀ x ∈ L1, ∀ y ∈ R2, lt2 O x y := by
    refine ends_lt (List.pairwise_append.1 sl).1 (List.pairwise_append.1 sr).2.1 fun z u hz hu => ?_
    have hzu : z.2 < u.2 := hX z (el ▸ List.mem_append_left _ (List.mem_of_getLast? hz)) u (er ▸ List.mem_append_right _ (List.mem_of_head? hu))
    rcases i6 with e | e | ⟨e, x, y, hx, hy, hlt⟩
    · have : L1 = [] := List.eq_nil_of_length_eq_zero (by omega)
      rw [this] at hz; cases hz
    · have : R2 = [] := List.eq_nil_of_length_eq_zero (by omega)
      rw [this] at hu; cases hu
    · rw [hL1, List.getLast?_eq_getElem?, List.length_take, Nat.min_eq_left (by omega), List.getElem?_take, if_pos (by omega)] at hz
      have e1 : t - a - 1 = t - 1 - a := by omega
      rw [e1, hx] at hz
      rw [hR2, List.head?_drop, hy] at hu
      cases hz; cases hu
      exact .inr ⟨hlt, hzu⟩
  have h21 : ∀ y ∈ R1, ∀ x ∈ L2, lt2 O y x := by
    refine ends_lt (List.pairwise_append.1 sr).1 (List.pairwise_append.1 sl).2.1 fun z u hz hu => ?_
    rcases i7 with e | e | ⟨e, x, y, hx, hy, hlt⟩
    · have : L2 = [] := List.eq_nil_of_length_eq_zero (by omega)
      rw [this] at hu; cases hu
    · have : R1 = [] := List.eq_nil_of_length_eq_zero (by omega)
      rw [this] at hz; cases hz
    · rw [hR1, List.getLast?_eq_getElem?, List.length_take, Nat.min_eq_left (by omega), List.getElem?_take, if_pos (by omega)] at hz
      have e1 : mid - t - 1 = mid - 1 - t := by omega
      rw [e1, hy] at hz
      rw [hL2', List.head?_drop, hx] at hu
      cases hz; cases hu
      exact .inl hlt
  have hrow0 : A ++ fsts l ++ fsts r ++ B = (A ++ fsts L1) ++ fsts L2 ++ fsts R1 ++ (fsts R2 ++ B) := by
    rw [← el, ← er]; simp only [fsts, List.map_append, List.append_assoc]
  have hAL1 : (A ++ fsts L1).length = t := by simp; omega
  rw [hrow0] at hrV
  refine ⟨(n - t : Nat), (wrap_i64 (by omega)).trans (by omega), ?_⟩
  refine ⟨Unit, fun _ => ⟨symEnv cp g cap L a m b ++ [(18, .int .i64 mid), (20, .int .i64 t), (24, .int .i64 (n - t : Nat))], []⟩,
    fun _ V => RowM V g sp ((A ++ fsts L1) ++ fsts R1 ++ fsts L2 ++ (fsts R2 ++ B)) ∧ w.grownBy V (some g), ?_, ?_⟩
  · refine And.intro (fun h1 => ?_) (fun h1 => ?_)
    · have h1 : (t : Int) < m := of_decide_eq_true h1
      refine And.intro (fun h2 => ?_) (fun h2 => ?_)
      · have h2 : (m : Int) < (n - t : Nat) := of_decide_eq_true h2
        refine Calls.mono (rotate_c g cap t m (n - t) L sp (A ++ fsts L1) (fsts L2) (fsts R1) (fsts R2 ++ B) _ V hrV (List.ne_nil_of_length_pos (by simp; omega)) (List.ne_nil_of_length_pos (by simp; omega)) hAL1 (by rw [hAL1]; simp; omega) (by rw [hAL1]; simp; omega) (by rw [← hrow0]; exact hL) hl) ?_
        rintro e V2 ⟨⟨v, rfl⟩, hrV2, hgV2⟩
        exact ⟨(), ⟨.cons rfl (.cons rfl (.cons rfl (.cons rfl (.cons rfl (.cons rfl (.cons rfl (.cons rfl .nil))))))), rfl⟩, hrV2, grown_trans hgV hgV2⟩
      · have h2 : ¬ (m : Int) < (n - t : Nat) := of_decide_eq_false h2
        have e1 : R1 = [] := List.eq_nil_of_length_eq_zero (by omega)
        refine ⟨(), ⟨.cons rfl (.cons rfl (.cons rfl (.cons rfl (.cons rfl (.cons rfl (.cons rfl (.cons rfl .nil))))))), rfl⟩, ?_, hgV⟩
        rw [e1] at hrV ⊢; simpa using hrV
    · have h1 : ¬ (t : Int) < m := of_decide_eq_false h1
      have e1 : L2 = [] := List.eq_nil_of_length_eq_zero (by omega)
      refine And.intro (fun h => by cases h) (fun _ => ?_)
      refine ⟨(), ⟨.cons rfl (.cons rfl (.cons rfl (.cons rfl (.cons rfl (.cons rfl (.cons rfl (.cons rfl .nil))))))), rfl⟩, ?_, hgV⟩
      rw [e1] at hrV ⊢; simpa using hrV
  clear hrV hgV V
  rintro _ V ⟨hrV, hgV⟩
  refine ⟨List (Tg Msg), fun _ => ⟨symEnv cp g cap L a m b ++ [(18, .int .i64 mid), (24, .int .i64 (n - t : Nat))], []⟩,
    fun S1 V => Srt O S1 ∧ S1.Perm (L1 ++ R1) ∧ RowM V g sp ((A ++ fsts S1) ++ fsts L2 ++ fsts R2 ++ B) ∧ w.grownBy V (some g), ?_, ?_⟩
  · have hrV' : RowM V g sp (A ++ fsts L1 ++ fsts R1 ++ (fsts L2 ++ (fsts R2 ++ B))) := by simpa using hrV
    have hno : L1 = [] ∨ R1 = [] → Srt O (L1 ++ R1) ∧ RowM V g sp ((A ++ fsts (L1 ++ R1)) ++ fsts L2 ++ fsts R2 ++ B) := fun h => by
      refine ⟨?_, by simpa [fsts] using hrV⟩
      rcases h with h | h
      · rw [h]; exact (List.pairwise_append.1 sr).1
      · rw [h, List.append_nil]; exact (List.pairwise_append.1 sl).1
    refine And.intro (fun h1 => ?_) (fun h1 => ?_)
    · have h1 : (a : Int) < t := of_decide_eq_true h1
      refine And.intro (fun h2 => ?_) (fun h2 => ?_)
      · have h2 : (t : Int) < mid := of_decide_eq_true h2
        refine Calls.mono (ih a t mid A (fsts L2 ++ (fsts R2 ++ B)) L1 R1 V (by omega) (by omega) (by omega) (hC.keep _ _ hG hgV) hrV' (List.pairwise_append.1 sl).1 (List.pairwise_append.1 sr).1 hX11 ha (by omega) (by omega) (by rw [hL, hrow0]; simp; omega)) ?_
        rintro e V2 ⟨⟨v, rfl⟩, ⟨S1, q1, q2, q3⟩, hgV2⟩
        exact ⟨S1, ⟨.cons rfl (.cons rfl (.cons rfl (.cons rfl (.cons rfl (.cons rfl (.cons rfl .nil)))))), rfl⟩, q1, q2, by simpa using q3, grown_trans hgV hgV2⟩
      · have h2 : ¬ (t : Int) < mid := of_decide_eq_false h2
        obtain ⟨n1, n2⟩ := hno (.inr (List.eq_nil_of_length_eq_zero (by omega)))
        exact ⟨L1 ++ R1, ⟨.cons rfl (.cons rfl (.cons rfl (.cons rfl (.cons rfl (.cons rfl (.cons rfl .nil)))))), rfl⟩, n1, .refl _, n2, hgV⟩
    · have h1 : ¬ (a : Int) < t := of_decide_eq_false h1
      refine And.intro (fun h => by cases h) (fun _ => ?_)
      obtain ⟨n1, n2⟩ := hno (.inl (List.eq_nil_of_length_eq_zero (by omega)))
      exact ⟨L1 ++ R1, ⟨.cons rfl (.cons rfl (.cons rfl (.cons rfl (.cons rfl (.cons rfl (.cons rfl .nil)))))), rfl⟩, n1, .refl _, n2, hgV⟩
  clear hrV hgV V
  rintro S1 V ⟨q1, q2, hrV, hgV⟩
  have zs : S1.length = mid - a := by rw [q2.length_eq, List.length_append]; omega
  have fin : ∀ S2 Z, Srt O S2 → S2.Perm (L2 ++ R2) → RowM Z g sp ((A ++ fsts S1) ++ fsts S2 ++ B) → w.grownBy Z (some g) →
      (∃ ys, Srt O ys ∧ ys.Perm (l ++ r) ∧ RowM Z g sp (A ++ fsts ys ++ B)) ∧ w.grownBy Z (some g) := fun S2 Z c1 c2 c3 c4 => by
    obtain ⟨m1, m2⟩ := mrg_combine sl sr h12 h21 q1 q2 c1 c2
    rw [el, er] at m2
    exact ⟨⟨S1 ++ S2, m1, m2, by simpa [fsts] using c3⟩, c4⟩
  have hno : L2 = [] ∨ R2 = [] → Srt O (L2 ++ R2) ∧ RowM V g sp ((A ++ fsts S1) ++ fsts (L2 ++ R2) ++ B) := fun h => by
    refine ⟨?_, by simpa [fsts] using hrV⟩
    rcases h with h | h
    · rw [h]; exact (List.pairwise_append.1 sr).2.1
    · rw [h, List.append_nil]; exact (List.pairwise_append.1 sl).2.1
  refine And.intro (fun h1 => ?_) (fun h1 => ?_)
  · have h1 : (mid : Int) < (n - t : Nat) := of_decide_eq_true h1
    refine And.intro (fun h2 => ?_) (fun h2 => ?_)
    · have h2 : ((n - t : Nat) : Int) < b := of_decide_eq_true h2
      refine Calls.mono (ih mid (n - t) b (A ++ fsts S1) B L2 R2 V (by omega) (by omega) (by omega) (hC.keep _ _ hG hgV) hrV (List.pairwise_append.1 sl).2.1 (List.pairwise_append.1 sr).2.1 hX22 (by simp; omega) (by simp; omega) (by simp; omega) (by rw [hL, hrow0]; simp; omega)) ?_
      rintro e V2 ⟨⟨v, rfl⟩, ⟨S2, c1, c2, c3⟩, hgV2⟩
      exact And.intro ⟨_, rfl⟩ (fin S2 V2 c1 c2 c3 (grown_trans hgV hgV2))
    · have h2 : ¬ ((n - t : Nat) : Int) < b := of_decide_eq_false h2
      obtain ⟨n1, n2⟩ := hno (.inr (List.eq_nil_of_length_eq_zero (by omega)))
      exact And.intro ⟨_, rfl⟩ (fin _ V n1 (.refl _) n2 hgV)
  · have h1 : ¬ (mid : Int) < (n - t : Nat) := of_decide_eq_false h1
    refine And.intro (fun h => by cases h) (fun _ => ?_)
    obtain ⟨n1, n2⟩ := hno (.inl (List.eq_nil_of_length_eq_zero (by omega)))
    exact And.intro ⟨_, rfl⟩ (fin _ V n1 (.refl _) n2 hgV)

theorem sym_c (cp : Array Value) (O : MOrd Msg) (Good : World → Prop) (g cap L : Nat) (sp : List Value) (hC : CmpOk cp O g Good) (hl : L ≤ 1000000000) : ∀ N, SymGoal cp O Good g cap L sp N := by
  intro N
  induction N with
  | zero => exact fun _ _ _ _ _ l r _ h1 h2 _ => absurd h2 (by omega)
  | succ N ih =>
    intro a m b A B l r w hN hl0 hr0 hG hr hSl hSr hX ha hm hb hL
    by_cases h1 : l.length = 1
    · exact sym_l cp O Good g cap L sp hC hl a m b A B l r w h1 hl0 hr0 hG hr hSl hSr hX ha hm hb hL
    · by_cases h2 : r.length = 1
      · exact sym_r cp O Good g cap L sp hC hl a m b A B l r w h1 h2 hl0 hr0 hG hr hSl hSr hX ha hm hb hL
      · exact sym_m cp O Good g cap L sp hC hl N ih a m b A B l r w hN h1 h2 hl0 hr0 hG hr hSl hSr hX ha hm hb hL
end Go.Proofs.YthgmcegmgjoafaaGreatDoor
namespace Go.Proofs.YthgmcegmgjoafaaGreatDoor
open Go.Vc Go.RowKit Go.Sei

def Cross (c d : List (Tg Msg)) : Prop := ∀ x ∈ c, ∀ y ∈ d, x.2 < y.2
/-- Blocks of bs, each sorted, and a last one that is shorter. -/
structure Bks (O : MOrd Msg) (bs : Nat) (ls : List (List (Tg Msg))) (T : List (Tg Msg)) : Prop where
  len : ∀ c ∈ ls, c.length = bs
  srt : ∀ c ∈ ls, Srt O c
  last : T.length < bs
  slast : Srt O T
  cross : (ls ++ [T]).Pairwise Cross

theorem cross_swap {P Q : List (List (Tg Msg))} {c1 c2 S : List (Tg Msg)} (h : (P ++ c1 :: c2 :: Q).Pairwise Cross) (hS : S.Perm (c1 ++ c2)) : (P ++ S :: Q).Pairwise Cross := by
  have hm : ∀ x, x ∈ S ↔ x ∈ c1 ∨ x ∈ c2 := fun x => by rw [hS.mem_iff, List.mem_append]
  simp only [List.pairwise_append, List.pairwise_cons, List.mem_cons] at h ⊢
  obtain ⟨h1, ⟨h2, h3, h4⟩, h5⟩ := h
  refine ⟨h1, ⟨fun d hd x hx y hy => ?_, h4⟩, fun c hc d hd => ?_⟩
  · rcases (hm x).1 hx with hx | hx
    · exact h2 d (.inr hd) x hx y hy
    · exact h3 d hd x hx y hy
  · rcases hd with rfl | hd
    · intro x hx y hy
      rcases (hm y).1 hy with hy | hy
      · exact h5 c hc c1 (.inl rfl) x hx y hy
      · exact h5 c hc c2 (.inr (.inl rfl)) x hx y hy
    · exact h5 c hc d (.inr (.inr hd))
theorem cross_perm {P Q : List (List (Tg Msg))} {c S : List (Tg Msg)} (h : (P ++ c :: Q).Pairwise Cross) (hS : S.Perm c) : (P ++ S :: Q).Pairwise Cross := by
  simp only [List.pairwise_append, List.pairwise_cons, List.mem_cons] at h ⊢
  obtain ⟨h1, ⟨h2, h3⟩, h5⟩ := h
  refine ⟨h1, ⟨fun d hd x hx y hy => h2 d hd x (hS.mem_iff.1 hx) y hy, h3⟩, fun c' hc d hd => ?_⟩
  rcases hd with rfl | hd
  · exact fun x hx y hy => h5 c' hc c (.inl rfl) x hx y (hS.mem_iff.1 hy)
  · exact h5 c' hc d (.inr hd)
theorem cross_split {P : List (List (Tg Msg))} {c d : List (Tg Msg)} (h : (P ++ [c ++ d]).Pairwise Cross) (hcd : Cross c d) : (P ++ [c, d]).Pairwise Cross := by
  simp only [List.pairwise_append, List.pairwise_cons, List.mem_cons, List.not_mem_nil, or_false] at h ⊢
  obtain ⟨h1, _, h5⟩ := h
  refine ⟨h1, ⟨fun _ e => e ▸ hcd, fun _ h => h.elim, List.Pairwise.nil⟩, fun c' hc e he => ?_⟩
  rcases he with rfl | rfl
  · exact fun x hx y hy => h5 c' hc _ rfl x hx y (List.mem_append_left _ hy)
  · exact fun x hx y hy => h5 c' hc _ rfl x hx y (List.mem_append_right _ hy)
theorem cross_mid {P Q : List (List (Tg Msg))} {c d : List (Tg Msg)} (h : (P ++ c :: d :: Q).Pairwise Cross) : Cross c d :=
  (List.pairwise_cons.1 (List.pairwise_append.1 h).2.1).1 d List.mem_cons_self

abbrev stEnv (cp : Array Value) (g cap L : Nat) : VEnv := [(0, .slice (some ⟨g, 0, none⟩) L cap), (1, .int .i64 L), (2, .func (.func 102) #[] cp)]

theorem stable_c (cp : Array Value) (O : MOrd Msg) (Good : World → Prop) (g cap L : Nat) (sp : List Value) (xs : List (Tg Msg)) (w : World) (hC : CmpOk cp O g Good) (hl : L ≤ 1000000000) (hG : Good w)
    (hr : RowM w g sp (fsts xs)) (ht : xs.Pairwise (fun x y => x.2 < y.2)) (hL : L = xs.length) :
    Calls Tryz.prog 164 #[.slice (some ⟨g, 0, none⟩) L cap, .int .i64 L, .func (.func 102) #[] cp] w
      fun e w' => (∃ v, e = .returned v) ∧ (∃ ys, Srt O ys ∧ ys.Perm xs ∧ RowM w' g sp (fsts ys)) ∧ w.grownBy w' (some g) := by
  refine calls_of_M (S := sg 63) (sgOk _) (args := [.slice (some ⟨g, 0, none⟩) L cap, .int .i64 L, .func (.func 102) #[] cp]) (.s .p (.s .p (.s .p (.c .p (.b (.l (.s .p (.b (.s .p (.c .p (.c .p .p)))))))))))
    Tryz.func164 rfl rfl (Nat.le_of_ble_eq_true rfl) rfl ?_
  refine ⟨List (List (Tg Msg)) × List (Tg Msg), fun s => ⟨stEnv cp g cap L ++ [(6, .int .i64 20), (7, .int .i64 s.1.flatten.length), (8, .int .i64 (s.1.flatten.length + 20 : Nat))], []⟩,
    fun s V => (∀ c ∈ s.1, c.length = 20) ∧ (∀ c ∈ s.1, Srt O c) ∧ (s.1 ++ [s.2]).Pairwise Cross ∧ s.2.Pairwise (fun x y => x.2 < y.2) ∧ (s.1.flatten ++ s.2).Perm xs ∧ RowM V g sp (fsts (s.1.flatten ++ s.2)) ∧ w.grownBy V (some g),
    fun s => s.2.length, ([], xs), ⟨.cons rfl (.cons rfl (.cons rfl (.cons rfl (.cons rfl (.cons rfl .nil))))), rfl⟩, ⟨by simp, by simp, by simp, ht, by simp, by simpa using hr, grown_refl _ _⟩, ?_⟩
  rintro ⟨ls, R⟩ V ⟨i1, i2, i3, i4, i5, hrV, hgV⟩
  dsimp only at i1 i2 i3 i4 i5 hrV
  have hln : ls.flatten.length + R.length = L := by rw [hL, ← i5.length_eq, List.length_append]
  refine And.intro (fun h => ?_) (fun h => ?_)
  · have h : ((ls.flatten.length + 20 : Nat) : Int) ≤ L := of_decide_eq_true h
    obtain ⟨X, hX⟩ : ∃ X, X = R.take 20 := ⟨_, rfl⟩
    obtain ⟨Y, hY⟩ : ∃ Y, Y = R.drop 20 := ⟨_, rfl⟩
    have hXY : X ++ Y = R := by rw [hX, hY]; exact List.take_append_drop _ _
    have hXl : X.length = 20 := by rw [hX, List.length_take]; omega
    rw [← hXY] at hrV i4 i5 i3
    have i4' := List.pairwise_append.1 i4
    refine Calls.mono (insertion_c cp O Good g cap ls.flatten.length (ls.flatten.length + 20) L sp (fsts ls.flatten) (fsts Y) X V (hC.keep _ _ hG hgV) hC (by simpa [fsts] using hrV) i4'.1 (List.length_map _) (by simp only [fsts, List.length_map, List.length_append]; omega) (by rw [← hXY] at hln; simp only [fsts, List.length_map, List.length_append] at hln ⊢; omega) hl) ?_
    rintro e V2 ⟨⟨v, rfl⟩, ⟨S, q1, q2, q3⟩, hgV2⟩
    have hSl : S.length = 20 := by rw [q2.length_eq, hXl]
    have hfl : (ls ++ [S]).flatten = ls.flatten ++ S := by simp
    refine ⟨(ls.flatten.length + 20 + 20 : Nat), (wrap_i64 (by first | omega | (dsimp only; omega))).trans (by first | omega | (dsimp only; omega)), ?_⟩
    refine ⟨(ls ++ [S], Y), ⟨.cons rfl (.cons rfl (.cons rfl (.cons rfl (.cons (by dsimp only; rw [hfl, List.length_append, hSl]; rfl) (.cons (by dsimp only; rw [hfl, List.length_append, hSl]; rfl) .nil))))), rfl⟩, ⟨?_, ?_, ?_, i4'.2.1, ?_, ?_, grown_trans hgV hgV2⟩, ?_⟩
    · intro c hc
      rcases List.mem_append.1 hc with hc | hc
      · exact i1 c hc
      · simp at hc; rw [hc]; exact hSl
    · intro c hc
      rcases List.mem_append.1 hc with hc | hc
      · exact i2 c hc
      · simp at hc; rw [hc]; exact q1
    · have := cross_perm (cross_split i3 i4'.2.2) q2
      simpa using this
    · dsimp only; rw [hfl, List.append_assoc]
      exact (List.Perm.append_left _ (List.Perm.append_right _ q2)).trans i5
    · dsimp only; rw [hfl]; simpa [fsts] using q3
    · rw [← hXY]; simp; omega
  have h : ¬ ((ls.flatten.length + 20 : Nat) : Int) ≤ L := of_decide_eq_false h
  refine ⟨List (List (Tg Msg)) × List (Tg Msg), fun s => ⟨stEnv cp g cap L ++ [(6, .int .i64 20)], []⟩,
    fun s V => Bks O 20 s.1 s.2 ∧ (s.1.flatten ++ s.2).Perm xs ∧ RowM V g sp (fsts (s.1.flatten ++ s.2)) ∧ w.grownBy V (some g), ?_, ?_⟩
  · refine Calls.mono (insertion_c cp O Good g cap ls.flatten.length L L sp (fsts ls.flatten) [] R V (hC.keep _ _ hG hgV) hC (by simpa [fsts] using hrV) i4 (List.length_map _) (by simp only [fsts, List.length_map, List.length_append]; omega) (by simp only [fsts, List.length_map, List.length_append, List.length_nil]; omega) hl) ?_
    rintro e V2 ⟨⟨v, rfl⟩, ⟨S, q1, q2, q3⟩, hgV2⟩
    refine ⟨(ls, S), ⟨.cons rfl (.cons rfl (.cons rfl (.cons rfl .nil))), rfl⟩, ⟨i1, i2, by rw [q2.length_eq]; omega, q1, cross_perm i3 q2⟩, (List.Perm.append_left _ q2).trans i5, by simpa [fsts] using q3, grown_trans hgV hgV2⟩
  rintro ⟨ls, T⟩ V ⟨hB, hP, hrV, hgV⟩
  refine ⟨Nat × List (List (Tg Msg)) × List (Tg Msg), fun s => ⟨stEnv cp g cap L ++ [(6, .int .i64 s.1)], []⟩,
    fun s V => 0 < s.1 ∧ s.1 ≤ 2000000000 ∧ Bks O s.1 s.2.1 s.2.2 ∧ (s.2.1.flatten ++ s.2.2).Perm xs ∧ RowM V g sp (fsts (s.2.1.flatten ++ s.2.2)) ∧ w.grownBy V (some g), fun s => L - s.1, (20, ls, T),
    ⟨.cons rfl (.cons rfl (.cons rfl (.cons rfl .nil))), rfl⟩, ⟨by dsimp only; omega, by dsimp only; omega, hB, hP, hrV, hgV⟩, ?_⟩
  rintro ⟨bs, ls, T⟩ V ⟨hb0, hb1, hB, hP, hrV, hgV⟩
  dsimp only at hb0 hb1 hB hP hrV
  have hln : ls.flatten.length + T.length = L := by rw [hL, ← hP.length_eq, List.length_append]
  refine And.intro (fun h => ?_) (fun h => ?_)
  · have h : (bs : Int) < L := of_decide_eq_true h
    refine ⟨(2 * bs : Nat), (wrap_i64 (by first | omega | (dsimp only; omega))).trans (by first | omega | (dsimp only; omega)), ?_⟩
    refine ⟨List (List (Tg Msg)) × List (List (Tg Msg)), fun s => ⟨stEnv cp g cap L ++ [(6, .int .i64 bs), (7, .int .i64 s.1.flatten.length)], []⟩,
      fun s V => (∀ c ∈ s.1, c.length = 2 * bs) ∧ (∀ c ∈ s.1, Srt O c) ∧ (∀ c ∈ s.2, c.length = bs) ∧ (∀ c ∈ s.2, Srt O c) ∧ s.2.length ≤ 1 ∧ (s.1 ++ (s.2 ++ [T])).Pairwise Cross ∧
        (s.1.flatten ++ (s.2.flatten ++ T)).Perm xs ∧ RowM V g sp (fsts (s.1.flatten ++ (s.2.flatten ++ T))) ∧ w.grownBy V (some g), ?_, ?_⟩
    · refine ⟨List (List (Tg Msg)) × List (List (Tg Msg)), fun s => ⟨stEnv cp g cap L ++ [(6, .int .i64 bs), (7, .int .i64 s.1.flatten.length), (8, .int .i64 (s.1.flatten.length + 2 * bs : Nat))], []⟩,
        fun s V => (∀ c ∈ s.1, c.length = 2 * bs) ∧ (∀ c ∈ s.1, Srt O c) ∧ (∀ c ∈ s.2, c.length = bs) ∧ (∀ c ∈ s.2, Srt O c) ∧ (s.1 ++ (s.2 ++ [T])).Pairwise Cross ∧
          (s.1.flatten ++ (s.2.flatten ++ T)).Perm xs ∧ RowM V g sp (fsts (s.1.flatten ++ (s.2.flatten ++ T))) ∧ w.grownBy V (some g), fun s => s.2.length, ([], ls),
        ⟨.cons rfl (.cons rfl (.cons rfl (.cons rfl (.cons rfl (.cons (by dsimp only; rw [show (([] : List (List (Tg Msg))).flatten.length + 2 * bs) = 2 * bs from Nat.zero_add _]; rfl) .nil))))), rfl⟩, ⟨by simp, by simp, hB.len, hB.srt, by simpa using hB.cross, by simpa using hP, by simpa using hrV, hgV⟩, ?_⟩
      rintro ⟨ds, rs⟩ V ⟨i1, i2, i3, i4, i5, hP, hrV, hgV⟩
      dsimp only at i1 i2 i3 i4 i5 hP hrV
      have hlen : ds.flatten.length + (rs.flatten.length + T.length) = L := by rw [hL, ← hP.length_eq, List.length_append, List.length_append]
      refine And.intro (fun h => ?_) (fun h => ?_)
      · have h : ((ds.flatten.length + 2 * bs : Nat) : Int) ≤ L := of_decide_eq_true h
        have hTl := hB.last
        match rs, i3, i4, i5, hP, hrV, hlen with
        | [], _, _, _, _, _, hlen => simp only [List.flatten_cons, List.flatten_nil, List.append_nil, List.length_nil] at hlen; omega
        | [c], i3, _, _, _, _, hlen => have := i3 c (by simp); simp only [List.flatten_cons, List.flatten_nil, List.append_nil, List.length_nil] at hlen; omega
        | c1 :: c2 :: rs, i3, i4, i5, hP, hrV, hlen =>
          have l1 := i3 c1 (by simp)
          have l2 := i3 c2 (by simp)
          have e1 : ds.flatten ++ ((c1 :: c2 :: rs).flatten ++ T) = ds.flatten ++ c1 ++ c2 ++ (rs.flatten ++ T) := by simp
          simp only [List.flatten_cons, List.length_append] at hlen
          rw [e1] at hrV hP
          refine ⟨(ds.flatten.length + bs : Nat), (wrap_i64 (by first | omega | (dsimp only; omega))).trans (by first | omega | (dsimp only; omega)), ?_⟩
          refine Calls.mono (sym_c cp O Good g cap L sp hC hl (c1.length + c2.length) ds.flatten.length (ds.flatten.length + bs) (ds.flatten.length + 2 * bs) (fsts ds.flatten) (fsts (rs.flatten ++ T)) c1 c2 V (Nat.le_refl _) (by omega) (by omega) (hC.keep _ _ hG hgV)
            (by simpa [fsts] using hrV) (i4 c1 (by simp)) (i4 c2 (by simp)) (cross_mid (P := ds) (Q := rs ++ [T]) (by simpa using i5)) (List.length_map _) (by simp only [fsts, List.length_map, List.length_append]; omega) (by simp only [fsts, List.length_map, List.length_append]; omega) (by simp only [fsts, List.length_map, List.length_append, List.length_nil]; omega)) ?_
          rintro e V2 ⟨⟨v, rfl⟩, ⟨S, q1, q2, q3⟩, hgV2⟩
          have hSl : S.length = 2 * bs := by rw [q2.length_eq, List.length_append]; omega
          have hfl : (ds ++ [S]).flatten = ds.flatten ++ S := by simp
          refine ⟨(2 * bs : Nat), (wrap_i64 (by first | omega | (dsimp only; omega))).trans (by first | omega | (dsimp only; omega)), ?_⟩
          refine ⟨(ds.flatten.length + 2 * bs + 2 * bs : Nat), (wrap_i64 (by first | omega | (dsimp only; omega))).trans (by first | omega | (dsimp only; omega)), ?_⟩
          refine ⟨(ds ++ [S], rs), ⟨.cons rfl (.cons rfl (.cons rfl (.cons rfl (.cons (by dsimp only; rw [hfl, List.length_append, hSl]; rfl) (.cons (by dsimp only; rw [hfl, List.length_append, hSl]; rfl) .nil))))), rfl⟩,
            ⟨?_, ?_, fun c hc => i3 c (by simp [hc]), fun c hc => i4 c (by simp [hc]), ?_, ?_, ?_, grown_trans hgV hgV2⟩, by dsimp only; simp only [List.length_cons]; omega⟩
          · intro c hc
            rcases List.mem_append.1 hc with hc | hc
            · exact i1 c hc
            · simp at hc; rw [hc]; exact hSl
          · intro c hc
            rcases List.mem_append.1 hc with hc | hc
            · exact i2 c hc
            · simp at hc; rw [hc]; exact q1
          · have := cross_swap (P := ds) (Q := rs ++ [T]) (by simpa using i5) q2
            simpa using this
          · dsimp only; rw [hfl]
            refine List.Perm.trans ?_ hP
            rw [List.append_assoc, List.append_assoc, List.append_assoc, ← List.append_assoc c1]
            exact List.Perm.append_left _ (List.Perm.append_right _ q2)
          · dsimp only; rw [hfl]; simpa [fsts] using q3
      · have h : ¬ ((ds.flatten.length + 2 * bs : Nat) : Int) ≤ L := of_decide_eq_false h
        refine ⟨(ds, rs), ⟨.cons rfl (.cons rfl (.cons rfl (.cons rfl (.cons rfl .nil)))), rfl⟩, i1, i2, i3, i4, ?_, i5, hP, hrV, hgV⟩
        match rs, i3, hlen with
        | [], _, _ => simp
        | [c], _, _ => simp
        | c1 :: c2 :: rs, i3, hlen =>
          have l1 := i3 c1 (by simp)
          have l2 := i3 c2 (by simp)
          simp only [List.flatten_cons, List.length_append] at hlen
          omega
    rintro ⟨ds, rs⟩ V ⟨i1, i2, i3, i4, i6, i5, hP, hrV, hgV⟩
    dsimp only at i1 i2 i3 i4 i5 i6 hP hrV
    have hlen : ds.flatten.length + (rs.flatten.length + T.length) = L := by rw [hL, ← hP.length_eq, List.length_append, List.length_append]
    have hTl := hB.last
    refine ⟨List (Tg Msg), fun _ => ⟨stEnv cp g cap L ++ [(6, .int .i64 bs)], []⟩,
      fun T' V => Bks O (2 * bs) ds T' ∧ (ds.flatten ++ T').Perm xs ∧ RowM V g sp (fsts (ds.flatten ++ T')) ∧ w.grownBy V (some g), ?_, ?_⟩
    rotate_left
    · rintro T' V ⟨hB', hP', hrV', hgV'⟩
      refine ⟨(2 * bs : Nat), (wrap_i64 (by first | omega | (dsimp only; omega))).trans (by first | omega | (dsimp only; omega)), ?_⟩
      exact ⟨(2 * bs, ds, T'), ⟨.cons rfl (.cons rfl (.cons rfl (.cons rfl .nil))), rfl⟩, ⟨by dsimp only; omega, by dsimp only; omega, hB', hP', hrV', hgV'⟩, by dsimp only; omega⟩
    refine ⟨(ds.flatten.length + bs : Nat), (wrap_i64 (by first | omega | (dsimp only; omega))).trans (by first | omega | (dsimp only; omega)), ?_⟩
    refine And.intro (fun h => ?_) (fun h => ?_)
    · have h : ((ds.flatten.length + bs : Nat) : Int) < L := of_decide_eq_true h
      match rs, i3, i4, i5, hP, hrV, hlen with
      | [], _, _, _, _, _, hlen => simp only [List.flatten_cons, List.flatten_nil, List.append_nil, List.length_nil] at hlen; omega
      | c1 :: c2 :: rs, _, _, _, _, _, _ => simp at i6
      | [c], i3, i4, i5, hP, hrV, hlen =>
        have l1 := i3 c (by simp)
        have e1 : ds.flatten ++ ([c].flatten ++ T) = ds.flatten ++ c ++ T := by simp
        simp only [List.flatten_cons, List.flatten_nil, List.append_nil] at hlen
        rw [e1] at hrV hP
        refine Calls.mono (sym_c cp O Good g cap L sp hC hl (c.length + T.length) ds.flatten.length (ds.flatten.length + bs) L (fsts ds.flatten) [] c T V (Nat.le_refl _) (by omega) (by omega) (hC.keep _ _ hG hgV)
          (by simpa [fsts] using hrV) (i4 c (by simp)) hB.slast (cross_mid (P := ds) (Q := []) (by simpa using i5)) (List.length_map _) (by simp only [fsts, List.length_map, List.length_append]; omega) (by simp only [fsts, List.length_map, List.length_append]; omega) (by simp only [fsts, List.length_map, List.length_append, List.length_nil]; omega)) ?_
        rintro e V2 ⟨⟨v, rfl⟩, ⟨S, q1, q2, q3⟩, hgV2⟩
        refine ⟨S, ⟨.cons rfl (.cons rfl (.cons rfl (.cons rfl .nil))), rfl⟩, ⟨i1, i2, by rw [q2.length_eq, List.length_append]; omega, q1, cross_swap (P := ds) (Q := []) (by simpa using i5) q2⟩, ?_, by simpa [fsts] using q3, grown_trans hgV hgV2⟩
        refine List.Perm.trans ?_ hP
        rw [List.append_assoc]
        exact List.Perm.append_left _ q2
    · have h : ¬ ((ds.flatten.length + bs : Nat) : Int) < L := of_decide_eq_false h
      match rs, i3, i4, i5, hP, hrV, hlen with
      | c1 :: c2 :: rs, _, _, _, _, _, _ => simp at i6
      | [], _, _, i5, hP, hrV, hlen =>
        exact ⟨T, ⟨.cons rfl (.cons rfl (.cons rfl (.cons rfl .nil))), rfl⟩, ⟨i1, i2, by omega, hB.slast, by simpa using i5⟩, by simpa using hP, by simpa using hrV, hgV⟩
      | [c], i3, i4, i5, hP, hrV, hlen =>
        have l1 := i3 c (by simp)
        simp only [List.flatten_cons, List.flatten_nil, List.append_nil] at hlen
        have hT : T = [] := List.eq_nil_of_length_eq_zero (by omega)
        refine ⟨c, ⟨.cons rfl (.cons rfl (.cons rfl (.cons rfl .nil))), rfl⟩, ⟨i1, i2, by omega, i4 c (by simp), ?_⟩, by simpa [hT] using hP, by simpa [hT] using hrV, hgV⟩
        have := cross_swap (P := ds) (Q := []) (c1 := c) (c2 := T) (S := c) (by simpa using i5) (by rw [hT, List.append_nil])
        exact this
  · have h : ¬ (bs : Int) < L := of_decide_eq_false h
    have hTl := hB.last
    refine And.intro ⟨_, rfl⟩ (And.intro ?_ hgV)
    match ls, hB, hP, hrV, hln with
    | [], hB, hP, hrV, hln => exact ⟨T, hB.slast, by simpa using hP, by simpa using hrV⟩
    | [c], hB, hP, hrV, hln =>
      have l1 := hB.len c (by simp)
      simp only [List.flatten_cons, List.flatten_nil, List.append_nil] at hln
      have hT : T = [] := List.eq_nil_of_length_eq_zero (by omega)
      exact ⟨c, hB.srt c (by simp), by simpa [hT] using hP, by simpa [hT] using hrV⟩
    | c1 :: c2 :: rs, hB, hP, hrV, hln =>
      have l1 := hB.len c1 (by simp)
      have l2 := hB.len c2 (by simp)
      simp only [List.flatten_cons, List.length_append] at hln
      omega

theorem sortStable_c (cp : Array Value) (O : MOrd Msg) (Good : World → Prop) (g cap L : Nat) (sp : List Value) (xs : List (Tg Msg)) (w : World) (hC : CmpOk cp O g Good) (hl : L ≤ 1000000000) (hG : Good w)
    (hr : RowM w g sp (fsts xs)) (ht : xs.Pairwise (fun x y => x.2 < y.2)) (hL : L = xs.length) :
    Calls Tryz.prog 101 #[.slice (some ⟨g, 0, none⟩) L cap, .func (.func 102) #[] cp] w
      fun e w' => (∃ v, e = .returned v) ∧ (∃ ys, Srt O ys ∧ ys.Perm xs ∧ RowM w' g sp (fsts ys)) ∧ w.grownBy w' (some g) := by
  refine calls_of_E (S := sg 9) (sgOk _) (args := [.slice (some ⟨g, 0, none⟩) L cap, .func (.func 102) #[] cp]) Tryz.func101 rfl rfl (Nat.le_of_ble_eq_true rfl) rfl ?_
  refine Calls.mono (stable_c cp O Good g cap L sp xs w hC hl hG hr ht hL) ?_
  rintro e V ⟨⟨v, rfl⟩, h1, h2⟩
  exact And.intro ⟨_, rfl⟩ (And.intro h1 h2)
end Go.Proofs.YthgmcegmgjoafaaGreatDoor
namespace Go.Proofs.YthgmcegmgjoafaaGreatDoor
open Go.Vc Go.RowKit Go.Sei

theorem isNaN_c (x : UInt8) (w : World) : Calls Tryz.prog 202 #[u8 x] w fun e w' => e = .returned (.bool false) ∧ w = w' := by
  refine calls_of_E (S := sg 6) (sgOk _) (args := [u8 x]) Tryz.func202 rfl rfl (Nat.le_of_ble_eq_true rfl) rfl ?_
  exact And.intro (rb (by simp)) rfl

theorem Compare8_c (x y : UInt8) (w : World) : Calls Tryz.prog 165 #[u8 x, u8 y] w fun e w' => e = .returned (.int .i64 (cmp8 x y)) ∧ w = w' := by
  refine calls_of_E (S := sg 20) (sgOk _) (args := [u8 x, u8 y]) Tryz.func165 rfl rfl (Nat.le_of_ble_eq_true rfl) rfl ?_
  refine Calls.mono (isNaN_c x w) ?_
  rintro e w' ⟨rfl, rfl⟩
  refine Calls.mono (isNaN_c y w) ?_
  rintro e w' ⟨rfl, rfl⟩
  refine And.intro (fun h => by cases h) (fun _ => ?_)
  refine And.intro (fun h => by cases h) (fun _ => ?_)
  refine And.intro (fun h => ?_) (fun h => ?_)
  · have h : (x.toNat : Int) < y.toNat := of_decide_eq_true h
    exact And.intro (ri (by unfold cmp8; rw [if_pos (by omega)])) rfl
  · have h : ¬ (x.toNat : Int) < y.toNat := of_decide_eq_false h
    refine And.intro (fun h2 => ?_) (fun h2 => ?_)
    · have h2 : (y.toNat : Int) < x.toNat := of_decide_eq_true h2
      exact And.intro (ri (by unfold cmp8; rw [if_neg (by omega), if_pos (by omega)])) rfl
    · have h2 : ¬ (y.toNat : Int) < x.toNat := of_decide_eq_false h2
      exact And.intro (ri (by unfold cmp8; rw [if_neg (by omega), if_neg (by omega)])) rfl

theorem CompareL_c (p1 p2 : Option Addr) (cap1 cap2 : Nat) (l1 l2 : List UInt8) (w : World) (h1 : SlR byteE w p1 l1) (h2 : SlR byteE w p2 l2) (hn : l1.length ≤ 1000000000) :
    Calls Tryz.prog 103 #[.slice p1 l1.length cap1, .slice p2 l2.length cap2] w fun e w' => e = .returned (.int .i64 (cmpL l1 l2)) ∧ w = w' := by
  refine calls_of_E (S := sg 36) (sgOk _) (args := [.slice p1 l1.length cap1, .slice p2 l2.length cap2]) Tryz.func103 rfl rfl (Nat.le_of_ble_eq_true rfl) rfl ?_
  refine ⟨Nat, fun k => ⟨[(0, .slice p1 l1.length cap1), (1, .slice p2 l2.length cap2), (4, .int .i64 0), (9, .slice p1 l1.length cap1), (10, .int .i64 l1.length), (11, .int .i64 (k : Nat))], []⟩,
    fun k X => k ≤ l1.length ∧ k ≤ l2.length ∧ X = w ∧ l1.take k = l2.take k, fun k => l1.length - k, 0, ⟨.cons rfl (.cons rfl (.cons rfl (.cons rfl (.cons rfl (.cons rfl .nil))))), rfl⟩, ⟨Nat.zero_le _, Nat.zero_le _, rfl, by simp⟩, ?_⟩
  rintro k X ⟨hk, hk2, rfl, hm⟩
  have hcd := cmpL_drop l1 l2 k hk hk2 hm
  refine And.intro (fun h => ?_) (fun h => ?_)
  · have h : (k : Int) < l1.length := of_decide_eq_true h
    have hkl : k < l1.length := by omega
    have hd1 : l1.drop k = l1[k] :: l1.drop (k + 1) := List.drop_eq_getElem_cons hkl
    obtain ⟨b1, o1, rfl, hb1, hc1⟩ := byte_at h1 hkl
    refine ⟨k, rfl, hkl, ?_⟩
    refine ⟨_, hc1, ?_⟩
    refine And.intro (fun h => ?_) (fun h => ?_)
    · have h : (l2.length : Int) ≤ k := of_decide_eq_true h
      refine And.intro (ri ?_) rfl
      have hd2 : l2.drop k = [] := List.drop_of_length_le (by omega)
      rw [hcd, hd1, hd2]; rfl
    · have h : ¬ (l2.length : Int) ≤ k := of_decide_eq_false h
      have hkl2 : k < l2.length := by omega
      have hd2 : l2.drop k = l2[k] :: l2.drop (k + 1) := List.drop_eq_getElem_cons hkl2
      obtain ⟨b2, o2, rfl, hb2, hc2⟩ := byte_at h2 hkl2
      refine ⟨k, rfl, hkl2, ?_⟩
      refine ⟨_, hc2, ?_⟩
      refine Calls.mono (Compare8_c l1[k] l2[k] X) ?_
      rintro e w' ⟨rfl, rfl⟩
      refine And.intro (fun h => ?_) (fun h => ?_)
      · have h : ¬ cmp8 l1[k] l2[k] = 0 := by simpa using h
        have hne : l1[k] ≠ l2[k] := fun e => h (by rw [e]; exact cmp8_self _)
        refine And.intro (ri ?_) rfl
        rw [hcd, hd1, hd2, cmpL, if_neg hne]
      · have h : cmp8 l1[k] l2[k] = 0 := by simpa using h
        have he : l1[k] = l2[k] := Decidable.byContradiction fun hne => cmp8_ne hne h
        refine ⟨(k + 1 : Nat), (wrap_i64 (by omega)).trans (by omega), ?_⟩
        refine ⟨k + 1, ⟨.cons rfl (.cons rfl (.cons rfl (.cons rfl (.cons rfl (.cons rfl .nil))))), rfl⟩, ⟨hkl, hkl2, rfl, ?_⟩, by dsimp only; omega⟩
        rw [List.take_succ_eq_append_getElem hkl, List.take_succ_eq_append_getElem hkl2, hm, he]
  · have h : ¬ (k : Int) < l1.length := of_decide_eq_false h
    refine And.intro (fun h2 => ?_) (fun h2 => ?_)
    · have h2 : (l1.length : Int) < l2.length := of_decide_eq_true h2
      refine And.intro (ri ?_) rfl
      have hd1 : l1.drop k = [] := List.drop_of_length_le (by omega)
      have hd2 : l2.drop k = l2[k] :: l2.drop (k + 1) := List.drop_eq_getElem_cons (by omega)
      rw [hcd, hd1, hd2]; rfl
    · have h2 : ¬ (l1.length : Int) < l2.length := of_decide_eq_false h2
      refine And.intro (ri ?_) rfl
      have hd1 : l1.drop k = [] := List.drop_of_length_le (by omega)
      have hd2 : l2.drop k = [] := List.drop_of_length_le (by omega)
      rw [hcd, hd1, hd2]; rfl
end Go.Proofs.YthgmcegmgjoafaaGreatDoor
