/- The law MsgOnly: what it computes. -/
import Derived.Test.YtoifcihikokpfaaDoorMr1
import Derived.Test.YtoifcihikokpfaaDoorMg9
import Derived.Test.YtoifcihikokpfaaDoorVcJ
namespace Go.Proofs.YtoifcihikokpfaaDoor
open Go.Vc Go.RowKit Go.Sei

theorem readL_ok {l : List UInt8} (h : (readL l).2 = true) : codeOf (readL l).1 = l := by
  unfold readL at h ⊢
  split
  · rename_i b0 b1 b2 b3 b4 b5 b6 b7 b8 b9 b10
    split
    · rename_i h6
      have : (if b6 = 1 then (1 : UInt8) else 0) = b6 := by
        have h3 : b6.toNat = 0 ∨ b6.toNat = 1 := by omega
        rcases h3 with h3 | h3
        · have : b6 = 0 := UInt8.toNat_inj.1 h3
          subst this; rfl
        · have : b6 = 1 := UInt8.toNat_inj.1 h3
          subst this; rfl
      simp only [codeOf, decide_eq_true_eq, this]
    · simp_all
  · simp_all
theorem readL_no {l : List UInt8} (h : (readL l).2 = false) : (readL l).1 = zeroM := by
  unfold readL at h ⊢
  split
  · split
    · simp_all
    · rfl
  · rfl
theorem parseL_ok {s : List UInt8} (h : (parseL s).2 = 0) : textOf (parseL s).1 = s := by
  unfold parseL at h ⊢
  split
  · rename_i hh; exact hh.2
  · rename_i hh; rw [if_neg hh] at h; simp at h
theorem parseL_no {s : List UInt8} (h : (parseL s).2 ≠ 0) : (parseL s).1 = zeroM ∧ (parseL s).2 = 170 := by
  unfold parseL at h ⊢
  split
  · rename_i hh; rw [if_pos hh] at h; simp at h
  · exact ⟨rfl, rfl⟩
theorem conv_arg {w : World} {p : Option Addr} {cap : Nat} {l : List UInt8} (h : SlR byteE w p l) (w2 : World) (hb : Below w.heap.size w w2) :
    (convert 22 9 (.slice p l.length cap)).run Tryd.prog w2 = .ok (strV l) w2 := by
  have h2 := h.below hb
  cases p with
  | none =>
    have hl : l = [] := h2.none
    subst hl
    exact run_convert_bytes_nil (P := Tryd.prog) (w := w2) 22 5 Tryd.underlying22 Tryd.underlying5 0 cap 9 Tryd.underlying9
  | some a =>
    cases l with
    | nil =>
      obtain ⟨b, o, f⟩ := a
      have := run_convert_bytes_string w2 22 9 5 (some ⟨b, o, f⟩) 0 cap Tryd.underlying22 Tryd.underlying5 Tryd.underlying9
      rw [show ([] : List UInt8).length = 0 from rfl, this]
      rfl
    | cons x r =>
      obtain ⟨b, o, hp, hbk, hcl⟩ := h2.at (i := 0) (by simp)
      obtain rfl := Option.some.inj hp
      have := run_convert_bytes_arg (P := Tryd.prog) w2 22 5 Tryd.underlying22 Tryd.underlying5 b o (x :: r).length cap ((x :: r).map fun b => (b.toNat : Int)) (by simp) (fun i hi => by
        have h3 : w2.cell? ⟨b, o + i * 1, none⟩ = some (u8 ((x :: r)[i]'hi)) := cells_head (hcl i hi)
        rw [Nat.mul_one] at h3
        have h4 : ((x :: r).map fun b => (b.toNat : Int)).getD i 0 = (((x :: r)[i]'hi).toNat : Int) := by
          rw [List.getD_eq_getElem?_getD, List.getElem?_map, List.getElem?_eq_getElem hi]; rfl
        rw [h3, h4]; rfl) 9 Tryd.underlying9
      rw [this, strOfNums_u8]; rfl
theorem msgOnly_c (p : Option Addr) (cap : Nat) (l s : List UInt8) (w : World) (hl : SlR byteE w p l) (hc : l.length ≤ cap) (hg : GlobM w) : Calls Tryd.prog 3 #[.slice p l.length cap, strV s] w fun e w' => e = .returned (.bool true) ∧ Below w.heap.size w w' := by
  refine calls_of_M (S := sg 60) (sgOk _) (args := [.slice p l.length cap, strV s]) (.s .p (.c .p (.c .p (.s .p (.c .p (.c .p .p)))))) Tryd.func3 rfl rfl (Nat.le_of_ble_eq_true rfl) rfl ?_
  refine ⟨Unit, fun _ => ⟨[(0, .slice p l.length cap), (1, strV s)], []⟩, fun _ V => Below w.heap.size w V, ?_, ?_⟩
  · refine Calls.mono (awake_c w hg) ?_
    rintro e V ⟨rfl, hb⟩
    refine And.intro (fun h => by cases h) (fun _ => ?_)
    exact ⟨(), ⟨.cons rfl (.cons rfl .nil), rfl⟩, hb⟩
  rintro _ V hb
  refine ⟨Unit, fun _ => ⟨[(0, .slice p l.length cap), (1, strV s)], []⟩, fun _ X => V = X ∧ s.length ≤ 1000, ?_, ?_⟩
  · refine And.intro (fun h1 => ?_) (fun h1 => ?_)
    · refine And.intro (fun _ => ?_) (fun h => by cases h)
      exact And.intro rfl hb
    · refine And.intro (fun h2 => ?_) (fun h2 => ?_)
      · exact And.intro rfl hb
      · have h2 : ¬ (1000 : Int) < ((bs s).size : Nat) := of_decide_eq_false h2
        have e2 : (bs s).size = s.length := rfl
        exact ⟨(), ⟨.cons rfl (.cons rfl .nil), rfl⟩, rfl, by omega⟩
  rintro _ X ⟨rfl, hs⟩
  have hl1 := hl.below hb
  refine Calls.mono (Read_c p cap l V hl1 hc) ?_
  rintro e X1 ⟨rfl, hb1⟩
  have hw1 := hb.trans (hb1.mono hb.size)
  refine store_new (X := X1) (v := (readL l).1.val) (ttOk.get 27 _ rfl) (by rfl) rfl (by rfl) fun Y hbY fY sY => ?_
  have hwY := hw1.trans (hbY.mono hw1.size)
  refine ⟨Nat × Nat, fun g => ⟨[(0, .slice p l.length cap), (1, strV s), (5, .pointer (some ⟨g.1, 0, none⟩)), (6, .bool (readL l).2), (7, .pointer (some ⟨g.2, 0, none⟩)), (8, .int .i64 (parseL s).2)], []⟩,
    fun g V => V.heap[g.1]? = some (.cells (readL l).1.val.cells 27 (0, 0)) ∧ V.heap[g.2]? = some (.cells (parseL s).1.val.cells 27 (0, 0)) ∧ Below w.heap.size w V, ?_, ?_⟩
  · refine Calls.mono (Parse_c s (by omega) Y (hg.below hwY)) ?_
    rintro e X2 ⟨rfl, hb2⟩
    have hw2 := hwY.trans (hb2.mono hwY.size)
    refine store_new (X := X2) (v := (parseL s).1.val) (ttOk.get 27 _ rfl) (by rfl) rfl (by rfl) fun Z hbZ fZ sZ => ?_
    exact ⟨(_, _), ⟨.cons rfl (.cons rfl (.cons rfl (.cons rfl (.cons rfl (.cons rfl .nil))))), rfl⟩, block_below hbZ (block_below hb2 fY), fZ, hw2.trans (hbZ.mono hw2.size)⟩
  clear hb hb1 hl1 hw1 hbY fY sY hwY
  rintro ⟨g1, g2⟩ V ⟨f1, f2, hb⟩
  dsimp only at f1 f2
  refine ⟨Unit, fun _ => ⟨[(0, .slice p l.length cap), (1, strV s), (7, .pointer (some ⟨g2, 0, none⟩)), (8, .int .i64 (parseL s).2)], []⟩, fun _ V => V.heap[g2]? = some (.cells (parseL s).1.val.cells 27 (0, 0)) ∧ Below w.heap.size w V, ?_, ?_⟩
  · refine DrawE.ord [] [0, 1, 2, 5, 6, 3, 4, 7, 8, 9, 10, 11, 12, 13, 14, 15, 16, 17] (by kernel_rfl) ?_
    cases hr : (readL l).2 with
    | true =>
      refine And.intro (fun _ => ?_) (fun h => by cases h)
      refine ⟨(readL l).1.enc, rfl, cells_block (hdr f1), hlt (hdr f1), ?_⟩
      refine ⟨_, fun w2 hb2 => conv_arg (hl.below hb.drew) w2 hb2, ?_⟩
      refine Calls.mono (Bytes_c (readL l).1 V.drew) ?_
      rintro e X ⟨k, rfl, fk, _, hb2⟩
      refine ⟨hb2, ?_⟩
      refine ⟨_, fun w2 hb => conv_str (l := codeOf (readL l).1) fk rfl w2 hb, ?_⟩
      refine ⟨_, fun w => neq_str _ _ (codeOf (readL l).1) l w, ?_⟩
      have hne : (!decide (codeOf (readL l).1 = l)) = false := by simp [readL_ok hr]
      rw [hne]
      refine And.intro (fun h => by cases h) (fun _ => ?_)
      refine And.intro (fun h => by cases h) (fun _ => ?_)
      refine And.intro (fun h => by cases h) (fun _ => ?_)
      exact ⟨(), ⟨.cons rfl (.cons rfl (.cons rfl (.cons rfl .nil))), rfl⟩, block_below hb2 (hdr f2), hb.drew.trans (hb2.mono hb.size)⟩
    | false =>
      refine And.intro (fun h => by cases h) (fun _ => ?_)
      refine And.intro (fun h => by cases h) (fun _ => ?_)
      refine And.intro (fun _ => ?_) (fun h => by cases h)
      refine ⟨(readL l).1.enc, rfl, cells_block (hdr f1), hlt (hdr f1), ?_⟩
      refine ⟨zeroM.enc, rfl, ?_⟩
      refine ⟨_, fun w => neq_msg _ _ (readL l).1 zeroM w, ?_⟩
      have hne : (!decide ((readL l).1 = zeroM)) = false := by simp [readL_no hr]
      rw [hne]
      refine And.intro (fun h => by cases h) (fun _ => ?_)
      exact ⟨(), ⟨.cons rfl (.cons rfl (.cons rfl (.cons rfl .nil))), rfl⟩, hdr f2, hb.drew⟩
  rintro _ X ⟨k2, hX⟩
  refine And.intro (fun h => ?_) (fun h => ?_)
  · have h : (!decide ((parseL s).2 = 0)) = true := h
    have h : (parseL s).2 ≠ 0 := by simpa using h
    obtain ⟨e1, e2⟩ := parseL_no h
    rw [e1] at k2
    rw [e2]
    refine And.intro (fun _ => ?_) (fun h => by cases h)
    refine ⟨zeroM.enc, rfl, cells_block k2, hlt k2, ?_⟩
    refine ⟨zeroM.enc, rfl, ?_⟩
    refine ⟨_, fun w => eql_msg _ _ zeroM zeroM w, ?_⟩
    exact And.intro (rb (by simp)) hX
  · have h : (!decide ((parseL s).2 = 0)) = false := h
    have h : (parseL s).2 = 0 := by simpa using h
    refine ⟨(parseL s).1.enc, rfl, cells_block k2, hlt k2, ?_⟩
    refine Calls.mono (Text_c (parseL s).1 X (hg.below hX)) ?_
    rintro e Y ⟨rfl, hbY⟩
    refine ⟨_, fun w => eql_str _ _ (textOf (parseL s).1) s w, ?_⟩
    exact And.intro (rb (by simp [parseL_ok h])) (hX.trans (hbY.mono hX.size))
end Go.Proofs.YtoifcihikokpfaaDoor
