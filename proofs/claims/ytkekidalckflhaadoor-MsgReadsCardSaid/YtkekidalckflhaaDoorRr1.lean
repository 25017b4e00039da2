/- The law MsgReads: what it computes. -/
import Derived.Test.YtkekidalckflhaaDoorRf5
import Derived.Test.YtkekidalckflhaaDoorVcL
import Derived.Test.YtkekidalckflhaaDoorMb0
namespace Go.Proofs.YtkekidalckflhaaDoor
open Go.Vc Go.RowKit Go.Sei

theorem reads_c (p : Option Addr) (cap : Nat) (l s : List UInt8) (w : World) (hl : SlR byteE w p l) (hc : l.length ≤ cap) (hs : s.length ≤ 1000) (hg : GlobM w) :
    Calls Tryd.prog 6 #[.slice p l.length cap, strV s] w fun e w' => e = .returned (.bool true) ∧ Below w.heap.size w w' := by
  refine calls_of_M (S := sg 51) (sgOk _) (args := [.slice p l.length cap, strV s]) (.s .p (.s .p (.s .p (.s .p (.c .p .p))))) Tryd.func6 rfl rfl (Nat.le_of_ble_eq_true rfl) rfl ?_
  refine Calls.mono (Read_c p cap l w hl hc) ?_
  rintro e V ⟨rfl, hb⟩
  refine store_new (X := V) (v := (readL l).1.val) (ttOk.get 30 _ rfl) (by rfl) rfl (by rfl) fun V1 hb1 f1 s1 => ?_
  have h1 := hb.trans (hb1.mono hb.size)
  refine Calls.mono (ReadR_c p cap l V1 (hl.below h1) hc) ?_
  rintro e V2 ⟨rfl, hb2⟩
  have h2 := h1.trans (hb2.mono h1.size)
  refine store_new (X := V2) (v := (readL l).1.val) (ttOk.get 30 _ rfl) (by rfl) rfl (by rfl) fun V3 hb3 f3 s3 => ?_
  have h3 := h2.trans (hb3.mono h2.size)
  have k1 := block_below hb3 (block_below hb2 f1)
  refine Calls.mono (Parse_c s (by omega) V3 (hg.below h3)) ?_
  rintro e V4 ⟨rfl, hb4⟩
  have h4 := h3.trans (hb4.mono h3.size)
  refine store_new (X := V4) (v := (parseL s).1.val) (ttOk.get 30 _ rfl) (by rfl) rfl (by rfl) fun V5 hb5 f5 s5 => ?_
  have h5 := h4.trans (hb5.mono h4.size)
  have m1 := block_below hb5 (block_below hb4 k1)
  have m3 := block_below hb5 (block_below hb4 f3)
  refine ⟨Nat × Nat × Nat × Nat, fun t => ⟨[(5, .pointer (some ⟨t.1, 0, none⟩)), (6, .bool (readL l).2), (7, .pointer (some ⟨t.2.1, 0, none⟩)), (8, .bool (readL l).2), (9, .pointer (some ⟨t.2.2.1, 0, none⟩)), (10, .int .i64 (parseL s).2), (11, .pointer (some ⟨t.2.2.2, 0, none⟩)), (12, .int .i64 (parseL s).2)], []⟩,
    fun t V => V.heap[t.1]? = some (.cells (readL l).1.val.cells 30 (0, 0)) ∧ V.heap[t.2.1]? = some (.cells (readL l).1.val.cells 30 (0, 0)) ∧ V.heap[t.2.2.1]? = some (.cells (parseL s).1.val.cells 30 (0, 0)) ∧ V.heap[t.2.2.2]? = some (.cells (parseL s).1.val.cells 30 (0, 0)) ∧ Below w.heap.size w V, ?_, ?_⟩
  · refine Calls.mono (ParseR_c s hs V5) ?_
    rintro e V6 ⟨rfl, hb6⟩
    rw [parse_same]
    have h6 := h5.trans (hb6.mono h5.size)
    refine store_new (X := V6) (v := (parseL s).1.val) (ttOk.get 30 _ rfl) (by rfl) rfl (by rfl) fun V7 hb7 f7 s7 => ?_
    exact ⟨(_, _, _, _), ⟨.cons rfl (.cons rfl (.cons rfl (.cons rfl (.cons rfl (.cons rfl (.cons rfl (.cons rfl .nil))))))), rfl⟩, block_below hb7 (block_below hb6 m1), block_below hb7 (block_below hb6 m3), block_below hb7 (block_below hb6 f5), f7, h6.trans (hb7.mono h6.size)⟩
  clear m1 m3 h5 f5 s5 hb5 h4 hb4 k1 h3 hb3 f3 s3 h2 hb2 h1 hb1 f1 s1 hb
  rintro ⟨a1, a2, a3, a4⟩ X ⟨k1, k2, k3, k4, hb⟩
  dsimp only at k1 k2 k3 k4
  refine ⟨(readL l).1.enc, rfl, cells_block k1, hlt k1, ?_⟩
  refine ⟨(readL l).1.enc, rfl, cells_block k2, hlt k2, ?_⟩
  refine ⟨_, fun w => eql_msg _ _ (readL l).1 (readL l).1 w, ?_⟩
  refine And.intro (fun _ => ?_) (fun h => absurd h (by simp))
  refine ⟨_, fun w => eql_bool _ _ (readL l).2 (readL l).2 w, ?_⟩
  rw [show decide ((readL l).2 = (readL l).2) = true by simp]
  refine And.intro (fun _ => ?_) (fun h => by cases h)
  refine ⟨(parseL s).1.enc, rfl, cells_block k3, hlt k3, ?_⟩
  refine ⟨(parseL s).1.enc, rfl, cells_block k4, hlt k4, ?_⟩
  refine ⟨_, fun w => eql_msg _ _ (parseL s).1 (parseL s).1 w, ?_⟩
  rw [show decide ((parseL s).1 = (parseL s).1) = true by simp]
  refine And.intro (fun _ => ?_) (fun h => by cases h)
  exact And.intro (rb (decide_eq_true rfl)) hb

theorem OwnS.empty {α : Type} {E : Enc α} {T B g : Nat} {w : World} (h : w.heap[g]? = some (.cells #[] T (0, 0))) (hB : B ≤ g) : OwnS E T B w (some ⟨g, 0, none⟩) 0 [] :=
  ⟨by simp, .inr ⟨g, 0, #[], rfl, hB, h, Nat.le_refl _, by unfold maxLen; decide, by simp, by simp⟩⟩

theorem msgReads_c (p : Option Addr) (cap : Nat) (l s : List UInt8) (w : World) (hl : SlR byteE w p l) (_hc : l.length ≤ cap) (hk : p = none → cap = 0) (hg : GlobM w) :
    Calls Tryd.prog 3 #[.slice p l.length cap, strV s] w fun e w' => e = .returned (.bool true) ∧ Below w.heap.size w w' := by
  refine calls_of_M (S := sg 31) (sgOk _) (args := [.slice p l.length cap, strV s]) (.s .p (.c .p (.c .p .p))) Tryd.func3 rfl rfl (Nat.le_of_ble_eq_true rfl) rfl ?_
  refine ⟨Unit, fun _ => ⟨[(0, .slice p l.length cap), (1, strV s)], []⟩, fun _ V => w = V ∧ l.length ≤ 1000 ∧ s.length ≤ 1000, ?_, ?_⟩
  · refine And.intro (fun h => ?_) (fun h => ?_)
    · refine And.intro (fun _ => ?_) (fun h => by cases h)
      refine Calls.mono (awake_c w hg) ?_
      rintro e V ⟨rfl, hb⟩
      exact And.intro rfl hb
    · have h : ¬ (1000 : Int) < (l.length : Nat) := of_decide_eq_false h
      refine And.intro (fun h2 => ?_) (fun h2 => ?_)
      · refine Calls.mono (awake_c w hg) ?_
        rintro e V ⟨rfl, hb⟩
        exact And.intro rfl hb
      · have h2 : ¬ (1000 : Int) < ((bs s).size : Nat) := of_decide_eq_false h2
        have es : (bs s).size = s.length := rfl
        exact ⟨(), ⟨.cons rfl (.cons rfl .nil), rfl⟩, rfl, by omega, by omega⟩
  rintro _ _ ⟨rfl, hl1, hs1⟩
  refine ⟨Option Addr × Nat, fun t => ⟨[(0, .slice p l.length cap), (1, strV s), (5, .slice t.1 l.length t.2)], []⟩, fun t V => OwnS byteE 5 w.heap.size V t.1 t.2 l ∧ l.length ≤ t.2 ∧ Below w.heap.size w V, ?_, ?_⟩
  · refine ⟨⟨by decide, by decide, rfl⟩, [], rfl, ?_⟩
    have hb0 : Below w.heap.size w (w.alloc (.cells #[] 5)) := (Below.refl _ _).alloc (Nat.le_refl _) _
    have f0 := hnew w (.cells #[] 5)
    have ho : OwnS byteE 5 w.heap.size (w.alloc (.cells #[] 5)) (some ⟨w.heap.size, 0, none⟩) 0 [] := OwnS.empty f0 (Nat.le_refl _)
    refine app_any (E := byteE) (news := l) (B := w.heap.size) Tryd.underlying22 (ttOk.get 5 _ rfl) rfl rfl rfl ho rfl (hl.below hb0) hk (by simp) (by show 0 + l.length ≤ _; omega) (by show (0 + l.length) * 1 ≤ _; omega) ?_
    intro p' cap' W ho' _ hb'
    have ho2 : OwnS byteE 5 w.heap.size W p' cap' l := ho'
    refine ⟨(p', cap'), ⟨.cons rfl (.cons rfl (.cons rfl .nil)), rfl⟩, ho2, ?_, hb0.trans hb'⟩
    rcases ho2.inv with ⟨_, _, h0⟩ | ⟨_, _, _, _, _, h0, _⟩
    · dsimp only; rw [h0]; exact Nat.zero_le _
    · exact h0
  rintro ⟨p', cap'⟩ V ⟨ho, hc', hb⟩
  dsimp only at ho hc'
  refine Calls.mono (reads_c p' cap' l s V ho.row hc' hs1 (hg.below hb)) ?_
  rintro e V1 ⟨rfl, hb1⟩
  have h1 := hb.trans (hb1.mono hb.size)
  refine And.intro (fun _ => ?_) (fun h => by cases h)
  refine ⟨_, fun w2 hb2 => conv_arg (ho.row.below hb1) w2 hb2, ?_⟩
  refine ⟨_, fun w2 hb2 => conv_arg (hl.below h1) w2 hb2, ?_⟩
  refine ⟨_, fun w => eql_str _ _ l l w, ?_⟩
  rw [show decide (l = l) = true by simp]
  refine And.intro (fun _ => ?_) (fun h => by cases h)
  refine Calls.mono (awake_c V1 (hg.below h1)) ?_
  rintro e V2 ⟨rfl, hb2⟩
  exact And.intro rfl (h1.trans (hb2.mono h1.size))
end Go.Proofs.YtkekidalckflhaaDoor
