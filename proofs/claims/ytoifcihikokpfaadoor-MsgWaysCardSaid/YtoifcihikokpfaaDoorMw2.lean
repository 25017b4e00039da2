/- The law MsgWays: what it computes. -/
import Derived.Test.YtoifcihikokpfaaDoorMw1
import Derived.Test.YtoifcihikokpfaaDoorMg9
namespace Go.Proofs.YtoifcihikokpfaaDoor
open Go.Vc Go.RowKit Go.Sei

theorem tf {b : Bool} {P : Prop} (h : b = true) (k : b = false) : P := by rw [h] at k; cases k
theorem nle {a b : Int} (h : a < b) : decide (b ≤ a) = false := decide_eq_false (by omega)
theorem ud {x y : UInt8} (h : x = y) : (!decide ((x.toNat : Int) = (y.toNat : Int))) = false := by rw [u8d, decide_eq_true h]; rfl

set_option maxRecDepth 20000 in
theorem msgWays_c (g : Geo) (m : Msg) (w : World) (hg : GlobW w) : Calls Tryd.prog 6 #[g.val, m.val] w fun e w' => e = .returned (.bool true) ∧ Below w.heap.size w w' := by
  refine calls_of_M (S := sg 150) (sgOk _) (args := [g.val, m.val]) (.s .p (.c .p (.c .p (.s .p (.c .p (.c .p (.c .p .p))))))) Tryd.func6 rfl rfl (Nat.le_of_ble_eq_true rfl) rfl ?_
  refine ⟨Nat × Nat, fun s => ⟨[(2, .pointer (some ⟨s.1, 0, none⟩)), (3, .pointer (some ⟨s.2, 0, none⟩))], []⟩, fun s V => V.heap[s.1]? = some (.cells g.val.cells 39 (0, 0)) ∧ V.heap[s.2]? = some (.cells m.val.cells 27 (0, 0)) ∧ Below w.heap.size w V, ?_, ?_⟩
  · have hb0 : Below w.heap.size w ((w.alloc (.cells g.val.cells 39)).alloc (.cells m.val.cells 27)) := ((Below.refl _ _).alloc (Nat.le_refl _) _).alloc (by simp) _
    refine Calls.mono (awake_c _ (hg.m.below hb0)) ?_
    rintro e V ⟨rfl, hb⟩
    refine And.intro (fun h => by cases h) (fun _ => ?_)
    exact ⟨(_, _), ⟨.cons rfl (.cons rfl .nil), rfl⟩, block_below hb (hold _ (hnew w _)), block_below hb (hnew _ _), hb0.trans (hb.mono hb0.size)⟩
  rintro ⟨a2, a3⟩ V ⟨f2, f3, hb⟩
  dsimp only at f2 f3
  refine ⟨Unit, fun _ => ⟨[(2, .pointer (some ⟨a2, 0, none⟩)), (3, .pointer (some ⟨a3, 0, none⟩))], []⟩, fun _ V => V.heap[a2]? = some (.cells g.val.cells 39 (0, 0)) ∧ V.heap[a3]? = some (.cells m.val.cells 27 (0, 0)) ∧ Below w.heap.size w V ∧ rightL g m = true, ?_, ?_⟩
  · refine ⟨g.enc, rfl, cells_block f2, hlt f2, ?_⟩
    refine ⟨m.enc, rfl, cells_block f3, hlt f3, ?_⟩
    refine Calls.mono (RightM_c g m V (hg.below hb)) ?_
    rintro e V1 ⟨rfl, hb1⟩
    have hw1 := hb.trans (hb1.mono hb.size)
    refine And.intro (fun h => ?_) (fun h => ?_)
    · exact And.intro rfl hw1
    · exact ⟨(), ⟨.cons rfl (.cons rfl .nil), rfl⟩, block_below hb1 f2, block_below hb1 f3, hw1, not_f h⟩
  clear f2 f3 hb V
  rintro _ V ⟨f2, f3, hb, hright⟩
  have W := ways_of_right hright
  have gV := hg.below hb
  refine ⟨_, cells_at (cells_block f3) (i := 0) rfl, ?_⟩
  refine Calls.mono (Class_c m.kind V gV.m) ?_
  rintro e _ ⟨rfl, rfl⟩
  refine ⟨Unit, fun _ => ⟨[(2, .pointer (some ⟨a2, 0, none⟩)), (3, .pointer (some ⟨a3, 0, none⟩)), (5, u8 (classOf m.kind)), (6, u8 (homeOf g m.line))], []⟩, fun _ V => V.heap[a2]? = some (.cells g.val.cells 39 (0, 0)) ∧ V.heap[a3]? = some (.cells m.val.cells 27 (0, 0)) ∧ Below w.heap.size w V, ?_, ?_⟩
  · refine ⟨g.enc, rfl, cells_block f2, hlt f2, ?_⟩
    refine ⟨_, cells_at (cells_block f3) (i := 3) rfl, ?_⟩
    refine Calls.mono (Home_c g m.line V gV.bnd) ?_
    rintro e V1 ⟨rfl, hb1⟩
    exact ⟨(), ⟨.cons rfl (.cons rfl (.cons rfl (.cons rfl .nil))), rfl⟩, block_below hb1 f2, block_below hb1 f3, hb.trans (hb1.mono hb.size)⟩
  clear f2 f3 hb gV V
  rintro _ V ⟨f2, f3, hb⟩
  refine ⟨Unit, fun _ => ⟨[(2, .pointer (some ⟨a2, 0, none⟩)), (3, .pointer (some ⟨a3, 0, none⟩)), (5, u8 (classOf m.kind)), (6, u8 (homeOf g m.line))], []⟩, fun _ V => V.heap[a2]? = some (.cells g.val.cells 39 (0, 0)) ∧ V.heap[a3]? = some (.cells m.val.cells 27 (0, 0)) ∧ Below w.heap.size w V, ?_, ?_⟩
  · refine DrawE.ord [] [0, 1, 2, 3, 4, 5, 6, 7, 8, 9, 10, 11, 12, 13, 14, 15, 16, 17, 18, 19, 20, 21, 22, 23, 24, 25, 26, 27, 28, 29, 30, 31, 32, 33, 34, 35, 36, 37, 38, 39, 40, 41, 42, 43, 44, 45, 46, 47, 48, 49, 50, 51, 52, 53, 54, 55] (by kernel_rfl) ?_
    have q2 := hdr f2
    have q3 := hdr f3
    have hd := hb.drew
    clear f2 f3 hb
    refine ⟨g.enc, rfl, cells_block q2, hlt q2, ?_⟩
    refine Calls.mono (Right_geo_c g V.drew (hg.below hd).bnd) ?_
    rintro e V1 ⟨rfl, hb1⟩
    refine ⟨hb1, ?_⟩
    have h1 := hd.trans (hb1.mono hd.size)
    have x2 := block_below hb1 q2
    have x3 := block_below hb1 q3
    clear q2 q3 hd
    refine And.intro (fun h => tf W.geo (not_t h)) (fun _ => ?_)
    refine ⟨_, cells_at (cells_block x3) (i := 1) rfl, ?_⟩
    refine ⟨_, wrap_u8_i64 m.from_, ?_⟩
    refine ⟨g.enc, rfl, cells_block x2, hlt x2, ?_⟩
    refine Calls.mono (Nodes_c g V1 (hg.below h1).bnd) ?_
    rintro e V2 ⟨rfl, hb2⟩
    refine ⟨hb2, ?_⟩
    have h2 := h1.trans (hb2.mono h1.size)
    have y2 := block_below hb2 x2
    have y3 := block_below hb2 x3
    clear x2 x3 h1 hb1
    refine And.intro (fun h => tf h (nle W.fn)) (fun _ => ?_)
    refine ⟨_, cells_at (cells_block y3) (i := 2) rfl, ?_⟩
    refine ⟨_, wrap_u8_i64 m.to, ?_⟩
    refine ⟨g.enc, rfl, cells_block y2, hlt y2, ?_⟩
    refine Calls.mono (Nodes_c g V2 (hg.below h2).bnd) ?_
    rintro e V3 ⟨rfl, hb3⟩
    refine ⟨hb3, ?_⟩
    have h3 := h2.trans (hb3.mono h2.size)
    have z2 := block_below hb3 y2
    have z3 := block_below hb3 y3
    clear y2 y3 h2 hb2
    refine And.intro (fun h => tf h (nle W.tn)) (fun _ => ?_)
    refine ⟨_, cells_at (cells_block z3) (i := 1) rfl, ?_⟩
    refine ⟨_, cells_at (cells_block z3) (i := 2) rfl, ?_⟩
    refine And.intro (fun h => tf h (decide_eq_false fun e => W.ne (u8_eq.1 e))) (fun _ => ?_)
    refine ⟨g.enc, rfl, cells_block z2, hlt z2, ?_⟩
    refine ⟨_, cells_at (cells_block z3) (i := 1) rfl, ?_⟩
    refine Calls.mono (IsCache_c g m.from_ V3 (hg.below h3).bnd) ?_
    rintro e V4 ⟨rfl, hb4⟩
    refine ⟨hb4, ?_⟩
    have h4 := h3.trans (hb4.mono h3.size)
    have u2 := block_below hb4 z2
    have u3 := block_below hb4 z3
    clear z2 z3 h3 hb3
    refine And.intro (fun hc => ?_) (fun hc => ?_)
    · have hto : isCache g m.to = true := W.one.resolve_left (by rw [not_t hc]; simp)
      refine ⟨g.enc, rfl, cells_block u2, hlt u2, ?_⟩
      refine ⟨_, cells_at (cells_block u3) (i := 2) rfl, ?_⟩
      refine Calls.mono (IsCache_c g m.to V4 (hg.below h4).bnd) ?_
      rintro e V5 ⟨rfl, hb5⟩
      refine ⟨hb5, ?_⟩
      have h5 := h4.trans (hb5.mono h4.size)
      have v2 := block_below hb5 u2
      have v3 := block_below hb5 u3
      refine And.intro (fun h => tf hto (not_t h)) (fun _ => ?_)
      refine And.intro (fun h => tf h (decide_eq_false (by have := W.c1; omega))) (fun _ => ?_)
      refine And.intro (fun h => tf h (decide_eq_false (by have := W.c3; omega))) (fun _ => ?_)
      refine ⟨_, cells_at (cells_block v3) (i := 5) rfl, ?_⟩
      refine ⟨_, wrap_u8_i64 m.acks, ?_⟩
      refine ⟨_, cells_at (cells_block v2) (i := 0) rfl, ?_⟩
      refine And.intro (fun h => tf h (nle W.acks)) (fun _ => ?_)
      exact ⟨(), ⟨.cons rfl (.cons rfl (.cons rfl (.cons rfl .nil))), rfl⟩, v2, v3, h5⟩
    · refine And.intro (fun h => by cases h) (fun _ => ?_)
      refine And.intro (fun h => tf h (decide_eq_false (by have := W.c1; omega))) (fun _ => ?_)
      refine And.intro (fun h => tf h (decide_eq_false (by have := W.c3; omega))) (fun _ => ?_)
      refine ⟨_, cells_at (cells_block u3) (i := 5) rfl, ?_⟩
      refine ⟨_, wrap_u8_i64 m.acks, ?_⟩
      refine ⟨_, cells_at (cells_block u2) (i := 0) rfl, ?_⟩
      refine And.intro (fun h => tf h (nle W.acks)) (fun _ => ?_)
      exact ⟨(), ⟨.cons rfl (.cons rfl (.cons rfl (.cons rfl .nil))), rfl⟩, u2, u3, h4⟩
  clear f2 f3 hb V
  rintro _ V ⟨f2, f3, hb⟩
  refine ⟨Unit, fun _ => ⟨[(2, .pointer (some ⟨a2, 0, none⟩)), (3, .pointer (some ⟨a3, 0, none⟩)), (6, u8 (homeOf g m.line))], []⟩, fun _ V => V.heap[a2]? = some (.cells g.val.cells 39 (0, 0)) ∧ V.heap[a3]? = some (.cells m.val.cells 27 (0, 0)) ∧ Below w.heap.size w V, ?_, ?_⟩
  · refine And.intro (fun h => ?_) (fun h => ?_)
    · refine ⟨_, cells_at (cells_block f3) (i := 2) rfl, ?_⟩
      refine And.intro (fun k => tf k (ud (W.k1 ((u8_eq (y := 1)).1 (of_decide_eq_true h))))) (fun _ => ?_)
      refine And.intro (fun h => ?_) (fun h => ?_)
      · refine ⟨_, cells_at (cells_block f3) (i := 1) rfl, ?_⟩
        refine And.intro (fun k => tf k (ud (W.k2 ((u8_eq (y := 2)).1 (of_decide_eq_true h))))) (fun _ => ?_)
        refine ⟨g.enc, rfl, cells_block f2, hlt f2, ?_⟩
        refine ⟨_, cells_at (cells_block f3) (i := 2) rfl, ?_⟩
        refine Calls.mono (IsHome_c g m.to V (hg.below hb).bnd) ?_
        rintro e Va ⟨rfl, hsa⟩
        have hba := hb.trans (hsa.mono hb.size)
        have f2a := block_below hsa f2
        have f3a := block_below hsa f3
        refine And.intro (fun h => ?_) (fun h => ?_)
        · refine ⟨_, cells_at (cells_block f3a) (i := 2) rfl, ?_⟩
          refine And.intro (fun k => tf k (ud (W.ht h))) (fun _ => ?_)
          refine ⟨g.enc, rfl, cells_block f2a, hlt f2a, ?_⟩
          refine ⟨_, cells_at (cells_block f3a) (i := 1) rfl, ?_⟩
          refine Calls.mono (IsHome_c g m.from_ Va (hg.below hba).bnd) ?_
          rintro e Vab ⟨rfl, hsb⟩
          have hbab := hba.trans (hsb.mono hba.size)
          have f2ab := block_below hsb f2a
          have f3ab := block_below hsb f3a
          refine And.intro (fun h => ?_) (fun h => ?_)
          · refine ⟨_, cells_at (cells_block f3ab) (i := 1) rfl, ?_⟩
            refine And.intro (fun k => tf k (ud (W.hf h))) (fun _ => ?_)
            exact ⟨(), ⟨.cons rfl (.cons rfl (.cons rfl .nil)), rfl⟩, f2ab, f3ab, hbab⟩
          · refine And.intro (fun k => by cases k) (fun _ => ?_)
            exact ⟨(), ⟨.cons rfl (.cons rfl (.cons rfl .nil)), rfl⟩, f2ab, f3ab, hbab⟩
        · refine And.intro (fun k => by cases k) (fun _ => ?_)
          refine ⟨g.enc, rfl, cells_block f2a, hlt f2a, ?_⟩
          refine ⟨_, cells_at (cells_block f3a) (i := 1) rfl, ?_⟩
          refine Calls.mono (IsHome_c g m.from_ Va (hg.below hba).bnd) ?_
          rintro e Vab ⟨rfl, hsb⟩
          have hbab := hba.trans (hsb.mono hba.size)
          have f2ab := block_below hsb f2a
          have f3ab := block_below hsb f3a
          refine And.intro (fun h => ?_) (fun h => ?_)
          · refine ⟨_, cells_at (cells_block f3ab) (i := 1) rfl, ?_⟩
            refine And.intro (fun k => tf k (ud (W.hf h))) (fun _ => ?_)
            exact ⟨(), ⟨.cons rfl (.cons rfl (.cons rfl .nil)), rfl⟩, f2ab, f3ab, hbab⟩
          · refine And.intro (fun k => by cases k) (fun _ => ?_)
            exact ⟨(), ⟨.cons rfl (.cons rfl (.cons rfl .nil)), rfl⟩, f2ab, f3ab, hbab⟩
      · refine And.intro (fun k => by cases k) (fun _ => ?_)
        refine ⟨g.enc, rfl, cells_block f2, hlt f2, ?_⟩
        refine ⟨_, cells_at (cells_block f3) (i := 2) rfl, ?_⟩
        refine Calls.mono (IsHome_c g m.to V (hg.below hb).bnd) ?_
        rintro e Va ⟨rfl, hsa⟩
        have hba := hb.trans (hsa.mono hb.size)
        have f2a := block_below hsa f2
        have f3a := block_below hsa f3
        refine And.intro (fun h => ?_) (fun h => ?_)
        · refine ⟨_, cells_at (cells_block f3a) (i := 2) rfl, ?_⟩
          refine And.intro (fun k => tf k (ud (W.ht h))) (fun _ => ?_)
          refine ⟨g.enc, rfl, cells_block f2a, hlt f2a, ?_⟩
          refine ⟨_, cells_at (cells_block f3a) (i := 1) rfl, ?_⟩
          refine Calls.mono (IsHome_c g m.from_ Va (hg.below hba).bnd) ?_
          rintro e Vab ⟨rfl, hsb⟩
          have hbab := hba.trans (hsb.mono hba.size)
          have f2ab := block_below hsb f2a
          have f3ab := block_below hsb f3a
          refine And.intro (fun h => ?_) (fun h => ?_)
          · refine ⟨_, cells_at (cells_block f3ab) (i := 1) rfl, ?_⟩
            refine And.intro (fun k => tf k (ud (W.hf h))) (fun _ => ?_)
            exact ⟨(), ⟨.cons rfl (.cons rfl (.cons rfl .nil)), rfl⟩, f2ab, f3ab, hbab⟩
          · refine And.intro (fun k => by cases k) (fun _ => ?_)
            exact ⟨(), ⟨.cons rfl (.cons rfl (.cons rfl .nil)), rfl⟩, f2ab, f3ab, hbab⟩
        · refine And.intro (fun k => by cases k) (fun _ => ?_)
          refine ⟨g.enc, rfl, cells_block f2a, hlt f2a, ?_⟩
          refine ⟨_, cells_at (cells_block f3a) (i := 1) rfl, ?_⟩
          refine Calls.mono (IsHome_c g m.from_ Va (hg.below hba).bnd) ?_
          rintro e Vab ⟨rfl, hsb⟩
          have hbab := hba.trans (hsb.mono hba.size)
          have f2ab := block_below hsb f2a
          have f3ab := block_below hsb f3a
          refine And.intro (fun h => ?_) (fun h => ?_)
          · refine ⟨_, cells_at (cells_block f3ab) (i := 1) rfl, ?_⟩
            refine And.intro (fun k => tf k (ud (W.hf h))) (fun _ => ?_)
            exact ⟨(), ⟨.cons rfl (.cons rfl (.cons rfl .nil)), rfl⟩, f2ab, f3ab, hbab⟩
          · refine And.intro (fun k => by cases k) (fun _ => ?_)
            exact ⟨(), ⟨.cons rfl (.cons rfl (.cons rfl .nil)), rfl⟩, f2ab, f3ab, hbab⟩
    · refine And.intro (fun k => by cases k) (fun _ => ?_)
      refine And.intro (fun h => ?_) (fun h => ?_)
      · refine ⟨_, cells_at (cells_block f3) (i := 1) rfl, ?_⟩
        refine And.intro (fun k => tf k (ud (W.k2 ((u8_eq (y := 2)).1 (of_decide_eq_true h))))) (fun _ => ?_)
        refine ⟨g.enc, rfl, cells_block f2, hlt f2, ?_⟩
        refine ⟨_, cells_at (cells_block f3) (i := 2) rfl, ?_⟩
        refine Calls.mono (IsHome_c g m.to V (hg.below hb).bnd) ?_
        rintro e Va ⟨rfl, hsa⟩
        have hba := hb.trans (hsa.mono hb.size)
        have f2a := block_below hsa f2
        have f3a := block_below hsa f3
        refine And.intro (fun h => ?_) (fun h => ?_)
        · refine ⟨_, cells_at (cells_block f3a) (i := 2) rfl, ?_⟩
          refine And.intro (fun k => tf k (ud (W.ht h))) (fun _ => ?_)
          refine ⟨g.enc, rfl, cells_block f2a, hlt f2a, ?_⟩
          refine ⟨_, cells_at (cells_block f3a) (i := 1) rfl, ?_⟩
          refine Calls.mono (IsHome_c g m.from_ Va (hg.below hba).bnd) ?_
          rintro e Vab ⟨rfl, hsb⟩
          have hbab := hba.trans (hsb.mono hba.size)
          have f2ab := block_below hsb f2a
          have f3ab := block_below hsb f3a
          refine And.intro (fun h => ?_) (fun h => ?_)
          · refine ⟨_, cells_at (cells_block f3ab) (i := 1) rfl, ?_⟩
            refine And.intro (fun k => tf k (ud (W.hf h))) (fun _ => ?_)
            exact ⟨(), ⟨.cons rfl (.cons rfl (.cons rfl .nil)), rfl⟩, f2ab, f3ab, hbab⟩
          · refine And.intro (fun k => by cases k) (fun _ => ?_)
            exact ⟨(), ⟨.cons rfl (.cons rfl (.cons rfl .nil)), rfl⟩, f2ab, f3ab, hbab⟩
        · refine And.intro (fun k => by cases k) (fun _ => ?_)
          refine ⟨g.enc, rfl, cells_block f2a, hlt f2a, ?_⟩
          refine ⟨_, cells_at (cells_block f3a) (i := 1) rfl, ?_⟩
          refine Calls.mono (IsHome_c g m.from_ Va (hg.below hba).bnd) ?_
          rintro e Vab ⟨rfl, hsb⟩
          have hbab := hba.trans (hsb.mono hba.size)
          have f2ab := block_below hsb f2a
          have f3ab := block_below hsb f3a
          refine And.intro (fun h => ?_) (fun h => ?_)
          · refine ⟨_, cells_at (cells_block f3ab) (i := 1) rfl, ?_⟩
            refine And.intro (fun k => tf k (ud (W.hf h))) (fun _ => ?_)
            exact ⟨(), ⟨.cons rfl (.cons rfl (.cons rfl .nil)), rfl⟩, f2ab, f3ab, hbab⟩
          · refine And.intro (fun k => by cases k) (fun _ => ?_)
            exact ⟨(), ⟨.cons rfl (.cons rfl (.cons rfl .nil)), rfl⟩, f2ab, f3ab, hbab⟩
      · refine And.intro (fun k => by cases k) (fun _ => ?_)
        refine ⟨g.enc, rfl, cells_block f2, hlt f2, ?_⟩
        refine ⟨_, cells_at (cells_block f3) (i := 2) rfl, ?_⟩
        refine Calls.mono (IsHome_c g m.to V (hg.below hb).bnd) ?_
        rintro e Va ⟨rfl, hsa⟩
        have hba := hb.trans (hsa.mono hb.size)
        have f2a := block_below hsa f2
        have f3a := block_below hsa f3
        refine And.intro (fun h => ?_) (fun h => ?_)
        · refine ⟨_, cells_at (cells_block f3a) (i := 2) rfl, ?_⟩
          refine And.intro (fun k => tf k (ud (W.ht h))) (fun _ => ?_)
          refine ⟨g.enc, rfl, cells_block f2a, hlt f2a, ?_⟩
          refine ⟨_, cells_at (cells_block f3a) (i := 1) rfl, ?_⟩
          refine Calls.mono (IsHome_c g m.from_ Va (hg.below hba).bnd) ?_
          rintro e Vab ⟨rfl, hsb⟩
          have hbab := hba.trans (hsb.mono hba.size)
          have f2ab := block_below hsb f2a
          have f3ab := block_below hsb f3a
          refine And.intro (fun h => ?_) (fun h => ?_)
          · refine ⟨_, cells_at (cells_block f3ab) (i := 1) rfl, ?_⟩
            refine And.intro (fun k => tf k (ud (W.hf h))) (fun _ => ?_)
            exact ⟨(), ⟨.cons rfl (.cons rfl (.cons rfl .nil)), rfl⟩, f2ab, f3ab, hbab⟩
          · refine And.intro (fun k => by cases k) (fun _ => ?_)
            exact ⟨(), ⟨.cons rfl (.cons rfl (.cons rfl .nil)), rfl⟩, f2ab, f3ab, hbab⟩
        · refine And.intro (fun k => by cases k) (fun _ => ?_)
          refine ⟨g.enc, rfl, cells_block f2a, hlt f2a, ?_⟩
          refine ⟨_, cells_at (cells_block f3a) (i := 1) rfl, ?_⟩
          refine Calls.mono (IsHome_c g m.from_ Va (hg.below hba).bnd) ?_
          rintro e Vab ⟨rfl, hsb⟩
          have hbab := hba.trans (hsb.mono hba.size)
          have f2ab := block_below hsb f2a
          have f3ab := block_below hsb f3a
          refine And.intro (fun h => ?_) (fun h => ?_)
          · refine ⟨_, cells_at (cells_block f3ab) (i := 1) rfl, ?_⟩
            refine And.intro (fun k => tf k (ud (W.hf h))) (fun _ => ?_)
            exact ⟨(), ⟨.cons rfl (.cons rfl (.cons rfl .nil)), rfl⟩, f2ab, f3ab, hbab⟩
          · refine And.intro (fun k => by cases k) (fun _ => ?_)
            exact ⟨(), ⟨.cons rfl (.cons rfl (.cons rfl .nil)), rfl⟩, f2ab, f3ab, hbab⟩
  clear f2 f3 hb V
  rintro _ V ⟨f2, f3, hb⟩
  refine ⟨_, cells_at (cells_block f3) (i := 4) rfl, ?_⟩
  refine And.intro (fun h => ?_) (fun h => ?_)
  · refine And.intro (fun _ => ?_) (fun k => by cases k)
    refine ⟨_, cells_at (cells_block f3) (i := 6) rfl, ?_⟩
    refine And.intro (fun h2 => ?_) (fun h2 => ?_)
    · exact And.intro rfl hb
    · obtain ⟨e10, efr⟩ := W.al (not_f h2)
      refine ⟨_, cells_at (cells_block f3) (i := 0) rfl, ?_⟩
      refine And.intro (fun _ => ?_) (fun k => tf (decide_eq_true ((u8_eq (y := 10)).2 e10)) k)
      refine ⟨_, cells_at (cells_block f3) (i := 1) rfl, ?_⟩
      exact And.intro (rb (decide_eq_true (u8_eq.2 efr))) hb
  · have ha := W.ask (fun e => tf (decide_eq_true ((u8_eq (y := 0)).2 e)) h)
    refine ⟨g.enc, rfl, cells_block f2, hlt f2, ?_⟩
    refine ⟨_, cells_at (cells_block f3) (i := 4) rfl, ?_⟩
    refine Calls.mono (IsCache_c g m.asker V (hg.below hb).bnd) ?_
    rintro e V1 ⟨rfl, hb1⟩
    have hw1 := hb.trans (hb1.mono hb.size)
    have g3 := block_below hb1 f3
    refine And.intro (fun _ => ?_) (fun k => tf ha.1 k)
    refine ⟨_, cells_at (cells_block g3) (i := 4) rfl, ?_⟩
    refine ⟨_, cells_at (cells_block g3) (i := 2) rfl, ?_⟩
    refine And.intro (fun _ => ?_) (fun k => tf (by rw [decide_eq_false (fun e => ha.2 (u8_eq.1 e))]; rfl) k)
    refine ⟨_, cells_at (cells_block g3) (i := 6) rfl, ?_⟩
    refine And.intro (fun h2 => ?_) (fun h2 => ?_)
    · exact And.intro rfl hw1
    · obtain ⟨e10, efr⟩ := W.al (not_f h2)
      refine ⟨_, cells_at (cells_block g3) (i := 0) rfl, ?_⟩
      refine And.intro (fun _ => ?_) (fun k => tf (decide_eq_true ((u8_eq (y := 10)).2 e10)) k)
      refine ⟨_, cells_at (cells_block g3) (i := 1) rfl, ?_⟩
      exact And.intro (rb (decide_eq_true (u8_eq.2 efr))) hw1
end Go.Proofs.YtoifcihikokpfaaDoor
