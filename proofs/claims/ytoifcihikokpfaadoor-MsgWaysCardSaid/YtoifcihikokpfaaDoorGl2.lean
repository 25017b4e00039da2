/- Law17: letters: values, plain. -/
import Derived.Test.YtoifcihikokpfaaDoorGl1
import Derived.Test.YtoifcihikokpfaaDoorMg9
namespace Go.Proofs.YtoifcihikokpfaaDoor
open Go.Vc Go.RowKit Go.Sei

def badAsk (m : Msg) (g : Geo) (b : UInt8) : Bool := hasB b 1 && (!isCache g m.asker || decide (m.asker = m.to))
def valuesL (m : Msg) (g : Geo) (b : UInt8) : Bool := !badAsk m g b && (decide ((m.acks.toNat : Int) < g.c) && (!m.alone || !isCache g m.from_))
theorem values_c (m : Msg) (g : Geo) (b : UInt8) (w : World) (hB : BndM w) : Calls Tryd.prog 29 #[lval m g b] w fun e w' => e = .returned (.bool (valuesL m g b)) ∧ Below w.heap.size w w' := by
  refine calls_of_M (S := sg 46) (sgOk _) (args := [lval m g b]) (.s .p (.c .p .p)) Tryd.func29 rfl rfl (Nat.le_of_ble_eq_true rfl) rfl ?_
  have hb0 : Below w.heap.size w (w.alloc (.cells (lval m g b).cells 58)) := (Below.refl _ _).alloc (Nat.le_refl _) _
  have f0 := hnew w (.cells (lval m g b).cells 58)
  have l0 : LBox m g b w.heap.size (w.alloc (.cells (lval m g b).cells 58)) := ⟨f0⟩
  refine ⟨Unit, fun _ => ⟨[(1, .pointer (some ⟨w.heap.size, 0, none⟩))], []⟩, fun _ V => LBox m g b w.heap.size V ∧ badAsk m g b = false ∧ Below w.heap.size w V, ?_, ?_⟩
  · refine ⟨lenc m g b, rfl, l0.all, l0.lt, ?_⟩
    refine Calls.mono (has_c m g b 1 _) ?_
    rintro e V1 ⟨rfl, hb1⟩
    have l1 := l0.below hb1
    have hw1 := hb0.trans (hb1.mono hb0.size)
    refine And.intro (fun h1 => ?_) (fun h1 => ?_)
    · refine ⟨g.enc, rfl, l1.geo, l1.lt, ?_⟩
      refine ⟨_, cells_at l1.all (i := 4) rfl, ?_⟩
      refine Calls.mono (IsCache_c g m.asker V1 (hB.below hw1)) ?_
      rintro e V2 ⟨rfl, hb2⟩
      have l2 := l1.below hb2
      have hw2 := hw1.trans (hb2.mono hw1.size)
      refine And.intro (fun h2 => ?_) (fun h2 => ?_)
      · have h2 := not_t h2
        have fact : valuesL m g b = false := by unfold valuesL badAsk; rw [h1, h2]; rfl
        refine And.intro (fun _ => ?_) (fun h => by cases h)
        exact And.intro (rb fact.symm) hw2
      · have h2 := not_f h2
        refine ⟨_, cells_at l2.all (i := 4) rfl, ?_⟩
        refine ⟨_, cells_at l2.all (i := 2) rfl, ?_⟩
        refine And.intro (fun h3 => ?_) (fun h3 => ?_)
        · have h3 : decide ((m.asker.toNat : Int) = (m.to.toNat : Int)) = true := h3
          rw [u8d] at h3
          have fact : valuesL m g b = false := by unfold valuesL badAsk; rw [h1, h2, h3]; rfl
          exact And.intro (rb fact.symm) hw2
        · have h3 : decide ((m.asker.toNat : Int) = (m.to.toNat : Int)) = false := h3
          rw [u8d] at h3
          exact ⟨(), ⟨.cons rfl .nil, rfl⟩, l2, by unfold badAsk; rw [h1, h2, h3]; rfl, hw2⟩
    · refine And.intro (fun h => by cases h) (fun _ => ?_)
      exact ⟨(), ⟨.cons rfl .nil, rfl⟩, l1, by unfold badAsk; rw [h1]; rfl, hw1⟩
  rintro _ V ⟨l, hn, hb⟩
  refine ⟨_, cells_at l.all (i := 5) rfl, ?_⟩
  refine ⟨_, wrap_u8_i64 m.acks, ?_⟩
  refine ⟨_, cells_at l.geo (i := 0) rfl, ?_⟩
  refine And.intro (fun h1 => ?_) (fun h1 => ?_)
  · have h1 : decide ((m.acks.toNat : Int) < g.c) = true := h1
    refine ⟨_, cells_at l.all (i := 6) rfl, ?_⟩
    refine And.intro (fun h2 => ?_) (fun h2 => ?_)
    · have h2 : (!m.alone) = true := h2
      exact And.intro (rb (by unfold valuesL; rw [hn, h1, h2]; rfl)) hb
    · have h2 : (!m.alone) = false := h2
      refine ⟨g.enc, rfl, l.geo, l.lt, ?_⟩
      refine ⟨_, cells_at l.all (i := 1) rfl, ?_⟩
      refine Calls.mono (IsCache_c g m.from_ V (hB.below hb)) ?_
      rintro e V2 ⟨rfl, hb2⟩
      exact And.intro (rb (by unfold valuesL; rw [hn, h1, h2]; rfl)) (hb.trans (hb2.mono hb.size))
  · have h1 : decide ((m.acks.toNat : Int) < g.c) = false := h1
    exact And.intro (rb (by unfold valuesL; rw [hn, h1]; rfl)) hb

/-- The message that a kind lets through. -/
def pl0 (m : Msg) : Msg := { zeroM with kind := m.kind, from_ := m.from_, «to» := m.to, line := m.line }
def pl1 (m : Msg) (b : UInt8) : Msg := if hasB b 1 then { pl0 m with asker := m.asker } else pl0 m
def pl2 (m : Msg) (b : UInt8) : Msg := if hasB b 2 then { pl1 m b with acks := m.acks } else pl1 m b
def pl3 (m : Msg) (b : UInt8) : Msg := if hasB b 4 then { pl2 m b with alone := m.alone } else pl2 m b
def dcut (m : Msg) (n : Nat) (x : Msg) : Msg := { x with d0 := if 0 < n then m.d0 else x.d0, d1 := if 1 < n then m.d1 else x.d1, d2 := if 2 < n then m.d2 else x.d2, d3 := if 3 < n then m.d3 else x.d3 }
def pl4 (m : Msg) (g : Geo) (b : UInt8) : Msg := if hasB b 8 then dcut m g.w.toNat (pl3 m b) else pl3 m b
def plainL (m : Msg) (g : Geo) (b : UInt8) : Bool := decide (pl4 m g b = m)

theorem dcut_enc (m x : Msg) (n : Nat) (h : 1 ≤ n ∧ n ≤ 4) : (x.enc.take 7 ++ ((m.enc.drop 7).take n) ++ x.enc.drop (7 + n)) = (dcut m n x).enc := by
  have h4 : n = 1 ∨ n = 2 ∨ n = 3 ∨ n = 4 := by omega
  rcases h4 with rfl | rfl | rfl | rfl <;> rfl

theorem plain_c (m : Msg) (g : Geo) (b : UInt8) (w : World) (hR : geoR g = true) : Calls Tryd.prog 30 #[lval m g b] w fun e w' => e = .returned (.bool (plainL m g b)) ∧ Below w.heap.size w w' := by
  refine calls_of_M (S := sg 50) (sgOk _) (args := [lval m g b]) (.s .p (.c .p (.c .p (.c .p (.c .p (.c .p .p)))))) Tryd.func30 rfl rfl (Nat.le_of_ble_eq_true rfl) rfl ?_
  have hb0 : Below w.heap.size w (w.alloc (.cells (lval m g b).cells 58)) := (Below.refl _ _).alloc (Nat.le_refl _) _
  have f0 := hnew w (.cells (lval m g b).cells 58)
  have l0 : LBox m g b w.heap.size (w.alloc (.cells (lval m g b).cells 58)) := ⟨f0⟩
  obtain ⟨inv, hinv⟩ : ∃ inv : Msg → World → Prop, inv = fun x V => LBox m g b w.heap.size V ∧ V.heap[w.heap.size + 1]? = some (.cells x.val.cells 27 (0, 0)) ∧ Below w.heap.size w V := ⟨_, rfl⟩
  obtain ⟨env, henv⟩ : ∃ env : Env, env = ⟨[(1, .pointer (some ⟨w.heap.size, 0, none⟩)), (3, .pointer (some ⟨w.heap.size + 1, 0, none⟩))], []⟩ := ⟨_, rfl⟩
  have hput : ∀ {V : World} {x : Msg} (x' : Msg) {T : TypeId} {iT : TI} (hT : TIok Tryd.prog T iT) (hs : iT.size = 1) {o : Nat} {v : Value}, inv x V → o < 11 → v.cells = #[v] → v.oneCell' = true → x.enc.take o ++ [v] ++ x.enc.drop (o + 1) = x'.enc →
      ∀ {K : World → Prop}, (∀ V', inv x' V' → K V') → SatR ((storeVar T ⟨w.heap.size + 1, o, none⟩ v).run Tryd.prog V) fun _ w' => K w' := by
    intro V x x' T iT hT hs o v hi ho hv h1 he K k
    rw [hinv] at hi
    obtain ⟨l, fx, hb⟩ := hi
    refine store_cell hT hs fx (by show o < 11; exact ho) hv h1 fun V' f gr z => k V' ?_
    rw [hinv]
    refine ⟨⟨(gr.block _ l.lt (by simp)).trans l.box⟩, ?_, hb.grown gr hb.size (fun j e => by simp at e; omega)⟩
    rw [f]
    have : x.val.cells.toList = x.enc := rfl
    rw [this, he]; rfl
  refine ⟨Unit, fun _ => env, fun _ V => inv (pl0 m) V, ?_, ?_⟩
  · refine ⟨_, cells_at l0.all (i := 0) rfl, ?_⟩
    refine ⟨_, cells_at l0.all (i := 1) rfl, ?_⟩
    refine ⟨_, cells_at l0.all (i := 2) rfl, ?_⟩
    refine ⟨_, cells_at l0.all (i := 3) rfl, ?_⟩
    refine ⟨(pl0 m).enc, rfl, ?_⟩
    refine store_new (X := (w.alloc (.cells (lval m g b).cells 58))) (v := (pl0 m).val) (ttOk.get 27 _ rfl) (by rfl) rfl (by rfl) fun Y hbY fY sY => ?_
    have es : (w.alloc (.cells (lval m g b).cells 58)).heap.size = w.heap.size + 1 := World.size_alloc _ _
    rw [henv, hinv]
    rw [es] at fY
    refine ⟨(), ⟨.cons rfl (.cons (by rw [← es]; rfl) .nil), rfl⟩, l0.below hbY, fY, hb0.trans (hbY.mono hb0.size)⟩
  rintro _ V hV
  refine ⟨Unit, fun _ => env, fun _ V => inv (pl1 m b) V, ?_, ?_⟩
  · rw [hinv] at hV
    obtain ⟨l, fx, hb⟩ := hV
    rw [henv]
    refine ⟨lenc m g b, rfl, l.all, l.lt, ?_⟩
    refine Calls.mono (has_c m g b 1 V) ?_
    rintro e V1 ⟨rfl, hb1⟩
    have l1 := l.below hb1
    have i1 : inv (pl0 m) V1 := by rw [hinv]; exact ⟨l1, block_below hb1 fx, hb.trans (hb1.mono hb.size)⟩
    refine And.intro (fun h => ?_) (fun h => ?_)
    · have e1 : pl1 m b = { pl0 m with asker := m.asker } := by unfold pl1; rw [h]; rfl
      refine ⟨_, cells_at l1.all (i := 4) rfl, ?_⟩
      refine hput { pl0 m with asker := m.asker } (ttOk.get 5 _ rfl) rfl (o := 4) i1 (by decide) rfl rfl rfl fun V' i' => ?_
      rw [e1]
      exact ⟨(), ⟨.cons rfl (.cons rfl .nil), rfl⟩, i'⟩
    · have e1 : pl1 m b = pl0 m := by unfold pl1; rw [h]; rfl
      rw [e1]
      exact ⟨(), ⟨.cons rfl (.cons rfl .nil), rfl⟩, i1⟩
  rintro _ V hV
  refine ⟨Unit, fun _ => env, fun _ V => inv (pl2 m b) V, ?_, ?_⟩
  · rw [hinv] at hV
    obtain ⟨l, fx, hb⟩ := hV
    rw [henv]
    refine ⟨lenc m g b, rfl, l.all, l.lt, ?_⟩
    refine Calls.mono (has_c m g b 2 V) ?_
    rintro e V1 ⟨rfl, hb1⟩
    have l1 := l.below hb1
    have i1 : inv (pl1 m b) V1 := by rw [hinv]; exact ⟨l1, block_below hb1 fx, hb.trans (hb1.mono hb.size)⟩
    refine And.intro (fun h => ?_) (fun h => ?_)
    · have e1 : pl2 m b = { pl1 m b with acks := m.acks } := by unfold pl2; rw [h]; rfl
      refine ⟨_, cells_at l1.all (i := 5) rfl, ?_⟩
      refine hput { pl1 m b with acks := m.acks } (ttOk.get 5 _ rfl) rfl (o := 5) i1 (by decide) rfl rfl rfl fun V' i' => ?_
      rw [e1]
      exact ⟨(), ⟨.cons rfl (.cons rfl .nil), rfl⟩, i'⟩
    · have e1 : pl2 m b = pl1 m b := by unfold pl2; rw [h]; rfl
      rw [e1]
      exact ⟨(), ⟨.cons rfl (.cons rfl .nil), rfl⟩, i1⟩
  rintro _ V hV
  refine ⟨Unit, fun _ => env, fun _ V => inv (pl3 m b) V, ?_, ?_⟩
  · rw [hinv] at hV
    obtain ⟨l, fx, hb⟩ := hV
    rw [henv]
    refine ⟨lenc m g b, rfl, l.all, l.lt, ?_⟩
    refine Calls.mono (has_c m g b 4 V) ?_
    rintro e V1 ⟨rfl, hb1⟩
    have l1 := l.below hb1
    have i1 : inv (pl2 m b) V1 := by rw [hinv]; exact ⟨l1, block_below hb1 fx, hb.trans (hb1.mono hb.size)⟩
    refine And.intro (fun h => ?_) (fun h => ?_)
    · have e1 : pl3 m b = { pl2 m b with alone := m.alone } := by unfold pl3; rw [h]; rfl
      refine ⟨_, cells_at l1.all (i := 6) rfl, ?_⟩
      refine hput { pl2 m b with alone := m.alone } (ttOk.get 4 _ rfl) rfl (o := 6) i1 (by decide) rfl rfl rfl fun V' i' => ?_
      rw [e1]
      exact ⟨(), ⟨.cons rfl (.cons rfl .nil), rfl⟩, i'⟩
    · have e1 : pl3 m b = pl2 m b := by unfold pl3; rw [h]; rfl
      rw [e1]
      exact ⟨(), ⟨.cons rfl (.cons rfl .nil), rfl⟩, i1⟩
  rintro _ V hV
  refine ⟨Unit, fun _ => env, fun _ V => inv (pl4 m g b) V, ?_, ?_⟩
  · rw [hinv] at hV
    obtain ⟨l, fx, hb⟩ := hV
    rw [henv]
    refine ⟨lenc m g b, rfl, l.all, l.lt, ?_⟩
    refine Calls.mono (has_c m g b 8 V) ?_
    rintro e V1 ⟨rfl, hb1⟩
    have l1 := l.below hb1
    have i1 : inv (pl3 m b) V1 := by rw [hinv]; exact ⟨l1, block_below hb1 fx, hb.trans (hb1.mono hb.size)⟩
    refine And.intro (fun h => ?_) (fun h => ?_)
    · have e1 : pl4 m g b = dcut m g.w.toNat (pl3 m b) := by unfold pl4; rw [h]; rfl
      have hs := geoR_spec hR
      refine DrawE.ord [8] [0, 1, 2, 3, 4, 5, 6, 7, 8] (by kernel_rfl) ?_
      have i2 := i1
      rw [hinv] at i2
      obtain ⟨l2, fx2, hb2⟩ := i2
      refine ⟨_, cells_at (show LBox m g b w.heap.size V1.drew from ⟨hdr l2.box⟩).geo (i := 2) rfl, ?_⟩
      obtain ⟨n, hn⟩ : ∃ n, n = g.w.toNat := ⟨_, rfl⟩
      have hn4 : 1 ≤ n ∧ n ≤ 4 := by omega
      refine ⟨n, by omega, by omega, ?_⟩
      have hs5 : (Tryd.prog.info? 5).map (·.size) = some 1 := by kernel_rfl
      have hcl : ((m.enc.drop 7).take n).length = n := by
        have : (m.enc.drop 7).length = 4 := rfl
        rw [List.length_take, this]; omega
      have hrun := run_copy_row (P := Tryd.prog) V1.drew 22 22 3 5 (w.heap.size + 1) 7 n 4 ⟨w.heap.size, 7, none⟩ 4 4 (pl3 m b).val.cells 27 ((m.enc.drop 7).take n) Tryd.underlying22 hs5 (hdr fx2)
        (by rw [hcl]; exact (Nat.min_eq_right hn4.2).symm)
        (fun j v hv => by
          have hj : j < n := by have := (List.getElem?_eq_some_iff.1 hv).1; omega
          have h4 : j = 0 ∨ j = 1 ∨ j = 2 ∨ j = 3 := by omega
          have hm : m.enc[7 + j]? = some v := by
            rw [List.getElem?_take_of_lt hj, List.getElem?_drop] at hv; exact hv
          rw [addr_add]
          have := cells_at (show Cells V1.drew ⟨w.heap.size, 0, none⟩ m.enc from (show LBox m g b w.heap.size V1.drew from ⟨hdr l2.box⟩).msg) hm
          rw [Nat.zero_add] at this; exact this)
        (by rw [hcl]; show 7 + n ≤ 11; omega)
        (by
          intro v hv
          have hv := List.mem_of_mem_take hv
          simp only [Msg.enc, List.drop_succ_cons, List.drop_zero] at hv
          simp only [List.mem_cons, List.not_mem_nil, or_false] at hv
          rcases hv with rfl | rfl | rfl | rfl <;> rfl)
      refine SatR.mk hrun ?_
      refine ⟨(), ⟨.cons rfl (.cons rfl .nil), rfl⟩, ?_⟩
      rw [e1, hinv, ← hn]
      refine ⟨⟨(setRow_old (by omega)).trans (hdr l2.box)⟩, ?_, below_setRow hb2.drew (by omega) _⟩
      rw [hcl]
      have e2 := dcut_enc m (pl3 m b) n hn4
      have e3 : (pl3 m b).val.cells.toList = (pl3 m b).enc := rfl
      rw [e3, e2]
      exact setRow_new (hdr fx2)
    · have e1 : pl4 m g b = pl3 m b := by unfold pl4; rw [h]; rfl
      rw [e1]
      exact ⟨(), ⟨.cons rfl (.cons rfl .nil), rfl⟩, i1⟩
  rintro _ V hV
  rw [hinv] at hV
  obtain ⟨l, fx, hb⟩ := hV
  rw [henv]
  refine ⟨(pl4 m g b).enc, rfl, cells_block fx, hlt fx, ?_⟩
  refine ⟨m.enc, rfl, l.msg, l.lt, ?_⟩
  refine ⟨_, fun w => eql_msg _ _ (pl4 m g b) m w, ?_⟩
  exact And.intro rfl hb
end Go.Proofs.YtoifcihikokpfaaDoor
