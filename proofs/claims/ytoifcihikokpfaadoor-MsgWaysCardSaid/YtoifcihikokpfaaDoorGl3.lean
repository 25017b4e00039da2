/- Law17: msg.Right. -/
import Derived.Test.YtoifcihikokpfaaDoorGl2
namespace Go.Proofs.YtoifcihikokpfaaDoor
open Go.Vc Go.RowKit Go.Sei

def usesL : List UInt8 := [0, 96, 96, 104, 96, 104, 145, 147, 145, 144, 190, 146, 160]
structure GlobW (w : World) : Prop where
  m : GlobM w
  uses : Cells w ⟨1, 0, none⟩ (usesL.map u8)
  bnd : BndM w
theorem GlobW.below {w w2 : World} (h : GlobW w) (hb : Below w.heap.size w w2) : GlobW w2 := ⟨h.m.below hb, cells_below hb h.uses, h.bnd.below hb⟩
def useOf (m : Msg) : UInt8 := usesL.getD m.kind.toNat 0
def rightL (g : Geo) (m : Msg) : Bool := geoR g && decide (m.kind.toNat < 13) && !decide (useOf m = 0) && decide ((m.line.toNat : Int) < linesOf g) && (endsL m g (useOf m) && valuesL m g (useOf m) && plainL m g (useOf m))

theorem RightM_c (g : Geo) (m : Msg) (w : World) (hg : GlobW w) : Calls Tryd.prog 13 #[g.val, m.val] w fun e w' => e = .returned (.bool (rightL g m)) ∧ Below w.heap.size w w' := by
  refine calls_of_M (S := sg 47) (sgOk _) (args := [g.val, m.val]) (.s .p (.c .p (.s .p .p))) Tryd.func13 rfl rfl (Nat.le_of_ble_eq_true rfl) rfl ?_
  obtain ⟨X, hX⟩ : ∃ X, X = (w.alloc (.cells g.val.cells 39)).alloc (.cells m.val.cells 27) := ⟨_, rfl⟩
  have hb0 : Below w.heap.size w X := by rw [hX]; exact ((Below.refl _ _).alloc (Nat.le_refl _) _).alloc (by simp) _
  have f0 : X.heap[w.heap.size]? = some (.cells g.val.cells 39 (0, 0)) := by rw [hX]; exact hold _ (hnew w _)
  have es : (w.alloc (.cells g.val.cells 39)).heap.size = w.heap.size + 1 := World.size_alloc _ _
  have f1 : X.heap[w.heap.size + 1]? = some (.cells m.val.cells 27 (0, 0)) := by
    have := hnew (w.alloc (.cells g.val.cells 39)) (.cells m.val.cells 27)
    rw [es] at this
    rw [hX]; exact this
  refine ⟨Unit, fun _ => ⟨[(2, .pointer (some ⟨w.heap.size, 0, none⟩)), (3, .pointer (some ⟨w.heap.size + 1, 0, none⟩))], []⟩,
    fun _ V => V.heap[w.heap.size]? = some (.cells g.val.cells 39 (0, 0)) ∧ V.heap[w.heap.size + 1]? = some (.cells m.val.cells 27 (0, 0)) ∧ Below w.heap.size w V ∧
      (geoR g = true ∧ m.kind.toNat < 13 ∧ useOf m ≠ 0 ∧ (m.line.toNat : Int) < linesOf g), ?_, ?_⟩
  · rw [← es, ← hX]
    refine DrawE.ord [] [0, 1, 2, 3, 4, 5, 6, 7, 8, 9, 10, 11, 12, 13, 14, 15, 16, 17, 18, 19, 20, 21, 22, 23] (by kernel_rfl) ?_
    refine ⟨g.enc, rfl, cells_block (hdr f0), hlt (hdr f0), ?_⟩
    refine Calls.mono (Right_geo_c g _ ((hg.bnd.below hb0).below (Below.refl _ _).drew)) ?_
    rintro e V ⟨rfl, hb⟩
    refine ⟨hb, ?_⟩
    have hw := hb0.drew.trans (hb.mono hb0.size)
    have v0 := block_below hb (hdr f0)
    have v1 := block_below hb (hdr f1)
    have gV := hg.below hw
    rw [es]
    refine And.intro (fun h => ?_) (fun h => ?_)
    · have hR := not_t h
      have fact : rightL g m = false := by unfold rightL; rw [hR]; rfl
      refine And.intro (fun _ => ?_) (fun h => by cases h)
      refine And.intro (fun _ => ?_) (fun h => by cases h)
      refine And.intro (fun _ => ?_) (fun h => by cases h)
      exact And.intro (rb fact.symm) hw
    have hR := not_f h
    refine ⟨_, cells_at (cells_block v1) (i := 0) rfl, ?_⟩
    refine ⟨_, wrap_u8_i64 m.kind, ?_⟩
    refine And.intro (fun h1 => ?_) (fun h1 => ?_)
    · have h1 : (13 : Int) ≤ m.kind.toNat := of_decide_eq_true h1
      have fact : rightL g m = false := by unfold rightL; rw [hR, decide_eq_false (by omega)]; rfl
      refine And.intro (fun _ => ?_) (fun h => by cases h)
      refine And.intro (fun _ => ?_) (fun h => by cases h)
      exact And.intro (rb fact.symm) hw
    have h1 : ¬ (13 : Int) ≤ m.kind.toNat := of_decide_eq_false h1
    have hk : m.kind.toNat < 13 := by omega
    refine ⟨_, cells_at (cells_block v1) (i := 0) rfl, ?_⟩
    refine ⟨m.kind.toNat, rfl, hk, ?_⟩
    have hu : (usesL.map u8)[m.kind.toNat]? = some (u8 (useOf m)) := by
      have hl : m.kind.toNat < usesL.length := hk
      rw [List.getElem?_map, List.getElem?_eq_getElem hl]
      simp only [useOf, List.getD_eq_getElem?_getD, List.getElem?_eq_getElem hl, Option.map_some, Option.getD_some]
    refine ⟨_, by rw [Nat.mul_one]; exact cells_at gV.uses hu, ?_⟩
    refine And.intro (fun h2 => ?_) (fun h2 => ?_)
    · have h2 : ((useOf m).toNat : Int) = ((0 : UInt8).toNat : Int) := of_decide_eq_true h2
      have h2 : useOf m = 0 := u8_eq.1 h2
      have fact : rightL g m = false := by unfold rightL; rw [hR, decide_eq_true hk, h2]; rfl
      refine And.intro (fun _ => ?_) (fun h => by cases h)
      exact And.intro (rb fact.symm) hw
    have h2 : ¬ ((useOf m).toNat : Int) = ((0 : UInt8).toNat : Int) := of_decide_eq_false h2
    have h2 : useOf m ≠ 0 := fun e => h2 (u8_eq.2 e)
    refine ⟨_, cells_at (cells_block v1) (i := 3) rfl, ?_⟩
    refine ⟨_, wrap_u8_i64 m.line, ?_⟩
    refine ⟨g.enc, rfl, cells_block v0, hlt v0, ?_⟩
    refine Calls.mono (Lines_c g V gV.bnd) ?_
    rintro e Y ⟨rfl, hbY⟩
    refine ⟨hbY, ?_⟩
    have hwY := hw.trans (hbY.mono hw.size)
    refine And.intro (fun h3 => ?_) (fun h3 => ?_)
    · have h3 : linesOf g ≤ m.line.toNat := of_decide_eq_true h3
      have fact : rightL g m = false := by unfold rightL; rw [hR, decide_eq_true hk, decide_eq_false h2, decide_eq_false (by omega)]; rfl
      exact And.intro (rb fact.symm) hwY
    have h3 : ¬ linesOf g ≤ m.line.toNat := of_decide_eq_false h3
    exact ⟨(), ⟨.cons rfl (.cons rfl .nil), rfl⟩, block_below hbY v0, block_below hbY v1, hwY, hR, hk, h2, by omega⟩
  rintro _ V ⟨v0, v1, hb, hR, hk, h2, h3⟩
  have gV := hg.below hb
  have hfact : rightL g m = (endsL m g (useOf m) && valuesL m g (useOf m) && plainL m g (useOf m)) := by
    unfold rightL; rw [hR, decide_eq_true hk, decide_eq_false h2, decide_eq_true h3]; rfl
  have hu : (usesL.map u8)[m.kind.toNat]? = some (u8 (useOf m)) := by
    have hl : m.kind.toNat < usesL.length := hk
    rw [List.getElem?_map, List.getElem?_eq_getElem hl]
    simp only [useOf, List.getD_eq_getElem?_getD, List.getElem?_eq_getElem hl, Option.map_some, Option.getD_some]
  obtain ⟨b, hbu⟩ : ∃ b, useOf m = b := ⟨_, rfl⟩
  rw [hbu] at hu hfact
  refine DrawE.ord [8] [0, 1, 2, 3, 4, 5, 6, 7, 8] (by kernel_rfl) ?_
  refine ⟨m.enc, rfl, cells_block (hdr v1), hlt (hdr v1), ?_⟩
  refine ⟨g.enc, rfl, cells_block (hdr v0), hlt (hdr v0), ?_⟩
  refine ⟨_, cells_at (cells_block (hdr v1)) (i := 0) rfl, ?_⟩
  refine ⟨m.kind.toNat, rfl, hk, ?_⟩
  refine ⟨_, by rw [Nat.mul_one]; exact cells_at (cells_below (Below.refl _ V).drew gV.uses) hu, ?_⟩
  refine ⟨lenc m g b, by kernel_rfl, ?_⟩
  refine ⟨(Below.refl _ _).alloc (Nat.le_refl _) _, ?_⟩
  refine store_new (X := V.drew) (v := lval m g b) (ttOk.get 58 _ rfl) (by rfl) rfl (by rfl) fun Y hbY fY sY => ?_
  have hwY := hb.drew.trans (hbY.mono hb.drew.size)
  have lY : LBox m g b V.drew.heap.size Y := ⟨fY⟩
  have gY := hg.below hwY
  refine ⟨lenc m g b, rfl, lY.all, lY.lt, ?_⟩
  refine Calls.mono (ends_c m g b Y gY.bnd) ?_
  rintro e Z ⟨rfl, hbZ⟩
  have hwZ := hwY.trans (hbZ.mono hwY.size)
  have lZ := lY.below hbZ
  refine And.intro (fun k1 => ?_) (fun k1 => ?_)
  · refine ⟨lenc m g b, rfl, lZ.all, lZ.lt, ?_⟩
    refine Calls.mono (values_c m g b Z (hg.below hwZ).bnd) ?_
    rintro e Z1 ⟨rfl, hb1⟩
    have hw1 := hwZ.trans (hb1.mono hwZ.size)
    have l1 := lZ.below hb1
    refine And.intro (fun k2 => ?_) (fun k2 => ?_)
    · refine ⟨lenc m g b, rfl, l1.all, l1.lt, ?_⟩
      refine Calls.mono (plain_c m g b Z1 hR) ?_
      rintro e Z2 ⟨rfl, hb2⟩
      exact And.intro (rb (by rw [hfact, k1, k2]; rfl)) (hw1.trans (hb2.mono hw1.size))
    · have k2 : valuesL m g b = false := k2
      exact And.intro (rb (by rw [hfact, k1, k2]; rfl)) hw1
  · refine And.intro (fun h => by cases h) (fun _ => ?_)
    exact And.intro (rb (by rw [hfact, k1]; rfl)) hwZ
end Go.Proofs.YtoifcihikokpfaaDoor
