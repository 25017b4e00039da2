/- geo: Right, valid, Home, Nodes, Lines, IsCache, IsHome. -/
import Derived.Test.YtoifcihikokpfaaDoorMg1
import Derived.Test.YtoifcihikokpfaaDoorVcJ
namespace Go.Proofs.YtoifcihikokpfaaDoor
open Go.Vc Go.RowKit Go.Sei

structure Geo where
  c : Int
  h : Int
  w : Int
  s : Int
  a : Int
  deriving DecidableEq
def i64 (n : Int) : Value := .int .i64 n
def Geo.lst (g : Geo) : List Int := [g.c, g.h, g.w, g.s, g.a]
def Geo.enc (g : Geo) : List Value := [i64 g.c, i64 g.h, i64 g.w, i64 g.s, i64 g.a]
def Geo.val (g : Geo) : Value := .agg g.enc.toArray
def zeroG : Geo := ⟨0, 0, 0, 0, 0⟩
def bndL : List Int := [4, 2, 4, 4, 4]
def okAt (g : Geo) (i : Nat) : Bool := decide (1 ≤ g.lst.getD i 0) && decide (g.lst.getD i 0 ≤ bndL.getD i 0)
def geoR (g : Geo) : Bool := okAt g 0 && okAt g 1 && okAt g 2 && okAt g 3 && okAt g 4
def BndM (w : World) : Prop := Cells w ⟨3, 0, none⟩ (bndL.map i64)
theorem BndM.below {w w2 : World} (h : BndM w) (hb : Below w.heap.size w w2) : BndM w2 := cells_below hb h
theorem geoR_spec {g : Geo} (h : geoR g = true) : (1 ≤ g.c ∧ g.c ≤ 4) ∧ (1 ≤ g.h ∧ g.h ≤ 2) ∧ (1 ≤ g.w ∧ g.w ≤ 4) ∧ (1 ≤ g.s ∧ g.s ≤ 4) ∧ 1 ≤ g.a ∧ g.a ≤ 4 := by
  simp only [geoR, okAt, Bool.and_eq_true, decide_eq_true_eq] at h
  obtain ⟨⟨⟨⟨h0, h1⟩, h2⟩, h3⟩, h4⟩ := h
  exact ⟨h0, h1, h2, h3, h4⟩

theorem partE_of {off sz : Nat} {cs : List Value} {v : Value} {K : Value → Prop} (h : cs[off]? = some v) (k : K v) : partE off sz false cs K := by
  unfold partE; rw [h]; exact k
theorem Right_geo_c (g : Geo) (w : World) (hB : BndM w) : Calls Tryd.prog 16 #[g.val] w fun e w' => e = .returned (.bool (geoR g)) ∧ Below w.heap.size w w' := by
  refine calls_of_E (S := sg 30) (sgOk _) (args := [g.val]) Tryd.func16 rfl rfl (Nat.le_of_ble_eq_true rfl) rfl ?_
  have hb0 : Below w.heap.size w (w.alloc (.cells g.val.cells 39)) := (Below.refl _ _).alloc (Nat.le_refl _) _
  have f0 := hnew w (.cells g.val.cells 39)
  refine ⟨_, cells_at (cells_block f0) (i := 0) rfl, ?_⟩
  refine ⟨_, cells_at (cells_block f0) (i := 1) rfl, ?_⟩
  refine ⟨_, cells_at (cells_block f0) (i := 2) rfl, ?_⟩
  refine ⟨_, cells_at (cells_block f0) (i := 3) rfl, ?_⟩
  refine ⟨_, cells_at (cells_block f0) (i := 4) rfl, ?_⟩
  refine ⟨g.enc, rfl, ?_⟩
  refine ⟨Nat, fun k => ⟨[(15, .agg g.enc.toArray), (16, i64 (k : Nat))], []⟩, fun k V => k ≤ 5 ∧ (∀ j, j < k → okAt g j = true) ∧ w.alloc (.cells g.val.cells 39) = V, fun k => 5 - k, 0,
    ⟨.cons rfl (.cons rfl .nil), rfl⟩, ⟨Nat.zero_le _, fun _ h => absurd h (by omega), rfl⟩, ?_⟩
  rintro k _ ⟨hk, hno, rfl⟩
  refine And.intro (fun h => ?_) (fun h => ?_)
  · have h : (k : Int) < 5 := of_decide_eq_true h
    have hk5 : k < 5 := by omega
    refine ⟨k, rfl, hk5, ?_⟩
    have hget : g.enc[k * 1]? = some (i64 (g.lst.getD k 0)) := by
      have h5 : k = 0 ∨ k = 1 ∨ k = 2 ∨ k = 3 ∨ k = 4 := by omega
      rcases h5 with rfl | rfl | rfl | rfl | rfl <;> rfl
    refine partE_of hget ?_
    refine And.intro (fun h1 => ?_) (fun h1 => ?_)
    · have h1 : g.lst.getD k 0 < 1 := of_decide_eq_true h1
      refine And.intro (fun _ => ?_) (fun h => by cases h)
      have hR : geoR g = false := by
        have hx : okAt g k = false := by unfold okAt; rw [decide_eq_false (by omega)]; rfl
        have h5 : k = 0 ∨ k = 1 ∨ k = 2 ∨ k = 3 ∨ k = 4 := by omega
        unfold geoR
        rcases h5 with rfl | rfl | rfl | rfl | rfl <;> simp [hx]
      exact And.intro (rb hR.symm) hb0
    · have h1 : ¬ g.lst.getD k 0 < 1 := of_decide_eq_false h1
      refine ⟨k, rfl, hk5, ?_⟩
      have hbk : (bndL.map i64)[k]? = some (i64 (bndL.getD k 0)) := by
        have h5 : k = 0 ∨ k = 1 ∨ k = 2 ∨ k = 3 ∨ k = 4 := by omega
        rcases h5 with rfl | rfl | rfl | rfl | rfl <;> rfl
      have hc := cells_at (hB.below hb0) hbk
      refine ⟨_, by rw [Nat.mul_one]; exact hc, ?_⟩
      refine And.intro (fun h2 => ?_) (fun h2 => ?_)
      · have h2 : bndL.getD k 0 < g.lst.getD k 0 := of_decide_eq_true h2
        have hR : geoR g = false := by
          have hx : okAt g k = false := by unfold okAt; rw [decide_eq_false (p := g.lst.getD k 0 ≤ bndL.getD k 0) (by omega), Bool.and_false]
          have h5 : k = 0 ∨ k = 1 ∨ k = 2 ∨ k = 3 ∨ k = 4 := by omega
          unfold geoR
          rcases h5 with rfl | rfl | rfl | rfl | rfl <;> simp [hx]
        exact And.intro (rb hR.symm) hb0
      · have h2 : ¬ bndL.getD k 0 < g.lst.getD k 0 := of_decide_eq_false h2
        refine ⟨(k + 1 : Nat), (wrap_i64 (by omega)).trans (by omega), ?_⟩
        refine ⟨k + 1, ⟨.cons rfl (.cons rfl .nil), rfl⟩, ⟨by omega, fun j hj => ?_, rfl⟩, by dsimp only; omega⟩
        by_cases e : j = k
        · subst e; unfold okAt; rw [decide_eq_true (p := g.lst.getD j 0 ≤ bndL.getD j 0) (by omega), decide_eq_true (by omega)]; rfl
        · exact hno j (by omega)
  · have h : ¬ (k : Int) < 5 := of_decide_eq_false h
    have hR : geoR g = true := by
      unfold geoR
      rw [hno 0 (by omega), hno 1 (by omega), hno 2 (by omega), hno 3 (by omega), hno 4 (by omega)]; rfl
    exact And.intro (rb hR.symm) hb0

/-- The geometry that a place holds. -/
def plc (g : Geo) : Geo := if geoR g then g else zeroG
theorem valid_c (g : Geo) (w : World) (hB : BndM w) : Calls Tryd.prog 31 #[g.val] w fun e w' => e = .returned (.tuple #[(plc g).val, .bool (geoR g)]) ∧ Below w.heap.size w w' := by
  refine calls_of_E (S := sg 10) (sgOk _) (args := [g.val]) Tryd.func31 rfl rfl (Nat.le_of_ble_eq_true rfl) rfl ?_
  obtain ⟨X, hX⟩ : ∃ X, X = (w.alloc (.cells g.val.cells 39)).alloc (.cells zeroG.val.cells 60) := ⟨_, rfl⟩
  have hb0 : Below w.heap.size w X := by rw [hX]; exact ((Below.refl _ _).alloc (Nat.le_refl _) _).alloc (by simp) _
  have f0 : X.heap[w.heap.size]? = some (.cells g.val.cells 39 (0, 0)) := by rw [hX]; exact hold _ (hnew w _)
  have f1 : X.heap[w.heap.size + 1]? = some (.cells zeroG.val.cells 60 (0, 0)) := by
    have := hnew (w.alloc (.cells g.val.cells 39)) (.cells zeroG.val.cells 60)
    rw [World.size_alloc] at this
    rw [hX]; exact this
  have es : (w.alloc (.cells g.val.cells 39)).heap.size = w.heap.size + 1 := World.size_alloc _ _
  refine ⟨g.enc, rfl, by rw [hX] at f0; exact cells_block f0, by rw [hX] at f0; exact hlt f0, ?_⟩
  have hr := Right_geo_c g X (hB.below hb0)
  rw [hX] at hr
  refine Calls.mono hr ?_
  rintro e V ⟨rfl, hb⟩
  rw [← hX] at hb
  have hw := hb0.trans (hb.mono hb0.size)
  have v0 := block_below hb f0
  have v1 := block_below hb f1
  refine And.intro (fun h => ?_) (fun h => ?_)
  · have h : geoR g = false := by
      have : (!geoR g) = true := h
      simpa using this
    have hp : plc g = zeroG := by unfold plc; rw [h]; rfl
    refine ⟨zeroG.enc, rfl, ?_⟩
    rw [es]
    refine store_box (v := zeroG.val) (ttOk.get 60 _ rfl) v1 (by rfl) rfl (by rfl) ?_
    refine ⟨zeroG.enc, rfl, cells_block (setRow_new v1), ?_⟩
    rw [hp, h]
    exact And.intro rfl (below_setRow hw (by omega) _)
  · have h : geoR g = true := by
      have : (!geoR g) = false := h
      simpa using this
    have hp : plc g = g := by unfold plc; rw [h]; rfl
    refine ⟨g.enc, rfl, cells_block v0, hlt v0, ?_⟩
    refine ⟨g.enc, rfl, ?_⟩
    rw [es]
    refine store_box (v := g.val) (ttOk.get 60 _ rfl) v1 (by rfl) rfl (by rfl) ?_
    refine ⟨g.enc, rfl, cells_block (setRow_new v1), ?_⟩
    rw [hp, h]
    exact And.intro rfl (below_setRow hw (by omega) _)
end Go.Proofs.YtoifcihikokpfaaDoor
