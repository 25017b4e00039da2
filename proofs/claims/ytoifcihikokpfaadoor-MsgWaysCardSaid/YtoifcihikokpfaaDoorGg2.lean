/- geo: Home, Nodes, Lines, IsCache, IsHome. -/
import Derived.Test.YtoifcihikokpfaaDoorGg1
import Derived.Test.YtoifcihikokpfaaDoorVcR
import Derived.Test.YtoifcihikokpfaaDoorVcJ
namespace Go.Proofs.YtoifcihikokpfaaDoor
open Go.Vc Go.RowKit Go.Sei

theorem geoR_nat {g : Geo} (h : geoR g = true) : ∃ c h w s a : Nat, g = ⟨c, h, w, s, a⟩ ∧ (1 ≤ c ∧ c ≤ 4) ∧ (1 ≤ h ∧ h ≤ 2) ∧ (1 ≤ w ∧ w ≤ 4) ∧ (1 ≤ s ∧ s ≤ 4) ∧ 1 ≤ a ∧ a ≤ 4 := by
  have k := geoR_spec h
  obtain ⟨c, h2, w, s, a⟩ := g
  dsimp only at k
  exact ⟨c.toNat, h2.toNat, w.toNat, s.toNat, a.toNat, by congr 1 <;> omega, by omega, by omega, by omega, by omega, by omega, by omega⟩
theorem not_t {b : Bool} (h : (!b) = true) : b = false := by simpa using h
theorem not_f {b : Bool} (h : (!b) = false) : b = true := by simpa using h
theorem u8_of {n : Nat} (h : n < 256) : u8 (UInt8.ofNat n) = .int .u8 (n : Nat) := by
  unfold u8
  rw [UInt8.toNat_ofNat', Nat.mod_eq_of_lt h]
theorem tdiv_nat (a b : Nat) : (a : Int).tdiv (b : Int) = ((a / b : Nat) : Int) := rfl
theorem tmod_nat (a b : Nat) : (a : Int).tmod (b : Int) = ((a % b : Nat) : Int) := rfl

def homeOf (g : Geo) (n : UInt8) : UInt8 := if geoR g then UInt8.ofNat (g.c.toNat + n.toNat % g.h.toNat) else 0
def nodesOf (g : Geo) : Int := if geoR g then g.c + g.h else 0
def linesOf (g : Geo) : Int := if geoR g then ((5 / g.w.toNat : Nat) : Int) + 1 else 0
def lineOf (g : Geo) (n : UInt8) : UInt8 := UInt8.ofNat (n.toNat / g.w.toNat)
def amongOf (first many : Int) (n : UInt8) : Bool := decide (first ≤ n.toNat) && decide ((n.toNat : Int) < first + many)
def isCache (g : Geo) (n : UInt8) : Bool := geoR g && amongOf 0 g.c n
def isHome (g : Geo) (n : UInt8) : Bool := geoR g && amongOf g.c g.h n

theorem Home_c (g : Geo) (n : UInt8) (w : World) (hB : BndM w) : Calls Tryd.prog 15 #[g.val, u8 n] w fun e w' => e = .returned (u8 (homeOf g n)) ∧ Below w.heap.size w w' := by
  refine calls_of_E (S := sg 25) (sgOk _) (args := [g.val, u8 n]) Tryd.func15 rfl rfl (Nat.le_of_ble_eq_true rfl) rfl ?_
  have hb0 : Below w.heap.size w (w.alloc (.cells g.val.cells 39)) := (Below.refl _ _).alloc (Nat.le_refl _) _
  have f0 := hnew w (.cells g.val.cells 39)
  refine ⟨g.enc, rfl, cells_block f0, hlt f0, ?_⟩
  refine Calls.mono (valid_c g _ (hB.below hb0)) ?_
  rintro e V ⟨rfl, hb⟩
  have hw := hb0.trans (hb.mono hb0.size)
  refine store_new (X := V) (v := (plc g).val) (ttOk.get 60 _ rfl) (by rfl) rfl (by rfl) fun Y hbY fY sY => ?_
  have hwY := hw.trans (hbY.mono hw.size)
  refine And.intro (fun h => ?_) (fun h => ?_)
  · have hR := not_t h
    have : homeOf g n = 0 := by unfold homeOf; rw [hR]; rfl
    rw [this]
    exact And.intro rfl hwY
  · have hR := not_f h
    have hp : plc g = g := by unfold plc; rw [hR]; rfl
    rw [hp] at fY
    clear h
    obtain ⟨c, h, w', s, a, rfl, hc, hh, _⟩ := geoR_nat hR
    refine DrawE.ord [] [0, 1, 2, 3, 4, 5, 6, 7, 8, 9, 10, 11] (by kernel_rfl) ?_
    refine ⟨_, cells_at (cells_block (hdr fY)) (i := 0) rfl, ?_⟩
    refine ⟨(c : Int), wrap_u8 (by show 0 ≤ (c : Int) ∧ (c : Int) ≤ 255; omega), ?_⟩
    refine ⟨_, cells_at (cells_block (hdr fY)) (i := 1) rfl, ?_⟩
    refine ⟨(h : Int), wrap_u8 (by show 0 ≤ (h : Int) ∧ (h : Int) ≤ 255; omega), ?_⟩
    obtain ⟨q, hq⟩ : ∃ q, q = n.toNat % h := ⟨_, rfl⟩
    have hm : n.toNat % h < h := Nat.mod_lt _ (by omega)
    rw [← hq] at hm
    refine ⟨by omega, (q : Int), by rw [tmod_nat, ← hq], ?_⟩
    refine ⟨((c + q : Nat) : Int), (wrap_u8 (by omega)).trans (by omega), ?_⟩
    refine And.intro ?_ hwY.drew
    have : homeOf ⟨c, h, w', s, a⟩ n = UInt8.ofNat (c + q) := by unfold homeOf; rw [hR, hq]; rfl
    rw [this, u8_of (by omega)]; rfl

theorem Nodes_c (g : Geo) (w : World) (hB : BndM w) : Calls Tryd.prog 17 #[g.val] w fun e w' => e = .returned (i64 (nodesOf g)) ∧ Below w.heap.size w w' := by
  refine calls_of_E (S := sg 19) (sgOk _) (args := [g.val]) Tryd.func17 rfl rfl (Nat.le_of_ble_eq_true rfl) rfl ?_
  have hb0 : Below w.heap.size w (w.alloc (.cells g.val.cells 39)) := (Below.refl _ _).alloc (Nat.le_refl _) _
  have f0 := hnew w (.cells g.val.cells 39)
  refine ⟨g.enc, rfl, cells_block f0, hlt f0, ?_⟩
  refine Calls.mono (valid_c g _ (hB.below hb0)) ?_
  rintro e V ⟨rfl, hb⟩
  have hw := hb0.trans (hb.mono hb0.size)
  refine store_new (X := V) (v := (plc g).val) (ttOk.get 60 _ rfl) (by rfl) rfl (by rfl) fun Y hbY fY sY => ?_
  have hwY := hw.trans (hbY.mono hw.size)
  refine And.intro (fun h => ?_) (fun h => ?_)
  · have hR := not_t h
    have : nodesOf g = 0 := by unfold nodesOf; rw [hR]; rfl
    rw [this]
    exact And.intro rfl hwY
  · have hR := not_f h
    have hp : plc g = g := by unfold plc; rw [hR]; rfl
    rw [hp] at fY
    have hs := geoR_spec hR
    refine ⟨_, cells_at (cells_block fY) (i := 0) rfl, ?_⟩
    refine ⟨_, cells_at (cells_block fY) (i := 1) rfl, ?_⟩
    refine ⟨g.c + g.h, wrap_i64 (by omega), ?_⟩
    refine And.intro ?_ hwY
    have : nodesOf g = g.c + g.h := by unfold nodesOf; rw [hR]; rfl
    rw [this]; rfl

theorem line_c (g : Geo) (hR : geoR g = true) (n : UInt8) (w : World) : Calls Tryd.prog 45 #[g.val, u8 n] w fun e w' => e = .returned (u8 (lineOf g n)) ∧ Below w.heap.size w w' := by
  refine calls_of_E (S := sg 11) (sgOk _) (args := [g.val, u8 n]) Tryd.func45 rfl rfl (Nat.le_of_ble_eq_true rfl) rfl ?_
  have hb0 : Below w.heap.size w (w.alloc (.cells g.val.cells 60)) := (Below.refl _ _).alloc (Nat.le_refl _) _
  have f0 := hnew w (.cells g.val.cells 60)
  obtain ⟨c, h, w', s, a, rfl, hc, hh, hw, _⟩ := geoR_nat hR
  refine ⟨_, cells_at (cells_block f0) (i := 2) rfl, ?_⟩
  refine ⟨(w' : Int), wrap_u8 (by show 0 ≤ (w' : Int) ∧ (w' : Int) ≤ 255; omega), ?_⟩
  have hn := n.toNat_lt
  have hd : n.toNat / w' ≤ n.toNat := Nat.div_le_self _ _
  obtain ⟨q, hq⟩ : ∃ q, q = n.toNat / w' := ⟨_, rfl⟩
  rw [← hq] at hd
  refine ⟨by omega, (q : Int), by rw [tdiv_nat, ← hq]; exact wrap_u8 (by omega), ?_⟩
  refine And.intro ?_ hb0
  have e1 : lineOf ⟨c, h, w', s, a⟩ n = UInt8.ofNat q := by rw [hq]; rfl
  rw [e1, u8_of (by omega)]; rfl

theorem Lines_c (g : Geo) (w : World) (hB : BndM w) : Calls Tryd.prog 27 #[g.val] w fun e w' => e = .returned (i64 (linesOf g)) ∧ Below w.heap.size w w' := by
  refine calls_of_E (S := sg 16) (sgOk _) (args := [g.val]) Tryd.func27 rfl rfl (Nat.le_of_ble_eq_true rfl) rfl ?_
  have hb0 : Below w.heap.size w (w.alloc (.cells g.val.cells 39)) := (Below.refl _ _).alloc (Nat.le_refl _) _
  have f0 := hnew w (.cells g.val.cells 39)
  refine ⟨g.enc, rfl, cells_block f0, hlt f0, ?_⟩
  refine Calls.mono (valid_c g _ (hB.below hb0)) ?_
  rintro e V ⟨rfl, hb⟩
  have hw := hb0.trans (hb.mono hb0.size)
  refine store_new (X := V) (v := (plc g).val) (ttOk.get 60 _ rfl) (by rfl) rfl (by rfl) fun Y hbY fY sY => ?_
  have hwY := hw.trans (hbY.mono hw.size)
  refine And.intro (fun h => ?_) (fun h => ?_)
  · have hR := not_t h
    have : linesOf g = 0 := by unfold linesOf; rw [hR]; rfl
    rw [this]
    exact And.intro rfl hwY
  · have hR := not_f h
    have hp : plc g = g := by unfold plc; rw [hR]; rfl
    rw [hp] at fY
    refine ⟨g.enc, rfl, cells_block fY, hlt fY, ?_⟩
    refine Calls.mono (line_c g hR 5 Y) ?_
    rintro e Z ⟨rfl, hbZ⟩
    have hd : (5 : UInt8).toNat / g.w.toNat ≤ 5 := Nat.div_le_self _ _
    have hu : (lineOf g 5).toNat = 5 / g.w.toNat := by
      unfold lineOf
      rw [UInt8.toNat_ofNat']
      exact Nat.mod_eq_of_lt (by omega)
    refine ⟨((lineOf g 5).toNat : Int), wrap_u8_i64 _, ?_⟩
    refine ⟨((5 / g.w.toNat : Nat) : Int) + 1, by rw [hu]; have : 5 / g.w.toNat ≤ 5 := hd; exact wrap_i64 (by omega), ?_⟩
    refine And.intro ?_ (hwY.trans (hbZ.mono hwY.size))
    have : linesOf g = ((5 / g.w.toNat : Nat) : Int) + 1 := by unfold linesOf; rw [hR]; rfl
    rw [this]; rfl

theorem among_c (v : Value) (first many : Int) (w : World) : Calls Tryd.prog 32 #[v, i64 first, i64 many] w fun e w' =>
    ∃ p q, e = .returned (.func (.func 47) #[] #[.pointer (some ⟨p, 0, none⟩), .pointer (some ⟨q, 0, none⟩)]) ∧ w'.heap[p]? = some (.cells #[i64 first] 3 (0, 0)) ∧ w'.heap[q]? = some (.cells #[i64 many] 3 (0, 0)) ∧ Below w.heap.size w w' := by
  refine calls_of_E (S := sg 8) (sgOk _) (args := [v, i64 first, i64 many]) Tryd.func32 rfl rfl (Nat.le_of_ble_eq_true rfl) rfl ?_
  exact ⟨_, _, rfl, hold _ (hnew _ _), hnew _ _, (((Below.refl _ _).alloc (Nat.le_refl _) _).alloc (by simp) _).alloc (by simp; omega) _⟩
theorem among1_c (n : UInt8) (p q : Nat) (first many : Int) (hr : (0 ≤ first ∧ first ≤ 100) ∧ 0 ≤ many ∧ many ≤ 100) (w : World) (hp : w.heap[p]? = some (.cells #[i64 first] 3 (0, 0))) (hq : w.heap[q]? = some (.cells #[i64 many] 3 (0, 0))) :
    Calls Tryd.prog 47 #[u8 n, .pointer (some ⟨p, 0, none⟩), .pointer (some ⟨q, 0, none⟩)] w fun e w' => e = .returned (.bool (amongOf first many n)) ∧ w = w' := by
  refine calls_of_E (S := sg 17) (sgOk _) (args := [u8 n, .pointer (some ⟨p, 0, none⟩), .pointer (some ⟨q, 0, none⟩)]) Tryd.func47 rfl rfl (Nat.le_of_ble_eq_true rfl) rfl ?_
  refine ⟨_, wrap_u8_i64 n, ?_⟩
  refine ⟨_, cells_head (cells_block hp), ?_⟩
  refine And.intro (fun h => ?_) (fun h => ?_)
  · have h : first ≤ (n.toNat : Int) := of_decide_eq_true h
    refine ⟨_, wrap_u8_i64 n, ?_⟩
    refine ⟨_, cells_head (cells_block hp), ?_⟩
    refine ⟨_, cells_head (cells_block hq), ?_⟩
    refine ⟨first + many, wrap_i64 (by omega), ?_⟩
    refine And.intro (rb ?_) rfl
    unfold amongOf
    rw [decide_eq_true h, Bool.true_and]
  · have h : ¬ first ≤ (n.toNat : Int) := of_decide_eq_false h
    refine And.intro (rb ?_) rfl
    unfold amongOf
    rw [decide_eq_false h, Bool.false_and]

theorem IsCache_c (g : Geo) (n : UInt8) (w : World) (hB : BndM w) : Calls Tryd.prog 18 #[g.val, u8 n] w fun e w' => e = .returned (.bool (isCache g n)) ∧ Below w.heap.size w w' := by
  refine calls_of_E (S := sg 22) (sgOk _) (args := [g.val, u8 n]) Tryd.func18 rfl rfl (Nat.le_of_ble_eq_true rfl) rfl ?_
  have hb0 : Below w.heap.size w (w.alloc (.cells g.val.cells 39)) := (Below.refl _ _).alloc (Nat.le_refl _) _
  have f0 := hnew w (.cells g.val.cells 39)
  refine ⟨g.enc, rfl, cells_block f0, hlt f0, ?_⟩
  refine Calls.mono (valid_c g _ (hB.below hb0)) ?_
  rintro e V ⟨rfl, hb⟩
  have hw := hb0.trans (hb.mono hb0.size)
  refine store_new (X := V) (v := (plc g).val) (ttOk.get 60 _ rfl) (by rfl) rfl (by rfl) fun Y hbY fY sY => ?_
  have hwY := hw.trans (hbY.mono hw.size)
  refine And.intro (fun hR => ?_) (fun hR => ?_)
  · have hp : plc g = g := by unfold plc; rw [hR]; rfl
    have hs := geoR_spec hR
    rw [hp] at fY
    refine ⟨g.enc, rfl, cells_block fY, hlt fY, ?_⟩
    refine ⟨_, cells_at (cells_block fY) (i := 0) rfl, ?_⟩
    refine Calls.mono (among_c g.val 0 g.c Y) ?_
    rintro e Z ⟨p, q, rfl, z1, z2, hbZ⟩
    refine Calls.mono (among1_c n p q 0 g.c (by omega) Z z1 z2) ?_
    rintro e _ ⟨rfl, rfl⟩
    have : isCache g n = amongOf 0 g.c n := by unfold isCache; rw [hR]; rfl
    rw [this, hR]
    exact And.intro rfl (hwY.trans (hbZ.mono hwY.size))
  · have : isCache g n = false := by unfold isCache; rw [hR]; rfl
    rw [this, hR]
    exact And.intro rfl hwY
theorem IsHome_c (g : Geo) (n : UInt8) (w : World) (hB : BndM w) : Calls Tryd.prog 19 #[g.val, u8 n] w fun e w' => e = .returned (.bool (isHome g n)) ∧ Below w.heap.size w w' := by
  refine calls_of_E (S := sg 25) (sgOk _) (args := [g.val, u8 n]) Tryd.func19 rfl rfl (Nat.le_of_ble_eq_true rfl) rfl ?_
  have hb0 : Below w.heap.size w (w.alloc (.cells g.val.cells 39)) := (Below.refl _ _).alloc (Nat.le_refl _) _
  have f0 := hnew w (.cells g.val.cells 39)
  refine ⟨g.enc, rfl, cells_block f0, hlt f0, ?_⟩
  refine Calls.mono (valid_c g _ (hB.below hb0)) ?_
  rintro e V ⟨rfl, hb⟩
  have hw := hb0.trans (hb.mono hb0.size)
  refine store_new (X := V) (v := (plc g).val) (ttOk.get 60 _ rfl) (by rfl) rfl (by rfl) fun Y hbY fY sY => ?_
  have hwY := hw.trans (hbY.mono hw.size)
  refine And.intro (fun hR => ?_) (fun hR => ?_)
  · have hp : plc g = g := by unfold plc; rw [hR]; rfl
    have hs := geoR_spec hR
    rw [hp] at fY
    refine ⟨g.enc, rfl, cells_block fY, hlt fY, ?_⟩
    refine ⟨_, cells_at (cells_block fY) (i := 0) rfl, ?_⟩
    refine ⟨_, cells_at (cells_block fY) (i := 1) rfl, ?_⟩
    refine Calls.mono (among_c g.val g.c g.h Y) ?_
    rintro e Z ⟨p, q, rfl, z1, z2, hbZ⟩
    refine Calls.mono (among1_c n p q g.c g.h (by omega) Z z1 z2) ?_
    rintro e _ ⟨rfl, rfl⟩
    have : isHome g n = amongOf g.c g.h n := by unfold isHome; rw [hR]; rfl
    rw [this, hR]
    exact And.intro rfl (hwY.trans (hbZ.mono hwY.size))
  · have : isHome g n = false := by unfold isHome; rw [hR]; rfl
    rw [this, hR]
    exact And.intro rfl hwY
end Go.Proofs.YtoifcihikokpfaaDoor
