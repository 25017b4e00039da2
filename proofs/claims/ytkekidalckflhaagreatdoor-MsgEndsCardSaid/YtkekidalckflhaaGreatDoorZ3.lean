/- geo's reference: Right, Line, Locs, Lines, Home, IsCache. The law MsgWays: plain facts of valid messages. -/
import Derived.Test.YtkekidalckflhaaGreatDoorZ2
namespace Go.Proofs.YtkekidalckflhaaGreatDoor
open Go.Vc Go.RowKit Go.Sei

theorem within_c (n most : Int) (w : World) : Calls Tryz.prog 43 #[i64 n, i64 most] w fun e w' => e = .returned (.bool (decide (1 ≤ n) && decide (n ≤ most))) ∧ w = w' := by
  refine calls_of_E (S := sg 12) (sgOk _) (args := [i64 n, i64 most]) Tryz.func43 rfl rfl (Nat.le_of_ble_eq_true rfl) rfl ?_
  refine And.intro (fun h => ?_) (fun h => ?_)
  · have h : decide (1 ≤ n) = true := h
    exact And.intro (rb (by rw [h]; rfl)) rfl
  · have h : decide (1 ≤ n) = false := h
    exact And.intro (rb (by rw [h]; rfl)) rfl
theorem ok_at (g : Geo) : okAt g 0 = (decide (1 ≤ g.c) && decide (g.c ≤ 4)) ∧ okAt g 1 = (decide (1 ≤ g.h) && decide (g.h ≤ 2)) ∧ okAt g 2 = (decide (1 ≤ g.w) && decide (g.w ≤ 4)) ∧ okAt g 3 = (decide (1 ≤ g.s) && decide (g.s ≤ 4)) ∧ okAt g 4 = (decide (1 ≤ g.a) && decide (g.a ≤ 4)) := ⟨rfl, rfl, rfl, rfl, rfl⟩
theorem RightR_geo_c (g : Geo) (w : World) : Calls Tryz.prog 23 #[g.val] w fun e w' => e = .returned (.bool (geoR g)) ∧ Below w.heap.size w w' := by
  refine calls_of_E (S := sg 26) (sgOk _) (args := [g.val]) Tryz.func23 rfl rfl (Nat.le_of_ble_eq_true rfl) rfl ?_
  have hb0 : Below w.heap.size w (w.alloc (.cells g.val.cells 23)) := (Below.refl _ _).alloc (Nat.le_refl _) _
  have f0 := hnew w (.cells g.val.cells 23)
  have c0 := cells_block f0
  obtain ⟨o0, o1, o2, o3, o4⟩ := ok_at g
  refine ⟨_, cells_at c0 (i := 0) rfl, ?_⟩
  refine Calls.mono (within_c g.c 4 _) ?_
  rintro e _ ⟨rfl, rfl⟩
  rw [← o0]
  refine And.intro (fun h0 => ?_) (fun h0 => ?_)
  · refine ⟨_, cells_at c0 (i := 1) rfl, ?_⟩
    refine Calls.mono (within_c g.h 2 _) ?_
    rintro e _ ⟨rfl, rfl⟩
    rw [← o1]
    refine And.intro (fun h1 => ?_) (fun h1 => ?_)
    · refine ⟨_, cells_at c0 (i := 2) rfl, ?_⟩
      refine Calls.mono (within_c g.w 4 _) ?_
      rintro e _ ⟨rfl, rfl⟩
      rw [← o2]
      refine And.intro (fun h2 => ?_) (fun h2 => ?_)
      · refine ⟨_, cells_at c0 (i := 3) rfl, ?_⟩
        refine Calls.mono (within_c g.s 4 _) ?_
        rintro e _ ⟨rfl, rfl⟩
        rw [← o3]
        refine And.intro (fun h3 => ?_) (fun h3 => ?_)
        · refine ⟨_, cells_at c0 (i := 4) rfl, ?_⟩
          refine Calls.mono (within_c g.a 4 _) ?_
          rintro e _ ⟨rfl, rfl⟩
          rw [← o4]
          exact And.intro (rb (by unfold geoR; rw [h0, h1, h2, h3]; rfl)) hb0
        · exact And.intro (rb (by unfold geoR; rw [h0, h1, h2, h3]; rfl)) hb0
      · refine And.intro (fun h => by cases h) (fun _ => ?_)
        exact And.intro (rb (by unfold geoR; rw [h0, h1, h2]; rfl)) hb0
    · refine And.intro (fun h => by cases h) (fun _ => ?_)
      refine And.intro (fun h => by cases h) (fun _ => ?_)
      exact And.intro (rb (by unfold geoR; rw [h0, h1]; rfl)) hb0
  · refine And.intro (fun h => by cases h) (fun _ => ?_)
    refine And.intro (fun h => by cases h) (fun _ => ?_)
    refine And.intro (fun h => by cases h) (fun _ => ?_)
    exact And.intro (rb (by unfold geoR; rw [h0]; rfl)) hb0

theorem HomeR_c (g : Geo) (n : UInt8) (w : World) : Calls Tryz.prog 25 #[g.val, u8 n] w fun e w' => e = .returned (u8 (homeOf g n)) ∧ Below w.heap.size w w' := by
  refine calls_of_E (S := sg 17) (sgOk _) (args := [g.val, u8 n]) Tryz.func25 rfl rfl (Nat.le_of_ble_eq_true rfl) rfl ?_
  have hb0 : Below w.heap.size w (w.alloc (.cells g.val.cells 23)) := (Below.refl _ _).alloc (Nat.le_refl _) _
  have f0 := hnew w (.cells g.val.cells 23)
  refine ⟨g.enc, rfl, cells_block f0, hlt f0, ?_⟩
  refine Calls.mono (RightR_geo_c g _) ?_
  rintro e V ⟨rfl, hb⟩
  have hw := hb0.trans (hb.mono hb0.size)
  have fY := block_below hb f0
  refine And.intro (fun h => ?_) (fun h => ?_)
  · have hR := not_t h
    have : homeOf g n = 0 := by unfold homeOf; rw [hR]; rfl
    rw [this]
    exact And.intro rfl hw
  · have hR := not_f h
    clear h
    obtain ⟨c, h, w', s, a, rfl, hc, hh, _⟩ := geoR_nat hR
    refine DrawE.ord [] [0, 1, 2, 3, 4, 5, 6, 7, 8, 9] (by kernel_rfl) ?_
    refine ⟨_, cells_at (cells_block (hdr fY)) (i := 0) rfl, ?_⟩
    refine ⟨(c : Int), wrap_u8 (by show 0 ≤ (c : Int) ∧ (c : Int) ≤ 255; omega), ?_⟩
    refine ⟨_, cells_at (cells_block (hdr fY)) (i := 1) rfl, ?_⟩
    refine ⟨(h : Int), wrap_u8 (by show 0 ≤ (h : Int) ∧ (h : Int) ≤ 255; omega), ?_⟩
    obtain ⟨q, hq⟩ : ∃ q, q = n.toNat % h := ⟨_, rfl⟩
    have hm : n.toNat % h < h := Nat.mod_lt _ (by omega)
    rw [← hq] at hm
    refine ⟨by omega, (q : Int), by rw [tmod_nat, ← hq], ?_⟩
    refine ⟨((c + q : Nat) : Int), (wrap_u8 (by omega)).trans (by omega), ?_⟩
    refine And.intro ?_ hw.drew
    have : homeOf ⟨c, h, w', s, a⟩ n = UInt8.ofNat (c + q) := by unfold homeOf; rw [hR, hq]; rfl
    rw [this, u8_of (by omega)]; rfl
theorem isCache_eq (g : Geo) (n : UInt8) : isCache g n = (geoR g && decide ((n.toNat : Int) < g.c)) := by
  unfold isCache amongOf
  rw [decide_eq_true (p := (0 : Int) ≤ n.toNat) (by omega), Bool.true_and, Int.zero_add]
theorem IsCacheR_c (g : Geo) (n : UInt8) (w : World) : Calls Tryz.prog 26 #[g.val, u8 n] w fun e w' => e = .returned (.bool (isCache g n)) ∧ Below w.heap.size w w' := by
  refine calls_of_E (S := sg 14) (sgOk _) (args := [g.val, u8 n]) Tryz.func26 rfl rfl (Nat.le_of_ble_eq_true rfl) rfl ?_
  have hb0 : Below w.heap.size w (w.alloc (.cells g.val.cells 23)) := (Below.refl _ _).alloc (Nat.le_refl _) _
  have f0 := hnew w (.cells g.val.cells 23)
  refine ⟨g.enc, rfl, cells_block f0, hlt f0, ?_⟩
  refine Calls.mono (RightR_geo_c g _) ?_
  rintro e V ⟨rfl, hb⟩
  have hw := hb0.trans (hb.mono hb0.size)
  rw [isCache_eq]
  refine And.intro (fun hR => ?_) (fun hR => ?_)
  · refine ⟨_, wrap_u8_i64 n, ?_⟩
    refine ⟨_, cells_at (cells_block (block_below hb f0)) (i := 0) rfl, ?_⟩
    exact And.intro (rb (by rw [hR]; rfl)) hw
  · exact And.intro (rb (by rw [hR]; rfl)) hw

def lineR (g : Geo) (n : UInt8) : UInt8 := if geoR g then lineOf g n else 0
theorem LineR_c (g : Geo) (n : UInt8) (w : World) : Calls Tryz.prog 59 #[g.val, u8 n] w fun e w' => e = .returned (u8 (lineR g n)) ∧ Below w.heap.size w w' := by
  refine calls_of_E (S := sg 13) (sgOk _) (args := [g.val, u8 n]) Tryz.func59 rfl rfl (Nat.le_of_ble_eq_true rfl) rfl ?_
  have hb0 : Below w.heap.size w (w.alloc (.cells g.val.cells 23)) := (Below.refl _ _).alloc (Nat.le_refl _) _
  have f0 := hnew w (.cells g.val.cells 23)
  refine ⟨g.enc, rfl, cells_block f0, hlt f0, ?_⟩
  refine Calls.mono (RightR_geo_c g _) ?_
  rintro e V ⟨rfl, hb⟩
  have hw := hb0.trans (hb.mono hb0.size)
  have fY := block_below hb f0
  refine And.intro (fun h => ?_) (fun h => ?_)
  · have hR := not_t h
    have : lineR g n = 0 := by unfold lineR; rw [hR]; rfl
    rw [this]
    exact And.intro rfl hw
  · have hR := not_f h
    clear h
    obtain ⟨c, h, w', s, a, rfl, hc, hh, hww, _⟩ := geoR_nat hR
    refine ⟨_, cells_at (cells_block fY) (i := 2) rfl, ?_⟩
    refine ⟨(w' : Int), wrap_u8 (by show 0 ≤ (w' : Int) ∧ (w' : Int) ≤ 255; omega), ?_⟩
    have hn := n.toNat_lt
    have hd : n.toNat / w' ≤ n.toNat := Nat.div_le_self _ _
    obtain ⟨q, hq⟩ : ∃ q, q = n.toNat / w' := ⟨_, rfl⟩
    rw [← hq] at hd
    refine ⟨by omega, (q : Int), by rw [tdiv_nat, ← hq]; exact wrap_u8 (by omega), ?_⟩
    refine And.intro ?_ hw
    have e1 : lineR ⟨c, h, w', s, a⟩ n = UInt8.ofNat q := by unfold lineR; rw [hR, hq]; rfl
    rw [e1, u8_of (by omega)]; rfl

def locsN (g : Geo) (n : UInt8) : Nat → List UInt8
  | 0 => []
  | k + 1 => if geoR g = true ∧ lineR g (UInt8.ofNat k) = n then locsN g n k ++ [UInt8.ofNat k] else locsN g n k
theorem locsN_len (g : Geo) (n : UInt8) : ∀ k, (locsN g n k).length ≤ k
  | 0 => Nat.le_refl _
  | k + 1 => by
    unfold locsN
    have := locsN_len g n k
    split
    · simp; omega
    · omega
theorem u8n {k : Nat} (h : k < 256) : ((UInt8.ofNat k).toNat : Int) = (k : Int) := by rw [UInt8.toNat_ofNat', Nat.mod_eq_of_lt h]
theorem LocsR_c (g : Geo) (n : UInt8) (w : World) : Calls Tryz.prog 44 #[g.val, u8 n] w fun e w' => ∃ p cap, e = .returned (.slice p (locsN g n 6).length cap) ∧ Below w.heap.size w w' := by
  refine calls_of_M (S := sg 25) (sgOk _) (args := [g.val, u8 n]) (.s .p (.s .p (.s .p .p))) Tryz.func44 rfl rfl (Nat.le_of_ble_eq_true rfl) rfl ?_
  have hb0 : Below w.heap.size w (w.alloc (.cells g.val.cells 23)) := (Below.refl _ _).alloc (Nat.le_refl _) _
  have f0 := hnew w (.cells g.val.cells 23)
  refine ⟨Nat × Option Addr × Nat, fun t => ⟨[(1, u8 n), (2, .pointer (some ⟨w.heap.size, 0, none⟩)), (5, .slice t.2.1 (locsN g n t.1).length t.2.2), (6, u8 (UInt8.ofNat t.1))], []⟩,
    fun t V => t.1 ≤ 6 ∧ (geoR g = true ∨ t.1 = 0) ∧ OwnS byteE 5 (w.heap.size + 1) V t.2.1 t.2.2 (locsN g n t.1) ∧ V.heap[w.heap.size]? = some (.cells g.val.cells 23 (0, 0)) ∧ Below w.heap.size w V, fun t => 6 - t.1, (0, none, 0),
    ⟨.cons rfl (.cons rfl (.cons rfl (.cons rfl .nil))), rfl⟩, ⟨by decide, .inr rfl, .nil, f0, hb0⟩, ?_⟩
  rintro ⟨k, p, cap⟩ V ⟨hk, hgk, ho, fV, hb⟩
  dsimp only at hk hgk ho
  have hku := u8n (show k < 256 by omega)
  have hsz : w.heap.size < V.heap.size := hlt fV
  refine And.intro (fun h => ?_) (fun h => ?_)
  · have h : ((UInt8.ofNat k).toNat : Int) < 6 := of_decide_eq_true h
    have hk6 : k < 6 := by omega
    refine ⟨g.enc, rfl, cells_block fV, hlt fV, ?_⟩
    refine Calls.mono (RightR_geo_c g V) ?_
    rintro e V1 ⟨rfl, hb1⟩
    have h1 := hb.trans (hb1.mono hb.size)
    have f1 := block_below hb1 fV
    refine And.intro (fun hR => ?_) (fun hR => ?_)
    · have hR : geoR g = true := hR
      refine ⟨g.enc, rfl, cells_block f1, hlt f1, ?_⟩
      refine Calls.mono (LineR_c g (UInt8.ofNat k) V1) ?_
      rintro e V2 ⟨rfl, hb2⟩
      have h2 := h1.trans (hb2.mono h1.size)
      have f2 := block_below hb2 f1
      have ho2 := (ho.below hb1).below hb2
      have hnext : IntKind.u8.wrap (((UInt8.ofNat k).toNat : Int) + 1) = ((UInt8.ofNat (k + 1)).toNat : Int) := by
        rw [u8n (show k + 1 < 256 by omega), hku]; exact wrap_u8 (by omega)
      refine And.intro (fun h3 => ?_) (fun h3 => ?_)
      · have h3 : lineR g (UInt8.ofNat k) = n := u8_eq.1 (of_decide_eq_true h3)
        have ek : locsN g n (k + 1) = locsN g n k ++ [UInt8.ofNat k] := by show (if _ then _ else _) = _; rw [if_pos ⟨hR, h3⟩]
        have hll := locsN_len g n k
        refine ⟨⟨by decide, by decide, rfl⟩, [u8 (UInt8.ofNat k)], rfl, ?_⟩
        refine app_own (E := byteE) (news := [UInt8.ofNat k]) (B := w.heap.size + 1) Tryz.underlying33 (ttOk.get 5 _ rfl) rfl rfl rfl (ho2.alloc _) rfl cells_new (by have := h2.size; have := hlt f2; simp; omega) (by show (locsN g n k).length + 1 ≤ _; omega) (by show ((locsN g n k).length + 1) * 1 ≤ _; omega) ?_
        intro p' cap' W ho' hg' hb' _
        have hbW : Below w.heap.size w W := (h2.alloc h2.size _).trans (hb'.mono (by omega))
        have fW : W.heap[w.heap.size]? = some (.cells g.val.cells 23 (0, 0)) := by
          rw [hb'.block _ (by omega)]; exact hold _ f2
        refine ⟨_, hnext, ?_⟩
        refine ⟨(k + 1, p', cap'), ⟨.cons rfl (.cons rfl (.cons (by rw [ek]; rfl) (.cons rfl .nil))), rfl⟩, ⟨by dsimp only; omega, .inl hR, by dsimp only; rw [ek]; exact ho', fW, hbW⟩, by dsimp only; omega⟩
      · have h3 : ¬ lineR g (UInt8.ofNat k) = n := fun e => absurd (u8_eq.2 e) (of_decide_eq_false h3)
        have ek : locsN g n (k + 1) = locsN g n k := by show (if _ then _ else _) = _; rw [if_neg (fun e => h3 e.2)]
        refine ⟨_, hnext, ?_⟩
        refine ⟨(k + 1, p, cap), ⟨.cons rfl (.cons rfl (.cons (by rw [ek]; rfl) (.cons rfl .nil))), rfl⟩, ⟨by dsimp only; omega, .inl hR, by dsimp only; rw [ek]; exact ho2, f2, h2⟩, by dsimp only; omega⟩
    · have hR : geoR g = false := hR
      have hz : ∀ j, locsN g n j = [] := by
        intro j
        induction j with
        | zero => rfl
        | succ j ih => show (if _ then _ else _) = _; rw [if_neg (fun e => by rw [hR] at e; cases e.1), ih]
      rw [hz]
      have e0 : (locsN g n k).length = 0 := by rw [hz]; rfl
      refine ⟨p, cap, ?_, h1⟩
      rw [e0]; rfl
  · have h : ¬ ((UInt8.ofNat k).toNat : Int) < 6 := of_decide_eq_false h
    have : k = 6 := by omega
    subst this
    refine And.intro (fun h => by cases h) (fun _ => ?_)
    exact ⟨p, cap, rfl, hb⟩

def linesN (g : Geo) : Nat → Nat
  | 0 => 0
  | k + 1 => linesN g k + if (locsN g (UInt8.ofNat k) 6).length = 0 then 0 else 1
theorem linesN_le (g : Geo) : ∀ k, linesN g k ≤ k
  | 0 => Nat.le_refl _
  | k + 1 => by
    have := linesN_le g k
    unfold linesN; split <;> omega
def locsW (w' : Nat) (n : UInt8) : Nat → List UInt8
  | 0 => []
  | k + 1 => if UInt8.ofNat ((UInt8.ofNat k).toNat / w') = n then locsW w' n k ++ [UInt8.ofNat k] else locsW w' n k
def linesW (w' : Nat) : Nat → Nat
  | 0 => 0
  | k + 1 => linesW w' k + if (locsW w' (UInt8.ofNat k) 6).length = 0 then 0 else 1
theorem lines_eq (g : Geo) : (linesN g 6 : Int) = linesOf g := by
  cases hR : geoR g with
  | false =>
    have hz : ∀ n j, locsN g n j = [] := by
      intro n j
      induction j with
      | zero => rfl
      | succ j ih => show (if _ then _ else _) = _; rw [if_neg (fun e => by rw [hR] at e; cases e.1), ih]
    have hl : ∀ j, linesN g j = 0 := by
      intro j
      induction j with
      | zero => rfl
      | succ j ih => unfold linesN; rw [ih, hz]; rfl
    rw [hl]; unfold linesOf; rw [hR]; rfl
  | true =>
    obtain ⟨c, h, w', s, a, rfl, hc, hh, hww, _⟩ := geoR_nat hR
    have hline : ∀ k, lineR ⟨c, h, w', s, a⟩ k = UInt8.ofNat (k.toNat / w') := fun k => by unfold lineR; rw [hR]; rfl
    have hloc : ∀ n j, locsN ⟨c, h, w', s, a⟩ n j = locsW w' n j := by
      intro n j
      induction j with
      | zero => rfl
      | succ j ih =>
        show (if geoR _ = true ∧ lineR _ _ = n then _ else _) = (if UInt8.ofNat ((UInt8.ofNat j).toNat / w') = n then _ else _)
        rw [hline, ih]
        by_cases e : UInt8.ofNat ((UInt8.ofNat j).toNat / w') = n
        · rw [if_pos ⟨hR, e⟩, if_pos e]
        · rw [if_neg (fun x => e x.2), if_neg e]
    have hlin : ∀ j, linesN ⟨c, h, w', s, a⟩ j = linesW w' j := by
      intro j
      induction j with
      | zero => rfl
      | succ j ih => unfold linesN linesW; rw [ih, hloc]
    rw [hlin]
    have hlo : linesOf ⟨c, h, w', s, a⟩ = ((5 / w' : Nat) : Int) + 1 := by unfold linesOf; rw [hR]; rfl
    rw [hlo]
    have h4 : w' = 1 ∨ w' = 2 ∨ w' = 3 ∨ w' = 4 := by omega
    rcases h4 with rfl | rfl | rfl | rfl <;> decide +kernel
theorem LinesR_c (g : Geo) (w : World) : Calls Tryz.prog 24 #[g.val] w fun e w' => e = .returned (i64 (linesOf g)) ∧ Below w.heap.size w w' := by
  refine calls_of_M (S := sg 17) (sgOk _) (args := [g.val]) (.s .p (.s .p (.s .p .p))) Tryz.func24 rfl rfl (Nat.le_of_ble_eq_true rfl) rfl ?_
  have hb0 : Below w.heap.size w (w.alloc (.cells g.val.cells 23)) := (Below.refl _ _).alloc (Nat.le_refl _) _
  have f0 := hnew w (.cells g.val.cells 23)
  refine ⟨Nat, fun k => ⟨[(1, .pointer (some ⟨w.heap.size, 0, none⟩)), (3, .int .i64 (linesN g k : Nat)), (4, u8 (UInt8.ofNat k))], []⟩,
    fun k V => k ≤ 6 ∧ V.heap[w.heap.size]? = some (.cells g.val.cells 23 (0, 0)) ∧ Below w.heap.size w V, fun k => 6 - k, 0, ⟨.cons rfl (.cons rfl (.cons rfl .nil)), rfl⟩, ⟨by decide, f0, hb0⟩, ?_⟩
  rintro k V ⟨hk, fV, hb⟩
  have hku := u8n (show k < 256 by omega)
  have hle := linesN_le g k
  refine And.intro (fun h => ?_) (fun h => ?_)
  · have h : ((UInt8.ofNat k).toNat : Int) < 6 := of_decide_eq_true h
    have hnext : IntKind.u8.wrap (((UInt8.ofNat k).toNat : Int) + 1) = ((UInt8.ofNat (k + 1)).toNat : Int) := by
      rw [u8n (show k + 1 < 256 by omega), hku]; exact wrap_u8 (by omega)
    refine ⟨g.enc, rfl, cells_block fV, hlt fV, ?_⟩
    refine Calls.mono (LocsR_c g (UInt8.ofNat k) V) ?_
    rintro e V1 ⟨p, cap, rfl, hb1⟩
    have h1 := hb.trans (hb1.mono hb.size)
    have f1 := block_below hb1 fV
    refine And.intro (fun h2 => ?_) (fun h2 => ?_)
    · have h2 : (0 : Int) < ((locsN g (UInt8.ofNat k) 6).length : Nat) := of_decide_eq_true h2
      have ek : linesN g (k + 1) = linesN g k + 1 := by show linesN g k + (if _ then 0 else 1) = _; rw [if_neg (by omega)]
      refine ⟨((linesN g (k + 1) : Nat) : Int), by rw [ek]; exact (wrap_i64 (by omega)).trans (by omega), ?_⟩
      refine ⟨_, hnext, ?_⟩
      exact ⟨k + 1, ⟨.cons rfl (.cons rfl (.cons rfl .nil)), rfl⟩, ⟨by omega, f1, h1⟩, by dsimp only; omega⟩
    · have h2 : ¬ (0 : Int) < ((locsN g (UInt8.ofNat k) 6).length : Nat) := of_decide_eq_false h2
      have ek : linesN g (k + 1) = linesN g k := by show linesN g k + (if _ then 0 else 1) = _; rw [if_pos (by omega), Nat.add_zero]
      refine ⟨_, hnext, ?_⟩
      exact ⟨k + 1, ⟨.cons rfl (.cons (by rw [ek]; rfl) (.cons rfl .nil)), rfl⟩, ⟨by omega, f1, h1⟩, by dsimp only; omega⟩
  · have h : ¬ ((UInt8.ofNat k).toNat : Int) < 6 := of_decide_eq_false h
    have : k = 6 := by omega
    subst this
    refine And.intro ?_ hb
    rw [← lines_eq]; rfl
end Go.Proofs.YtkekidalckflhaaGreatDoor
namespace Go.Proofs.YtkekidalckflhaaGreatDoor
open Go.Vc Go.RowKit Go.Sei

theorem home_facts {g : Geo} (hR : geoR g = true) (n : UInt8) : isHome g (homeOf g n) = true ∧ isCache g (homeOf g n) = false ∧ ((homeOf g n).toNat : Int) < nodesOf g := by
  obtain ⟨c, h, w', s, a, rfl, hc, hh, _⟩ := geoR_nat hR
  obtain ⟨q, hq⟩ : ∃ q, q = n.toNat % h := ⟨_, rfl⟩
  have hm : n.toNat % h < h := Nat.mod_lt _ (by omega)
  rw [← hq] at hm
  have e1 : homeOf ⟨c, h, w', s, a⟩ n = UInt8.ofNat (c + q) := by unfold homeOf; rw [hR, hq]; rfl
  have e2 : (homeOf ⟨c, h, w', s, a⟩ n).toNat = c + q := by rw [e1, UInt8.toNat_ofNat', Nat.mod_eq_of_lt (by omega)]
  refine ⟨?_, ?_, ?_⟩
  · unfold isHome amongOf
    rw [hR, e2, decide_eq_true (by show (c : Int) ≤ _; omega), decide_eq_true (by show _ < (c : Int) + (h : Int); omega)]; rfl
  · unfold isCache amongOf
    rw [hR, e2, decide_eq_false (p := ((c + q : Nat) : Int) < 0 + (c : Int)) (by omega)]
    simp
  · unfold nodesOf
    rw [hR, e2]
    show _ < (c : Int) + (h : Int)
    omega
theorem cache_facts {g : Geo} (hR : geoR g = true) {n : UInt8} (h : isCache g n = true) : isHome g n = false ∧ (n.toNat : Int) < nodesOf g := by
  have hs := geoR_spec hR
  unfold isCache amongOf at h
  simp only [Bool.and_eq_true, decide_eq_true_eq] at h
  refine ⟨?_, ?_⟩
  · unfold isHome amongOf
    rw [decide_eq_false (p := g.c ≤ (n.toNat : Int)) (by omega)]; simp
  · unfold nodesOf; rw [hR]
    show (n.toNat : Int) < g.c + g.h
    omega

structure Ways (g : Geo) (m : Msg) : Prop where
  geo : geoR g = true
  fn : (m.from_.toNat : Int) < nodesOf g
  tn : (m.to.toNat : Int) < nodesOf g
  ne : m.from_ ≠ m.to
  one : isCache g m.from_ = true ∨ isCache g m.to = true
  c1 : 1 ≤ (classOf m.kind).toNat
  c3 : (classOf m.kind).toNat ≤ 3
  acks : (m.acks.toNat : Int) < g.c
  k1 : classOf m.kind = 1 → m.to = homeOf g m.line
  k2 : classOf m.kind = 2 → m.from_ = homeOf g m.line
  ht : isHome g m.to = true → m.to = homeOf g m.line
  hf : isHome g m.from_ = true → m.from_ = homeOf g m.line
  ask : m.asker ≠ 0 → isCache g m.asker = true ∧ m.asker ≠ m.to
  al : m.alone = true → m.kind = 10 ∧ m.from_ = homeOf g m.line

theorem ways_of_right {g : Geo} {m : Msg} (h : rightL g m = true) : Ways g m := by
  unfold rightL at h
  simp only [Bool.and_eq_true, decide_eq_true_eq, Bool.not_eq_true', decide_eq_false_iff_not] at h
  obtain ⟨⟨⟨⟨hR, hk⟩, hu⟩, hln⟩, ⟨he, hv⟩, hp⟩ := h
  unfold endsL at he
  simp only [Bool.and_eq_true, Bool.not_eq_true', decide_eq_false_iff_not] at he
  obtain ⟨⟨hfr, hto⟩, hne⟩ := he
  unfold valuesL at hv
  simp only [Bool.and_eq_true, Bool.not_eq_true', decide_eq_true_eq, Bool.or_eq_true] at hv
  obtain ⟨hbad, hac, hal⟩ := hv
  have hp : pl4 m g (useOf m) = m := of_decide_eq_true hp
  -- the kinds, one by one
  have tab : ((List.range 13).all fun k => decide (usesL.getD k 0 = 0) ||
      (decide (1 ≤ (classes.getD k 0).toNat) && decide ((classes.getD k 0).toNat ≤ 3) &&
       (decide (classes.getD k 0 = 1) == (hasB (usesL.getD k 0) 64 && !hasB (usesL.getD k 0) 128 && decide (classes.getD k 0 = 1))) &&
       (decide (classes.getD k 0 = 2) == (hasB (usesL.getD k 0) 16 && !hasB (usesL.getD k 0) 32 && decide (classes.getD k 0 = 2))) &&
       ((hasB (usesL.getD k 0) 32 && !hasB (usesL.getD k 0) 16) || (hasB (usesL.getD k 0) 128 && !hasB (usesL.getD k 0) 64)) &&
       (!hasB (usesL.getD k 0) 4 || decide (k = 10)))) = true := by kernel_rfl
  have t := List.all_eq_true.1 tab m.kind.toNat (List.mem_range.2 hk)
  have hu' : ¬ usesL.getD m.kind.toNat 0 = 0 := hu
  rw [decide_eq_false hu', Bool.false_or] at t
  have eb : usesL.getD m.kind.toNat 0 = useOf m := rfl
  have ec : classes.getD m.kind.toNat 0 = classOf m.kind := rfl
  rw [eb, ec] at t
  simp only [Bool.and_eq_true, decide_eq_true_eq] at t
  obtain ⟨⟨⟨⟨⟨t1, t2⟩, t3⟩, t4⟩, t5⟩, t6⟩ := t
  have hfrom : (hasB (useOf m) 16 = true ∧ m.from_ = homeOf g m.line) ∨ (hasB (useOf m) 32 = true ∧ isCache g m.from_ = true) := by
    unfold fromL at hfr
    simpa only [Bool.or_eq_true, Bool.and_eq_true, decide_eq_true_eq] using hfr
  have htoo : (hasB (useOf m) 64 = true ∧ m.to = homeOf g m.line) ∨ (hasB (useOf m) 128 = true ∧ isCache g m.to = true) := by
    unfold toL at hto
    simpa only [Bool.or_eq_true, Bool.and_eq_true, decide_eq_true_eq] using hto
  obtain ⟨hh1, hh2, hh3⟩ := home_facts hR m.line
  have hask : m.asker = if hasB (useOf m) 1 then m.asker else 0 := by
    have e := congrArg Msg.asker hp
    have e2 : (pl4 m g (useOf m)).asker = if hasB (useOf m) 1 then m.asker else 0 := by
      unfold pl4 dcut pl3 pl2 pl1 pl0
      cases hasB (useOf m) 1 <;> cases hasB (useOf m) 2 <;> cases hasB (useOf m) 4 <;> cases hasB (useOf m) 8 <;> rfl
    rw [← e2]; exact e.symm
  have halo : m.alone = if hasB (useOf m) 4 then m.alone else false := by
    have e := congrArg Msg.alone hp
    have e2 : (pl4 m g (useOf m)).alone = if hasB (useOf m) 4 then m.alone else false := by
      unfold pl4 dcut pl3 pl2 pl1 pl0
      cases hasB (useOf m) 1 <;> cases hasB (useOf m) 2 <;> cases hasB (useOf m) 4 <;> cases hasB (useOf m) 8 <;> rfl
    rw [← e2]; exact e.symm
  refine ⟨hR, ?_, ?_, hne, ?_, t1, t2, hac, ?_, ?_, ?_, ?_, ?_, ?_⟩
  · rcases hfrom with ⟨_, e⟩ | ⟨_, e⟩
    · rw [e]; exact hh3
    · exact (cache_facts hR e).2
  · rcases htoo with ⟨_, e⟩ | ⟨_, e⟩
    · rw [e]; exact hh3
    · exact (cache_facts hR e).2
  · rcases hfrom with ⟨a1, _⟩ | ⟨_, e⟩
    · rcases htoo with ⟨a2, _⟩ | ⟨_, e⟩
      · rw [a1, a2] at t5; simp at t5
      · exact .inr e
    · exact .inl e
  · intro hc
    rw [hc] at t3
    rcases htoo with ⟨_, e⟩ | ⟨a2, e⟩
    · exact e
    · rw [a2] at t3; simp at t3
  · intro hc
    rw [hc] at t4
    rcases hfrom with ⟨_, e⟩ | ⟨a2, e⟩
    · exact e
    · rw [a2] at t4; simp at t4
  · intro hc
    rcases htoo with ⟨_, e⟩ | ⟨_, e⟩
    · exact e
    · rw [(cache_facts hR e).1] at hc; cases hc
  · intro hc
    rcases hfrom with ⟨_, e⟩ | ⟨_, e⟩
    · exact e
    · rw [(cache_facts hR e).1] at hc; cases hc
  · intro ha
    cases h1 : hasB (useOf m) 1 with
    | false => rw [h1] at hask; exact absurd hask ha
    | true =>
      unfold badAsk at hbad
      rw [h1] at hbad
      simp at hbad
      exact ⟨hbad.1, hbad.2⟩
  · intro ha
    cases h4 : hasB (useOf m) 4 with
    | false => rw [h4, ha] at halo; cases halo
    | true =>
      rw [h4] at t6
      simp at t6
      refine ⟨UInt8.toNat_inj.1 t6, ?_⟩
      rw [ha] at hal
      simp at hal
      rcases hfrom with ⟨_, e⟩ | ⟨_, e⟩
      · exact e
      · rw [hal] at e; cases e
end Go.Proofs.YtkekidalckflhaaGreatDoor
