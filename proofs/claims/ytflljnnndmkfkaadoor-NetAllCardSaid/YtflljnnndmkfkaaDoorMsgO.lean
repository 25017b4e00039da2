/- Messages, opened from their readings. -/
import Derived.Test.YtflljnnndmkfkaaDoorNet1
import Derived.ProofKit
import Derived.OpenShut
namespace Go.Proofs.YtflljnnndmkfkaaDoor
open Go.Vc Go.RowKit Go.Sei

section
variable {H : Type} {enc : TypeId × Value → H} {P : Program} {w : World} {base : Nat} {spare : Nat → Bool} {held : Bool} {fuel : Nat} {t : TypeId} {cs : List Value} {x : DataW H × List MemPlace}

theorem open_u8 (ht : P.underlying t = some (.int .u8)) (h : DataW.trod enc P w base spare held fuel t cs = some x) : ∃ b : UInt8, cs = [u8 b] ∧ x.1 = .lit (.int .u8 b.toNat) := by
  obtain ⟨n, rfl, rfl, hw⟩ := DataW.trod_int ht h
  have hb := bounds_u8 hw
  have e : ((UInt8.ofNat n.toNat).toNat : Int) = n := by
    rw [UInt8.toNat_ofNat']; omega
  exact ⟨UInt8.ofNat n.toNat, by rw [u8, e], by rw [e]⟩

theorem open_u8s {n : Nat} {e : TypeId} (ht : P.underlying t = some (.array n e)) (he : P.underlying e = some (.int .u8)) (hc : P.cellsOf e = 1) (hn : P.cellsOf t = n)
    (h : DataW.trod enc P w base spare held fuel t cs = some x) : ∃ bs : List UInt8, bs.length = n ∧ cs = bs.map u8 ∧ x.1 = .agg (bs.map fun b => .lit (.int .u8 b.toNat)) := by
  obtain ⟨xs, m, rfl, rfl, hl, hx, hel⟩ := DataW.trod_array ht h
  rw [hn] at hl
  have each : ∀ i (h : i < n), ∃ b : UInt8, cs[i]? = some (u8 b) ∧ xs[i]?.map (·.1) = some (.lit (.int .u8 b.toNat)) := fun i hi => by
    have h1 := hel i hi
    rw [hc, List.getElem?_eq_getElem (by omega)] at h1
    obtain ⟨b, h2, h3⟩ := open_u8 he h1
    refine ⟨b, ?_, by rw [List.getElem?_eq_getElem (by omega), Option.map_some, h3]⟩
    have : ((cs.drop (i * 1)).take 1)[0]? = some (u8 b) := by rw [h2]; rfl
    simpa using this
  have : ∀ k, k ≤ n → ∃ bs : List UInt8, bs.length = k ∧ cs.take k = bs.map u8 ∧ (xs.take k).map (·.1) = bs.map fun b => .lit (.int .u8 b.toNat) := by
    intro k
    induction k with
    | zero => exact fun _ => ⟨[], rfl, by simp, by simp⟩
    | succ k ih =>
      intro hk
      obtain ⟨bs, h1, h2, h3⟩ := ih (by omega)
      obtain ⟨b, h4, h5⟩ := each k (by omega)
      have hk1 : k < cs.length := by omega
      have hk2 : k < xs.length := by omega
      rw [List.getElem?_eq_getElem hk1] at h4
      rw [List.getElem?_eq_getElem hk2] at h5
      refine ⟨bs ++ [b], by simp [h1], ?_, ?_⟩
      · rw [List.take_succ_eq_append_getElem hk1, h2, Option.some.inj h4]; simp
      · rw [List.take_succ_eq_append_getElem hk2, List.map_append, h3]
        simp at h5
        simp [h5]
  obtain ⟨bs, h1, h2, h3⟩ := this n (Nat.le_refl _)
  rw [List.take_of_length_le (by omega)] at h2 h3
  exact ⟨bs, h1, h2, by rw [← h3]⟩
end

theorem cells5 : Tryd.prog.cellsOf 5 = 1 := by kernel_rfl
theorem cells4 : Tryd.prog.cellsOf 4 = 1 := by kernel_rfl
theorem cells28 : Tryd.prog.cellsOf 28 = 4 := by kernel_rfl
theorem cells30 : Tryd.prog.cellsOf 30 = 11 := by kernel_rfl
theorem cells67 : Tryd.prog.cellsOf 67 = 13 := by kernel_rfl

section
variable {H : Type} {enc : TypeId × Value → H} {w : World} {base : Nat} {spare : Nat → Bool} {held : Bool} {fuel : Nat} {cs : List Value} {x : DataW H × List MemPlace}

theorem open_msg (h : DataW.trod enc Tryd.prog w base spare held fuel 30 cs = some x) : ∃ m : Msg, cs = m.enc := by
  obtain ⟨xs, n, rfl, rfl, hl, hx, hel⟩ := DataW.trod_struct Tryd.underlying30 h
  rw [cells30] at hl
  have hx : xs.length = 8 := hx
  have e0 : DataW.trod enc Tryd.prog w base spare held n 5 ((cs.drop 0).take (Tryd.prog.cellsOf 5)) = xs[0]? := hel 0 _ rfl
  have e1 : DataW.trod enc Tryd.prog w base spare held n 5 ((cs.drop 1).take (Tryd.prog.cellsOf 5)) = xs[1]? := hel 1 _ rfl
  have e2 : DataW.trod enc Tryd.prog w base spare held n 5 ((cs.drop 2).take (Tryd.prog.cellsOf 5)) = xs[2]? := hel 2 _ rfl
  have e3 : DataW.trod enc Tryd.prog w base spare held n 5 ((cs.drop 3).take (Tryd.prog.cellsOf 5)) = xs[3]? := hel 3 _ rfl
  have e4 : DataW.trod enc Tryd.prog w base spare held n 5 ((cs.drop 4).take (Tryd.prog.cellsOf 5)) = xs[4]? := hel 4 _ rfl
  have e5 : DataW.trod enc Tryd.prog w base spare held n 5 ((cs.drop 5).take (Tryd.prog.cellsOf 5)) = xs[5]? := hel 5 _ rfl
  have e6 : DataW.trod enc Tryd.prog w base spare held n 4 ((cs.drop 6).take (Tryd.prog.cellsOf 4)) = xs[6]? := hel 6 _ rfl
  have e7 : DataW.trod enc Tryd.prog w base spare held n 28 ((cs.drop 7).take (Tryd.prog.cellsOf 28)) = xs[7]? := hel 7 _ rfl
  rw [List.getElem?_eq_getElem (by omega)] at e0 e1 e2 e3 e4 e5 e6 e7
  rw [cells5] at e0 e1 e2 e3 e4 e5
  rw [cells4] at e6
  rw [cells28] at e7
  obtain ⟨b0, e0, _⟩ := open_u8 Tryd.underlying5 e0
  obtain ⟨b1, e1, _⟩ := open_u8 Tryd.underlying5 e1
  obtain ⟨b2, e2, _⟩ := open_u8 Tryd.underlying5 e2
  obtain ⟨b3, e3, _⟩ := open_u8 Tryd.underlying5 e3
  obtain ⟨b4, e4, _⟩ := open_u8 Tryd.underlying5 e4
  obtain ⟨b5, e5, _⟩ := open_u8 Tryd.underlying5 e5
  obtain ⟨b6, e6, _⟩ := DataW.trod_bool Tryd.underlying4 e6
  obtain ⟨bs, h7, e7, _⟩ := open_u8s Tryd.underlying28 Tryd.underlying5 cells5 cells28 e7
  match cs, hl with
  | [c0, c1, c2, c3, c4, c5, c6, c7, c8, c9, c10], _ =>
    match bs, h7 with
    | [d0, d1, d2, d3], _ =>
      simp at e0 e1 e2 e3 e4 e5 e6 e7
      obtain ⟨rfl, rfl, rfl, rfl⟩ := e7
      subst e0 e1 e2 e3 e4 e5 e6
      exact ⟨⟨b0, b1, b2, b3, b4, b5, b6, d0, d1, d2, d3⟩, rfl⟩

theorem add_none (b o i : Nat) : (⟨b, o, none⟩ : Addr).add i = ⟨b, o + i, none⟩ := by
  unfold Addr.add
  by_cases h : i = 0
  · simp [h]
  · simp [h]

theorem cells_of_run {a : Addr} {n : Nat} (hn : 0 < n) (h : w.cells? base a n = some cs) : a.spot = none ∧ a.block < w.heap.size ∧ Cells w ⟨a.block, a.off, none⟩ cs := by
  obtain ⟨_, hl, hc⟩ := World.cells?_some h
  have h0 := hc 0 hn
  rw [List.getElem?_eq_getElem (by omega)] at h0
  have hs : a.spot = none := by simpa [Addr.add] using World.cell?_spot h0
  obtain ⟨b, o, s⟩ := a
  dsimp only at hs
  subst hs
  refine ⟨rfl, World.block_lt_of_cell? _ _ h0, cells_mk fun i v hv => ?_⟩
  have hi : i < n := by have := (List.getElem?_eq_some_iff.1 hv).1; omega
  have := (hc i hi).trans hv
  rw [add_none] at this
  exact this

theorem open_msgs {v : Value} {p : List MemPlace} {d : DataW H} {a0 : Option Addr} {len0 cap0 : Nat} (hv : v = .slice a0 len0 cap0)
    (h : DataW.Trod enc Tryd.prog w base spare held 22 v d p) : ∃ l : List Msg, l.length = len0 ∧ SlR Msg.E w a0 l := by
  subst hv
  obtain ⟨fuel, h⟩ := h
  rcases DataW.trod_slice Tryd.underlying22 h with ⟨hcs, _⟩ | ⟨a, len, cap, elems, rest, n, _, hcs, _, _, _, _, hlen, hel, _, _⟩
  · simp [Value.cells] at hcs
    obtain ⟨rfl, rfl, rfl⟩ := hcs
    exact ⟨[], rfl, .nil⟩
  · simp [Value.cells] at hcs
    obtain ⟨rfl, rfl, rfl⟩ := hcs
    have each : ∀ i, i < len0 → ∃ m : Msg, (a.add (i * 11)).spot = none ∧ (a.add (i * 11)).block < w.heap.size ∧ Cells w ⟨(a.add (i * 11)).block, (a.add (i * 11)).off, none⟩ m.enc := fun i hi => by
      have h1 := hel i hi
      rw [cells30, List.getElem?_eq_getElem (by omega), Option.bind_eq_some_iff] at h1
      obtain ⟨cs, h2, h3⟩ := h1
      obtain ⟨m, rfl⟩ := open_msg h3
      exact ⟨m, cells_of_run (by decide) h2⟩
    by_cases h00 : len0 = 0
    · exact ⟨[], h00.symm, .nil⟩
    have hsp : a.spot = none := by
      obtain ⟨m, h3, _⟩ := each 0 (by omega)
      simpa [Addr.add] using h3
    obtain ⟨b, o, s⟩ := a
    dsimp only at hsp
    subst hsp
    have each : ∀ i, i < len0 → ∃ m : Msg, b < w.heap.size ∧ Cells w ⟨b, o + i * 11, none⟩ m.enc := fun i hi => by
      obtain ⟨m, _, h4, h5⟩ := each i hi
      rw [add_none] at h4 h5
      exact ⟨m, h4, h5⟩
    have all : ∀ k, k ≤ len0 → ∃ l : List Msg, l.length = k ∧ ∀ i (h : i < l.length), Cells w ⟨b, o + i * 11, none⟩ l[i].enc := by
      intro k
      induction k with
      | zero => exact fun _ => ⟨[], rfl, fun i h => absurd h (by simp)⟩
      | succ k ih =>
        intro hk
        obtain ⟨l, h1, h2⟩ := ih (by omega)
        obtain ⟨m, _, h3⟩ := each k (by omega)
        refine ⟨l ++ [m], by simp [h1], fun i hi => ?_⟩
        by_cases hik : i < l.length
        · rw [List.getElem_append_left hik]; exact h2 i hik
        · have : i = k := by simp [h1] at hi; omega
          subst this
          rw [List.getElem_append_right (by omega)]
          simp [h1, h3]
    obtain ⟨l, h1, h2⟩ := all len0 (Nat.le_refl _)
    refine ⟨l, h1, ?_⟩
    obtain ⟨m, h4, _⟩ := each 0 (by omega)
    exact .inr ⟨b, o, rfl, h4, h2⟩
end
end Go.Proofs.YtflljnnndmkfkaaDoor
