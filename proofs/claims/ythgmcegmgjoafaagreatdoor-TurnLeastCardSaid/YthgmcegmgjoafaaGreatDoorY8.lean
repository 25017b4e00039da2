/- Law23: readings opened: systems, messages, ints. Law23: readings opened: lists of messages; worlds with their mode of delivery. The condition of a row gives what the walks need of a world; a world that meets it. -/
import Derived.Test.YthgmcegmgjoafaaGreatDoorY7
import Derived.Test.YthgmcegmgjoafaaGreatDoorY4
set_option linter.unusedSimpArgs false
set_option linter.unusedVariables false
namespace Go.Proofs.YthgmcegmgjoafaaGreatDoor
open Go.Vc Go.RowKit Go.Sei
open Go.ChangeShapes Go.WideShapes Go.ChangeAt
theorem flat_flat {α β : Type} (f : α → List β) : ∀ l : List (List α), l.flatMap (fun x => x.flatMap f) = l.flatten.flatMap f
  | [] => rfl
  | a :: r => by rw [List.flatMap_cons, flat_flat f r, List.flatten_cons, List.flatMap_append]
def zeroCor : Cor := ⟨0, 0, 0, 0, 0, 0, 0, 0, 0, [], false, false⟩
def zeroLin : Lin := ⟨0, 0, 0, false, 0, 0, 0, 0⟩
def zeroNte : Nte := ⟨0, 0, 0, 0, 0, 0, 0⟩
def zeroCac : Cac := ⟨[], [], 0, 0, 0, 0⟩
def zeroH : Hom := eHom
theorem cells28 : Tryz.prog.cellsOf 51 = 4 := by kernel_rfl
theorem cells30 : Tryz.prog.cellsOf 53 = 11 := by kernel_rfl
section
variable {H : Type} {enc : TypeId × Value → H} {P : Program} {w : World} {base : Nat} {spare : Nat → Bool} {held : Bool} {fuel : Nat} {t e : TypeId} {cs : List Value} {x : DataW H × List MemPlace}
theorem opens_i8 (ht : P.underlying t = some (.int .i8)) : Opens enc P w base spare held t fun cs => ∃ b : UInt8, cs = [.int .i8 (s8 b)] := fun fuel cs x h => by
  obtain ⟨n, rfl, _, hw⟩ := DataW.trod_int ht h
  have hb : -128 ≤ n ∧ n ≤ 127 := by
    simp only [Lit.wf, decide_eq_true_eq, Bool.and_eq_true] at hw
    first
      | exact ⟨by simpa [IntKind.min, IntKind.signed, IntKind.bits] using hw.1, by simpa [IntKind.max, IntKind.signed, IntKind.bits] using hw.2⟩
      | (simp [IntKind.min, IntKind.max, IntKind.signed, IntKind.bits] at hw; omega)
  refine ⟨UInt8.ofNat (n % 256).toNat, ?_⟩
  have e : ((UInt8.ofNat (n % 256).toNat).toNat : Int) = n % 256 := by rw [UInt8.toNat_ofNat']; omega
  unfold s8
  split <;> (congr 2; omega)
end
section
variable {H : Type} {enc : TypeId × Value → H} {w : World} {base : Nat} {spare : Nat → Bool} {held : Bool} {fuel : Nat} {cs : List Value} {x : DataW H × List MemPlace}
set_option maxRecDepth 100000 in
theorem open_msg (h : DataW.trod enc Tryz.prog w base spare held fuel 53 cs = some x) : ∃ m : Msg, cs = m.enc := by
  obtain ⟨xs, n, rfl, rfl, hl, hx, hel⟩ := DataW.trod_struct Tryz.underlying53 h
  rw [cells30] at hl
  have hx : xs.length = 8 := hx
  have e0 : DataW.trod enc Tryz.prog w base spare held n 5 ((cs.drop 0).take (Tryz.prog.cellsOf 5)) = xs[0]? := hel 0 _ rfl
  have e1 : DataW.trod enc Tryz.prog w base spare held n 5 ((cs.drop 1).take (Tryz.prog.cellsOf 5)) = xs[1]? := hel 1 _ rfl
  have e2 : DataW.trod enc Tryz.prog w base spare held n 5 ((cs.drop 2).take (Tryz.prog.cellsOf 5)) = xs[2]? := hel 2 _ rfl
  have e3 : DataW.trod enc Tryz.prog w base spare held n 5 ((cs.drop 3).take (Tryz.prog.cellsOf 5)) = xs[3]? := hel 3 _ rfl
  have e4 : DataW.trod enc Tryz.prog w base spare held n 5 ((cs.drop 4).take (Tryz.prog.cellsOf 5)) = xs[4]? := hel 4 _ rfl
  have e5 : DataW.trod enc Tryz.prog w base spare held n 5 ((cs.drop 5).take (Tryz.prog.cellsOf 5)) = xs[5]? := hel 5 _ rfl
  have e6 : DataW.trod enc Tryz.prog w base spare held n 4 ((cs.drop 6).take (Tryz.prog.cellsOf 4)) = xs[6]? := hel 6 _ rfl
  have e7 : DataW.trod enc Tryz.prog w base spare held n 51 ((cs.drop 7).take (Tryz.prog.cellsOf 51)) = xs[7]? := hel 7 _ rfl
  rw [List.getElem?_eq_getElem (by omega)] at e0 e1 e2 e3 e4 e5 e6 e7
  rw [cells5] at e0 e1 e2 e3 e4 e5
  rw [cells4] at e6
  rw [cells28] at e7
  obtain ⟨b0, e0, _⟩ := open_u8 Tryz.underlying5 e0
  obtain ⟨b1, e1, _⟩ := open_u8 Tryz.underlying5 e1
  obtain ⟨b2, e2, _⟩ := open_u8 Tryz.underlying5 e2
  obtain ⟨b3, e3, _⟩ := open_u8 Tryz.underlying5 e3
  obtain ⟨b4, e4, _⟩ := open_u8 Tryz.underlying5 e4
  obtain ⟨b5, e5, _⟩ := open_u8 Tryz.underlying5 e5
  obtain ⟨b6, e6, _⟩ := DataW.trod_bool Tryz.underlying4 e6
  obtain ⟨bs, h7, e7, _⟩ := open_u8s Tryz.underlying51 Tryz.underlying5 cells5 cells28 e7
  match cs, hl with
  | [c0, c1, c2, c3, c4, c5, c6, c7, c8, c9, c10], _ =>
    match bs, h7 with
    | [d0, d1, d2, d3], _ =>
      simp at e0 e1 e2 e3 e4 e5 e6 e7
      obtain ⟨rfl, rfl, rfl, rfl⟩ := e7
      subst e0 e1 e2 e3 e4 e5 e6
      exact ⟨⟨b0, b1, b2, b3, b4, b5, b6, d0, d1, d2, d3⟩, rfl⟩
theorem open_msgv {a : Array Value} {d : DataW H} {p : List MemPlace} (h : DataW.Trod enc Tryz.prog w base spare held 53 (.agg a) d p) : ∃ m : Msg, Value.agg a = m.val := by
  obtain ⟨fuel, h⟩ := h
  obtain ⟨m, hm⟩ := open_msg h
  have : a.toList = m.enc := hm
  exact ⟨m, by unfold Msg.val; rw [← this]⟩
theorem open_bytes {v : Value} {p : List MemPlace} {d : DataW H} {a0 : Option Addr} {len0 cap0 : Nat} (hv : v = .slice a0 len0 cap0)
    (h : DataW.Trod enc Tryz.prog w base spare held 23 v d p) : ∃ l : List UInt8, l.length = len0 ∧ SlR byteE w a0 l := by
  subst hv
  obtain ⟨fuel, h⟩ := h
  rcases DataW.trod_slice Tryz.underlying23 h with ⟨hcs, _⟩ | ⟨a, len, cap, elems, rest, n, _, hcs, _, _, _, _, hlen, hel, _, _⟩
  · simp [Value.cells] at hcs
    obtain ⟨rfl, rfl, rfl⟩ := hcs
    exact ⟨[], rfl, .nil⟩
  · simp [Value.cells] at hcs
    obtain ⟨rfl, rfl, rfl⟩ := hcs
    have each : ∀ i, i < len0 → ∃ m : UInt8, (a.add (i * 1)).spot = none ∧ (a.add (i * 1)).block < w.heap.size ∧ Cells w ⟨(a.add (i * 1)).block, (a.add (i * 1)).off, none⟩ (byteE.enc m) := fun i hi => by
      have h1 := hel i hi
      rw [cells5, List.getElem?_eq_getElem (by omega), Option.bind_eq_some_iff] at h1
      obtain ⟨cs, h2, h3⟩ := h1
      obtain ⟨m, rfl, _⟩ := open_u8 Tryz.underlying5 h3
      exact ⟨m, cells_of_run (by decide) h2⟩
    by_cases h00 : len0 = 0
    · exact ⟨[], h00.symm, .nil⟩
    have hsp : a.spot = none := by
      obtain ⟨m, h3, _⟩ := each 0 (by omega)
      simpa [Addr.add] using h3
    obtain ⟨b, o, s⟩ := a
    dsimp only at hsp
    subst hsp
    have each : ∀ i, i < len0 → ∃ m : UInt8, b < w.heap.size ∧ Cells w ⟨b, o + i * 1, none⟩ (byteE.enc m) := fun i hi => by
      obtain ⟨m, _, h4, h5⟩ := each i hi
      rw [add_none] at h4 h5
      exact ⟨m, h4, h5⟩
    have all : ∀ k, k ≤ len0 → ∃ l : List UInt8, l.length = k ∧ ∀ i (h : i < l.length), Cells w ⟨b, o + i * 1, none⟩ (byteE.enc l[i]) := by
      intro k
      induction k with
      | zero => exact fun _ => ⟨[], rfl, fun i h => absurd h (by simp)⟩
      | succ k ih =>
        intro hk
        obtain ⟨l, h1, h2⟩ := ih (by omega)
        obtain ⟨m, _, h3⟩ := each k (by omega)
        refine ⟨l ++ [m], by simp [h1], fun i hi => ?_⟩
        by_cases hik : i < l.length
        · rw [List.getElem_append_left hik]; exact h2 i hik
        · have : i = k := by simp [h1] at hi; omega
          subst this
          rw [List.getElem_append_right (by omega)]
          simpa [h1] using h3
    obtain ⟨l, h1, h2⟩ := all len0 (Nat.le_refl _)
    refine ⟨l, h1, ?_⟩
    obtain ⟨m, h4, _⟩ := each 0 (by omega)
    exact .inr ⟨b, o, rfl, h4, h2⟩
theorem open_ints {v : Value} {p : List MemPlace} {d : DataW H} {a0 : Option Addr} {len0 cap0 : Nat} (hv : v = .slice a0 len0 cap0)
    (h : DataW.Trod enc Tryz.prog w base spare held 46 v d p) : ∃ l : List Int, l.length = len0 ∧ SlR Go.Sei.intE w a0 l := by
  subst hv
  obtain ⟨fuel, h⟩ := h
  rcases DataW.trod_slice Tryz.underlying46 h with ⟨hcs, _⟩ | ⟨a, len, cap, elems, rest, n, _, hcs, _, _, _, _, hlen, hel, _, _⟩
  · simp [Value.cells] at hcs
    obtain ⟨rfl, rfl, rfl⟩ := hcs
    exact ⟨[], rfl, .nil⟩
  · simp [Value.cells] at hcs
    obtain ⟨rfl, rfl, rfl⟩ := hcs
    have each : ∀ i, i < len0 → ∃ m : Int, (a.add (i * 1)).spot = none ∧ (a.add (i * 1)).block < w.heap.size ∧ Cells w ⟨(a.add (i * 1)).block, (a.add (i * 1)).off, none⟩ (Go.Sei.intE.enc m) := fun i hi => by
      have h1 := hel i hi
      rw [cC 3 1 (by kernel_rfl), List.getElem?_eq_getElem (by omega), Option.bind_eq_some_iff] at h1
      obtain ⟨cs, h2, h3⟩ := h1
      obtain ⟨m, rfl, _⟩ := open_i Tryz.underlying3 h3
      exact ⟨m, cells_of_run (by decide) h2⟩
    by_cases h00 : len0 = 0
    · exact ⟨[], h00.symm, .nil⟩
    have hsp : a.spot = none := by
      obtain ⟨m, h3, _⟩ := each 0 (by omega)
      simpa [Addr.add] using h3
    obtain ⟨b, o, s⟩ := a
    dsimp only at hsp
    subst hsp
    have each : ∀ i, i < len0 → ∃ m : Int, b < w.heap.size ∧ Cells w ⟨b, o + i * 1, none⟩ (Go.Sei.intE.enc m) := fun i hi => by
      obtain ⟨m, _, h4, h5⟩ := each i hi
      rw [add_none] at h4 h5
      exact ⟨m, h4, h5⟩
    have all : ∀ k, k ≤ len0 → ∃ l : List Int, l.length = k ∧ ∀ i (h : i < l.length), Cells w ⟨b, o + i * 1, none⟩ (Go.Sei.intE.enc l[i]) := by
      intro k
      induction k with
      | zero => exact fun _ => ⟨[], rfl, fun i h => absurd h (by simp)⟩
      | succ k ih =>
        intro hk
        obtain ⟨l, h1, h2⟩ := ih (by omega)
        obtain ⟨m, _, h3⟩ := each k (by omega)
        refine ⟨l ++ [m], by simp [h1], fun i hi => ?_⟩
        by_cases hik : i < l.length
        · rw [List.getElem_append_left hik]; exact h2 i hik
        · have : i = k := by simp [h1] at hi; omega
          subst this
          rw [List.getElem_append_right (by omega)]
          simpa [h1] using h3
    obtain ⟨l, h1, h2⟩ := all len0 (Nat.le_refl _)
    refine ⟨l, h1, ?_⟩
    obtain ⟨m, h4, _⟩ := each 0 (by omega)
    exact .inr ⟨b, o, rfl, h4, h2⟩
end
section
variable {H : Type} {enc : TypeId × Value → H} {w : World} {base : Nat} {spare : Nat → Bool} {held : Bool}
theorem opens_sto : Opens enc Tryz.prog w base spare held 155 fun cs => ∃ x : Sto, True ∧ cs = stoE.enc x := fun fuel cs x h => by
  obtain ⟨xs, m, rfl, rfl, hl, hx, hel⟩ := DataW.trod_struct Tryz.underlying155 h
  rw [cC 155 2 (by kernel_rfl)] at hl
  obtain ⟨b0, e0⟩ := Opens.field (o := 0) (i := 0) hel hx rfl rfl cells5 (opens_u8 Tryz.underlying5)
  obtain ⟨b1, e1⟩ := Opens.field (o := 1) (i := 1) hel hx rfl rfl cells5 (opens_u8 Tryz.underlying5)
  refine ⟨⟨b0, b1⟩, trivial, ?_⟩
  have h0 : cs = cs.drop 0 := rfl
  have h9 : cs.drop 2 = [] := List.drop_of_length_le (by omega)
  rw [h0, cut cs 0 1 1 rfl, cut cs 1 1 2 rfl, e0, e1, h9]
  rfl
theorem opens_lin : Opens enc Tryz.prog w base spare held 143 fun cs => ∃ x : Lin, True ∧ cs = linE.enc x := fun fuel cs x h => by
  obtain ⟨xs, m, rfl, rfl, hl, hx, hel⟩ := DataW.trod_struct Tryz.underlying143 h
  rw [cC 143 8 (by kernel_rfl)] at hl
  obtain ⟨b0, e0⟩ := Opens.field (o := 0) (i := 0) hel hx rfl rfl cells5 (opens_u8 Tryz.underlying5)
  obtain ⟨b1, e1⟩ := Opens.field (o := 1) (i := 1) hel hx rfl rfl cells5 (opens_u8 Tryz.underlying5)
  obtain ⟨b2, e2⟩ := Opens.field (o := 2) (i := 2) hel hx rfl rfl (cC 141 1 (by kernel_rfl)) (opens_i8 Tryz.underlying141)
  obtain ⟨b3, e3⟩ := Opens.field (o := 3) (i := 3) hel hx rfl rfl cells4 (opens_bool Tryz.underlying4)
  obtain ⟨bs, h4, e4⟩ := Opens.field (o := 4) (i := 4) hel hx rfl rfl cells28 (opens_u8s Tryz.underlying51 Tryz.underlying5 cells5 cells28)
  match bs, h4 with
  | [d0, d1, d2, d3], _ =>
  refine ⟨⟨b0, b1, b2, b3, d0, d1, d2, d3⟩, trivial, ?_⟩
  have h0 : cs = cs.drop 0 := rfl
  have h9 : cs.drop 8 = [] := List.drop_of_length_le (by omega)
  rw [h0, cut cs 0 1 1 rfl, cut cs 1 1 2 rfl, cut cs 2 1 3 rfl, cut cs 3 1 4 rfl, cut cs 4 4 8 rfl, e0, e1, e2, e3, e4, h9]
  rfl
theorem opens_nte : Opens enc Tryz.prog w base spare held 147 fun cs => ∃ x : Nte, True ∧ cs = nteE.enc x := fun fuel cs x h => by
  obtain ⟨xs, m, rfl, rfl, hl, hx, hel⟩ := DataW.trod_struct Tryz.underlying147 h
  rw [cC 147 7 (by kernel_rfl)] at hl
  obtain ⟨b0, e0⟩ := Opens.field (o := 0) (i := 0) hel hx rfl rfl cells5 (opens_u8 Tryz.underlying5)
  obtain ⟨b1, e1⟩ := Opens.field (o := 1) (i := 1) hel hx rfl rfl (cC 3 1 (by kernel_rfl)) (opens_int Tryz.underlying3)
  obtain ⟨bs, h4, e2⟩ := Opens.field (o := 2) (i := 2) hel hx rfl rfl (cC 50 4 (by kernel_rfl)) (opens_u8s Tryz.underlying50 Tryz.underlying5 cells5 (cC 50 4 (by kernel_rfl)))
  obtain ⟨b3, e3⟩ := Opens.field (o := 6) (i := 3) hel hx rfl rfl cells5 (opens_u8 Tryz.underlying5)
  match bs, h4 with
  | [d0, d1, d2, d3], _ =>
  refine ⟨⟨b0, b1, d0, d1, d2, d3, b3⟩, trivial, ?_⟩
  have h0 : cs = cs.drop 0 := rfl
  have h9 : cs.drop 7 = [] := List.drop_of_length_le (by omega)
  rw [h0, cut cs 0 1 1 rfl, cut cs 1 1 2 rfl, cut cs 2 4 6 rfl, cut cs 6 1 7 rfl, e0, e1, e2, e3, h9]
  rfl
theorem opens_op : Opens enc Tryz.prog w base spare held 88 fun cs => ∃ k l a b : UInt8, cs = [u8 k, u8 l, u8 a, u8 b] := fun fuel cs x h => by
  obtain ⟨xs, m, rfl, rfl, hl, hx, hel⟩ := DataW.trod_struct Tryz.underlying88 h
  rw [cC 88 4 (by kernel_rfl)] at hl
  obtain ⟨b0, e0⟩ := Opens.field (o := 0) (i := 0) hel hx rfl rfl cells5 (opens_u8 Tryz.underlying5)
  obtain ⟨b1, e1⟩ := Opens.field (o := 1) (i := 1) hel hx rfl rfl cells5 (opens_u8 Tryz.underlying5)
  obtain ⟨b2, e2⟩ := Opens.field (o := 2) (i := 2) hel hx rfl rfl cells5 (opens_u8 Tryz.underlying5)
  obtain ⟨b3, e3⟩ := Opens.field (o := 3) (i := 3) hel hx rfl rfl cells5 (opens_u8 Tryz.underlying5)
  refine ⟨b0, b1, b2, b3, ?_⟩
  have h0 : cs = cs.drop 0 := rfl
  have h9 : cs.drop 4 = [] := List.drop_of_length_le (by omega)
  rw [h0, cut cs 0 1 1 rfl, cut cs 1 1 2 rfl, cut cs 2 1 3 rfl, cut cs 3 1 4 rfl, e0, e1, e2, e3, h9]
  rfl
theorem opens_cac : Opens enc Tryz.prog w base spare held 150 fun cs => ∃ x : Cac, (x.ways.length = 16 ∧ x.notes.length = 4) ∧ cs = cacCells x := fun fuel cs x h => by
  obtain ⟨xs, m, rfl, rfl, hl, hx, hel⟩ := DataW.trod_struct Tryz.underlying150 h
  rw [cC 150 160 (by kernel_rfl)] at hl
  have row : Opens enc Tryz.prog w base spare held 144 fun cs => ∃ bs : List Lin, bs.length = 4 ∧ (∀ b ∈ bs, True) ∧ cs = bs.flatMap linE.enc := opens_arr zeroLin (sz := 8) Tryz.underlying144 (by kernel_rfl) (by kernel_rfl) opens_lin
  have ways := opens_arr (enc := enc) (w := w) (base := base) (spare := spare) (held := held) (β := List Lin) [] (f := fun bs => bs.flatMap linE.enc) (Q := fun bs => bs.length = 4) (n := 4) (sz := 32) Tryz.underlying145 (by kernel_rfl) (by kernel_rfl) (fun fuel cs x h => by
    obtain ⟨bs, h1, _, h2⟩ := row fuel cs x h
    exact ⟨bs, h1, h2⟩)
  obtain ⟨wss, w1, w2, e0⟩ := Opens.field (o := 0) (i := 0) hel hx rfl rfl (cC 145 128 (by kernel_rfl)) ways
  obtain ⟨ns, n1, _, e1⟩ := Opens.field (o := 128) (i := 1) hel hx rfl rfl (cC 148 28 (by kernel_rfl)) (opens_arr zeroNte (sz := 7) Tryz.underlying148 (by kernel_rfl) (by kernel_rfl) opens_nte)
  obtain ⟨k, l, a, b, e2⟩ := Opens.field (o := 156) (i := 2) hel hx rfl rfl (cC 88 4 (by kernel_rfl)) opens_op
  have hfl : wss.flatten.length = 16 := by
    match wss, w1 with
    | [a, b, c, d], _ =>
      have := w2 a (by simp); have := w2 b (by simp); have := w2 c (by simp); have := w2 d (by simp)
      simp only [List.flatten_cons, List.flatten_nil, List.length_append, List.length_nil]; omega
  refine ⟨⟨wss.flatten, ns, k, l, a, b⟩, ⟨hfl, n1⟩, ?_⟩
  have h0 : cs = cs.drop 0 := rfl
  have h9 : cs.drop 160 = [] := List.drop_of_length_le (by omega)
  rw [h0, cut cs 0 128 128 rfl, cut cs 128 28 156 rfl, cut cs 156 4 160 rfl, e0, e1, e2, h9, flat_flat]
  simp [cacCells, opCells]
theorem opens_view : Opens enc Tryz.prog w base spare held 70 fun cs => ∃ (k : UInt8) (n : Nat) (b : Bool), n < 18446744073709551616 ∧ cs = [u8 k, .int .u64 (n : Int), .bool b] := fun fuel cs x h => by
  obtain ⟨xs, m, rfl, rfl, hl, hx, hel⟩ := DataW.trod_struct Tryz.underlying70 h
  rw [cC 70 3 (by kernel_rfl)] at hl
  obtain ⟨b0, e0⟩ := Opens.field (o := 0) (i := 0) hel hx rfl rfl cells5 (opens_u8 Tryz.underlying5)
  obtain ⟨n, hn, e1⟩ := Opens.field (o := 1) (i := 1) hel hx rfl rfl (cC 68 1 (by kernel_rfl)) (opens_u64 Tryz.underlying68)
  obtain ⟨b2, e2⟩ := Opens.field (o := 2) (i := 2) hel hx rfl rfl cells4 (opens_bool Tryz.underlying4)
  refine ⟨b0, n, b2, hn, ?_⟩
  have h0 : cs = cs.drop 0 := rfl
  have h9 : cs.drop 3 = [] := List.drop_of_length_le (by omega)
  rw [h0, cut cs 0 1 1 rfl, cut cs 1 1 2 rfl, cut cs 2 1 3 rfl, e0, e1, e2, h9]
  rfl
theorem opens_hom : Opens enc Tryz.prog w base spare held 72 fun cs => ∃ x : Hom, True ∧ cs = homE.enc x := fun fuel cs x h => by
  obtain ⟨xs, m, rfl, rfl, hl, hx, hel⟩ := DataW.trod_struct Tryz.underlying72 h
  rw [cC 72 11 (by kernel_rfl)] at hl
  obtain ⟨b0, e0⟩ := Opens.field (o := 0) (i := 0) hel hx rfl rfl cells5 (opens_u8 Tryz.underlying5)
  obtain ⟨b1, e1⟩ := Opens.field (o := 1) (i := 1) hel hx rfl rfl cells5 (opens_u8 Tryz.underlying5)
  obtain ⟨k, n, al, hn, e2⟩ := Opens.field (o := 2) (i := 2) hel hx rfl rfl (cC 70 3 (by kernel_rfl)) opens_view
  obtain ⟨b3, e3⟩ := Opens.field (o := 5) (i := 3) hel hx rfl rfl cells5 (opens_u8 Tryz.underlying5)
  obtain ⟨b4, e4⟩ := Opens.field (o := 6) (i := 4) hel hx rfl rfl cells5 (opens_u8 Tryz.underlying5)
  obtain ⟨bs, h4, e5⟩ := Opens.field (o := 7) (i := 5) hel hx rfl rfl cells28 (opens_u8s Tryz.underlying51 Tryz.underlying5 cells5 cells28)
  match bs, h4 with
  | [d0, d1, d2, d3], _ =>
  have by8 : ∀ k : Nat, (UInt8.ofNat (k % 256)).toNat = k % 256 := fun k => by rw [UInt8.toNat_ofNat']; omega
  refine ⟨⟨b0, b1, k, UInt8.ofNat (n % 256), UInt8.ofNat (n / 256 % 256), UInt8.ofNat (n / 65536 % 256), UInt8.ofNat (n / 16777216 % 256), UInt8.ofNat (n / 4294967296 % 256), UInt8.ofNat (n / 1099511627776 % 256), UInt8.ofNat (n / 281474976710656 % 256), UInt8.ofNat (n / 72057594037927936 % 256), al, b3, b4, d0, d1, d2, d3⟩, trivial, ?_⟩
  have h0 : cs = cs.drop 0 := rfl
  have h9 : cs.drop 11 = [] := List.drop_of_length_le (by omega)
  rw [h0, cut cs 0 1 1 rfl, cut cs 1 1 2 rfl, cut cs 2 3 5 rfl, cut cs 5 1 6 rfl, cut cs 6 1 7 rfl, cut cs 7 4 11 rfl, e0, e1, e2, e3, e4, e5, h9]
  have e : leM ⟨b0, b1, k, UInt8.ofNat (n % 256), UInt8.ofNat (n / 256 % 256), UInt8.ofNat (n / 65536 % 256), UInt8.ofNat (n / 16777216 % 256), UInt8.ofNat (n / 4294967296 % 256), UInt8.ofNat (n / 1099511627776 % 256), UInt8.ofNat (n / 281474976710656 % 256), UInt8.ofNat (n / 72057594037927936 % 256), al, b3, b4, d0, d1, d2, d3⟩ = n := by
    unfold leM
    simp only [by8]
    omega
  simp only [homE, e]
  rfl
theorem opens_core : Opens enc Tryz.prog w base spare held 134 fun cs => ∃ x : Cor × Option Addr × Nat, (x.1.buf.length ≤ 9223372036854775807 ∧ RowB stoE w.heap.size w x.2.1 x.1.buf) ∧ cs = corCells x.1 (.slice x.2.1 x.1.buf.length x.2.2) := fun fuel cs x h => by
  obtain ⟨xs, m, rfl, rfl, hl, hx, hel⟩ := DataW.trod_struct Tryz.underlying134 h
  rw [cC 134 12 (by kernel_rfl)] at hl
  obtain ⟨b0, e0⟩ := Opens.field (o := 0) (i := 0) hel hx rfl rfl cells5 (opens_u8 Tryz.underlying5)
  obtain ⟨bs, h8, e1⟩ := Opens.field (o := 1) (i := 1) hel hx rfl rfl (cC 131 8 (by kernel_rfl)) (opens_u8s Tryz.underlying131 Tryz.underlying5 cells5 (cC 131 8 (by kernel_rfl)))
  obtain ⟨p, cap, l, e2, hlen, _, _, b, o, hp, hc⟩ := Opens.field (o := 9) (i := 2) hel hx rfl rfl (cC 132 1 (by kernel_rfl)) (opens_sl (⟨0, 0⟩ : Sto) (sz := 2) (by decide) Tryz.underlying132 (by kernel_rfl) opens_sto)
  obtain ⟨b3, e3⟩ := Opens.field (o := 10) (i := 3) hel hx rfl rfl cells4 (opens_bool Tryz.underlying4)
  obtain ⟨b4, e4⟩ := Opens.field (o := 11) (i := 4) hel hx rfl rfl cells4 (opens_bool Tryz.underlying4)
  match bs, h8 with
  | [r0, r1, r2, r3, r4, r5, r6, r7], _ =>
  refine ⟨(⟨b0, r0, r1, r2, r3, r4, r5, r6, r7, l, b3, b4⟩, p, cap), ⟨hlen, ?_⟩, ?_⟩
  · rcases hp with hp | rfl
    · exact .inl (List.eq_nil_of_length_eq_zero hp)
    · by_cases h0 : l = []
      · exact .inl h0
      · have hl0 : 0 < l.length := List.length_pos_iff.2 h0
        have hlt := (hc 0 hl0).1
        exact RowB.of_slr (.inr ⟨b, o, rfl, hlt, fun i hi => (hc i hi).2⟩)
  · have h0 : cs = cs.drop 0 := rfl
    have h9 : cs.drop 12 = [] := List.drop_of_length_le (by omega)
    rw [h0, cut cs 0 1 1 rfl, cut cs 1 8 9 rfl, cut cs 9 1 10 rfl, cut cs 10 1 11 rfl, cut cs 11 1 12 rfl, e0, e1, e2, e3, e4, h9]
    rfl
structure LensOk (s : Sy) : Prop where
  c : s.cores.length ≤ 9223372036854775807
theorem opens_sys : Opens enc Tryz.prog w base spare held 75 fun cs => ∃ s : Sy, SysV w.heap.size w cs s ∧ LensOk s := fun fuel cs x h => by
  obtain ⟨xs, m, rfl, rfl, hl, hx, hel⟩ := DataW.trod_struct Tryz.underlying75 h
  rw [cC 75 69 (by kernel_rfl)] at hl
  obtain ⟨p0, c0, l0, e0, k0, _, q0, b0, o0, hp0, hc0⟩ := Opens.field (o := 0) (i := 0) hel hx rfl rfl (cC 65 1 (by kernel_rfl)) (opens_sl ((zeroCor, none, 0) : Cor × Option Addr × Nat) (f := fun x => corCells x.1 (.slice x.2.1 x.1.buf.length x.2.2)) (sz := 12) (by decide) Tryz.underlying65 (by kernel_rfl) opens_core)
  obtain ⟨p1, c1, l1, e1, k1, _, q1, b1, o1, hp1, hc1⟩ := Opens.field (o := 1) (i := 1) hel hx rfl rfl (cC 66 1 (by kernel_rfl)) (opens_sl zeroCac (sz := 160) (by decide) Tryz.underlying66 (by kernel_rfl) opens_cac)
  obtain ⟨hs, h6, _, e2⟩ := Opens.field (o := 2) (i := 2) hel hx rfl rfl (cC 73 66 (by kernel_rfl)) (opens_arr zeroH (sz := 11) Tryz.underlying73 (by kernel_rfl) (by kernel_rfl) opens_hom)
  obtain ⟨p3, c3, l3, e3, k3, hn3, q3, b3, o3, hp3, hc3⟩ := Opens.field (o := 68) (i := 3) hel hx rfl rfl (cC 45 1 (by kernel_rfl)) (opens_sl (⟨0, 0, 0, 0, 0, 0, false, 0, 0, 0, 0⟩ : Msg) (f := Msg.enc) (Q := fun _ => True) (sz := 11) (by decide) Tryz.underlying45 (by kernel_rfl) (fun fuel cs x h => by
    obtain ⟨m, hm⟩ := open_msg h
    exact ⟨m, trivial, hm⟩))
  refine ⟨⟨l0.map (·.1), l1, hs, l3⟩, ⟨⟨p0, c0, p1, c1, p3, c3, ?_, ⟨b0, o0, by simpa using hp0, fun i hi => ?_⟩, ⟨b1, o1, hp1, fun i hi => ?_⟩, ?_, hn3⟩, h6⟩, ⟨by simpa using k0⟩⟩
  · have h0 : cs = cs.drop 0 := rfl
    have h9 : cs.drop 69 = [] := List.drop_of_length_le (by omega)
    rw [h0, cut cs 0 1 1 rfl, cut cs 1 1 2 rfl, cut cs 2 66 68 rfl, cut cs 68 1 69 rfl, e0, e1, e2, e3, h9]
    simp
  · simp only [List.length_map] at hi
    obtain ⟨g1, g2⟩ := hc0 i hi
    obtain ⟨_, g3⟩ := q0 _ (List.getElem_mem hi)
    simp only [List.getElem_map]
    exact ⟨l0[i].2.1, l0[i].2.2, g1, g2, g3⟩
  · obtain ⟨g1, g2⟩ := hc1 i hi
    obtain ⟨g3, g4⟩ := q1 _ (List.getElem_mem hi)
    exact ⟨g1, g2, g3, g4⟩
  · rcases hp3 with hp | rfl
    · exact .inl (List.eq_nil_of_length_eq_zero hp)
    · by_cases h0 : l3 = []
      · exact .inl h0
      · have hl0 : 0 < l3.length := List.length_pos_iff.2 h0
        have hlt := (hc3 0 hl0).1
        exact RowB.of_slr (E := Msg.E) (.inr ⟨b3, o3, rfl, hlt, fun i hi => (hc3 i hi).2⟩)
theorem open_sysv {a : Array Value} {d : DataW H} {p : List MemPlace} (h : DataW.Trod enc Tryz.prog w base spare held 75 (.agg a) d p) : ∃ s : Sy, SysV w.heap.size w a.toList s ∧ LensOk s := by
  obtain ⟨fuel, h⟩ := h
  exact opens_sys _ _ _ h
theorem lens_sys {a : Array Value} {d : DataW H} {p : List MemPlace} {s : Sy} (h : DataW.Trod enc Tryz.prog w base spare held 75 (.agg a) d p) (hw : Wgt Tryz.prog 75 d) (hS : SysV w.heap.size w a.toList s) : Lens s := by
  obtain ⟨fuel, h⟩ := h
  obtain ⟨⟨p1, c1, p2, c2, p3, c3, hvs, hco, hca, hne, hnil⟩, h6⟩ := hS
  have hH : (s.homes.flatMap homE.enc).length = 66 := by rw [flat_len, h6]; rfl
  have hcs : (Value.agg a).cells.toList = a.toList := rfl
  rw [hcs, hvs] at h
  have k3 : List.take 1 (List.drop 68 (Value.slice p1 s.cores.length c1 :: .slice p2 s.caches.length c2 :: (s.homes.flatMap homE.enc ++ [.slice p3 s.net.length c3]))) = [.slice p3 s.net.length c3] := by
    show List.take 1 (List.drop 66 (s.homes.flatMap homE.enc ++ [.slice p3 s.net.length c3])) = _
    rw [List.drop_append, List.drop_of_length_le (by omega), hH]; rfl
  obtain ⟨n0, y0, e0, w0⟩ := wgt_field (i := 0) (vs := [.slice p1 s.cores.length c1]) Tryz.underlying75 h hw rfl rfl rfl (cC 65 1 (by kernel_rfl)) rfl
  obtain ⟨n1, y1, e1, w1⟩ := wgt_field (i := 1) (vs := [.slice p2 s.caches.length c2]) Tryz.underlying75 h hw rfl rfl rfl (cC 66 1 (by kernel_rfl)) rfl
  obtain ⟨n3, y3, e3, w3⟩ := wgt_field (i := 3) Tryz.underlying75 h hw rfl rfl rfl (cC 45 1 (by kernel_rfl)) k3
  obtain ⟨l0, el0⟩ := wgt_slice Tryz.underlying65 e0 w0 (by kernel_rfl)
  obtain ⟨l1, _⟩ := wgt_slice Tryz.underlying66 e1 w1 (by kernel_rfl)
  obtain ⟨l3, _⟩ := wgt_slice Tryz.underlying45 e3 w3 (by kernel_rfl)
  refine ⟨l0, l1, l3, fun c hc => ?_⟩
  obtain ⟨i, hi, rfl⟩ := List.getElem_of_mem hc
  obtain ⟨aa, cs, n, y, rfl, hcr, htr, hwt⟩ := el0 i hi
  obtain ⟨b, o, hp, hat⟩ := hco
  obtain ⟨q, qc, _, hcb, _⟩ := hat i hi
  rcases hp with hp | hp
  · omega
  simp only [Option.some.injEq] at hp
  subst hp
  rw [cC 134 12 (by kernel_rfl), add_none] at hcr
  obtain ⟨_, _, hcc⟩ := cells_of_run (by decide) hcr
  obtain ⟨_, hcl, _⟩ := World.cells?_some hcr
  have h9 : 9 < cs.length := by omega
  have e9 : cs[9] = .slice q s.cores[i].buf.length qc := by
    have g1 := cells_at hcc (i := 9) (List.getElem?_eq_getElem h9)
    have g2 := cells_at hcb (i := 9) (v := .slice q s.cores[i].buf.length qc) rfl
    exact Option.some.inj (g1.symm.trans g2)
  have k4 : List.take 1 (List.drop 9 cs) = [.slice q s.cores[i].buf.length qc] := by
    rw [List.drop_eq_getElem_cons h9, e9]; rfl
  obtain ⟨n4, y4, e4, w4⟩ := wgt_field (i := 2) Tryz.underlying134 htr hwt rfl rfl rfl (cC 132 1 (by kernel_rfl)) k4
  exact (wgt_slice Tryz.underlying132 e4 w4 (by kernel_rfl)).1
end
end Go.Proofs.YthgmcegmgjoafaaGreatDoor
namespace Go.Proofs.YthgmcegmgjoafaaGreatDoor
open Go.Vc Go.RowKit Go.Sei
open Go.ChangeShapes Go.WideShapes Go.ChangeAt
section
variable {H : Type} {enc : TypeId × Value → H} {w : World} {base : Nat} {spare : Nat → Bool} {held : Bool} {F : Nat}
theorem open_msgs {v : Value} {p : List MemPlace} {d : DataW H} {a0 : Option Addr} {len0 cap0 : Nat} (hv : v = .slice a0 len0 cap0)
    (h : DataW.Trod enc Tryz.prog w base spare held 45 v d p) : ∃ l : List Msg, l.length = len0 ∧ SlR Msg.E w a0 l := by
  subst hv
  obtain ⟨fuel, h⟩ := h
  rcases DataW.trod_slice Tryz.underlying45 h with ⟨hcs, _⟩ | ⟨a, len, cap, elems, rest, n, _, hcs, _, _, _, _, hlen, hel, _, _⟩
  · simp [Value.cells] at hcs
    obtain ⟨rfl, rfl, rfl⟩ := hcs
    exact ⟨[], rfl, .nil⟩
  · simp [Value.cells] at hcs
    obtain ⟨rfl, rfl, rfl⟩ := hcs
    have each : ∀ i, i < len0 → ∃ m : Msg, (a.add (i * 11)).spot = none ∧ (a.add (i * 11)).block < w.heap.size ∧ Cells w ⟨(a.add (i * 11)).block, (a.add (i * 11)).off, none⟩ m.enc := fun i hi => by
      have h1 := hel i hi
      rw [cells30, List.getElem?_eq_getElem (by omega), Option.bind_eq_some_iff] at h1
      obtain ⟨cs, h2, h3⟩ := h1
      obtain ⟨m, rfl⟩ := open_msg h3
      exact ⟨m, cells_of_run (by decide) h2⟩
    by_cases h00 : len0 = 0
    · exact ⟨[], h00.symm, .nil⟩
    have hsp : a.spot = none := by
      obtain ⟨m, h3, _⟩ := each 0 (by omega)
      simpa [Addr.add] using h3
    obtain ⟨b, o, s⟩ := a
    dsimp only at hsp
    subst hsp
    have each : ∀ i, i < len0 → ∃ m : Msg, b < w.heap.size ∧ Cells w ⟨b, o + i * 11, none⟩ m.enc := fun i hi => by
      obtain ⟨m, _, h4, h5⟩ := each i hi
      rw [add_none] at h4 h5
      exact ⟨m, h4, h5⟩
    have all : ∀ k, k ≤ len0 → ∃ l : List Msg, l.length = k ∧ ∀ i (h : i < l.length), Cells w ⟨b, o + i * 11, none⟩ l[i].enc := by
      intro k
      induction k with
      | zero => exact fun _ => ⟨[], rfl, fun i h => absurd h (by simp)⟩
      | succ k ih =>
        intro hk
        obtain ⟨l, h1, h2⟩ := ih (by omega)
        obtain ⟨m, _, h3⟩ := each k (by omega)
        refine ⟨l ++ [m], by simp [h1], fun i hi => ?_⟩
        by_cases hik : i < l.length
        · rw [List.getElem_append_left hik]; exact h2 i hik
        · have : i = k := by simp [h1] at hi; omega
          subst this
          rw [List.getElem_append_right (by omega)]
          simp [h1, h3]
    obtain ⟨l, h1, h2⟩ := all len0 (Nat.le_refl _)
    refine ⟨l, h1, ?_⟩
    obtain ⟨m, h4, _⟩ := each 0 (by omega)
    exact .inr ⟨b, o, rfl, h4, h2⟩
theorem opensW_wldn : OpensW enc Tryz.prog w base spare held F 44 fun cs => ∃ (p : Prg) (g : Geo) (md mode : UInt8), WldV w.heap.size w cs p g md ∧ WorV cs g.enc mode := fun n hn cs x h hw => by
  have hF : n ≤ n + 1 := Nat.le_succ n
  have hl : cs.length = 585 := by
    obtain ⟨xs, m, _, _, hl, _, _⟩ := DataW.trod_struct Tryz.underlying44 h
    rw [cC 44 585 (by kernel_rfl)] at hl
    exact hl
  obtain ⟨p, hp⟩ := OpensW.field (F := n + 1) (o := 0) (i := 0) Tryz.underlying44 h hw hF rfl rfl rfl (cC 29 10 (by kernel_rfl)) opensW_prg
  obtain ⟨g, e1⟩ := OpensW.field (F := n + 1) (o := 10) (i := 1) Tryz.underlying44 h hw hF rfl rfl rfl (cC 31 5 (by kernel_rfl)) (opensW_of opens_geo)
  obtain ⟨mode, v, e3, e2⟩ := OpensW.field (F := n + 1) (o := 15) (i := 2) Tryz.underlying44 h hw hF rfl rfl rfl (cC 33 5 (by kernel_rfl)) (opensW_of opens_rules)
  refine ⟨p, g, v, mode, ⟨(cs.drop 0).take 10, cs.drop 15, ?_, hp, ?_, by rw [List.length_drop]; omega⟩, hl, e1, ?_⟩
  · rw [← e1, ← cut cs 10 5 15 rfl, ← cut cs 0 10 10 rfl]; rfl
  · rw [List.getElem?_take, if_pos (by decide)] at e2
    exact e2
  · rw [List.getElem?_take, if_pos (by decide)] at e3
    simpa using e3
theorem open_wldn {a : Array Value} {d : DataW H} {p : List MemPlace} (h : DataW.Trod enc Tryz.prog w base spare held 44 (.agg a) d p) (hw : Wgt Tryz.prog 44 d) : ∃ (p : Prg) (g : Geo) (md mode : UInt8), WldV w.heap.size w a.toList p g md ∧ WorV a.toList g.enc mode := by
  obtain ⟨fuel, h⟩ := h
  exact opensW_wldn (F := fuel + 1) fuel (Nat.lt_succ_self _) _ _ h hw
end
end Go.Proofs.YthgmcegmgjoafaaGreatDoor
namespace Go.Proofs.YthgmcegmgjoafaaGreatDoor
open Go.Vc Go.RowKit Go.Sei
open Go.ChangeShapes Go.WideShapes Go.ChangeAt
structure GlobL (W : World) : Prop where
  bnd : BndM W
  needs : GlobC W
  cls : Glob W
abbrev seatLaidL : List (String × DataW Unit) := [("seisin/geo.bounds", Rows.laid_seisin_geo_bounds), ("seisin/check.needs", Rows.laid_seisin_check_needs), ("seisin/msg.classes", Rows.laid_seisin_msg_classes)]
theorem globL_of_laid {W : World} (h : laidMetH Tryz.prog seatLaidL W) (hsh : W.ShapedOpen Tryz.prog) : GlobL W := by
  have h0 : laidMet Tryz.prog seatLaidL W := h
  have h1 := h0.tail
  have h2 := h1.tail
  have bnd : BndM W := by
    obtain ⟨ps, ⟨g', t', cs, fuel, p, q, hg', ht', hv, hd, _, _⟩, _⟩ := h0
    obtain rfl := Option.some.inj ((show Tryz.prog.globalNamed "seisin/geo.bounds" = some 2 by kernel_rfl).symm.trans hg')
    obtain rfl := Option.some.inj ((show (Tryz.prog.globals[2]?).map (·.type) = some 185 by kernel_rfl).symm.trans ht')
    obtain ⟨bs, h1, h2, h3⟩ := open_is Tryz.underlying185 Tryz.underlying3 (by kernel_rfl) (by kernel_rfl) hd
    have hbs : bs = bndL := by
      match bs, h1 with
      | [b0, b1, b2, b3, b4], _ =>
        simp only [Rows.laid_seisin_geo_bounds, List.map_cons, List.map_nil, DataW.agg.injEq, List.cons.injEq, DataW.lit.injEq, Lit.int.injEq, true_and, and_true] at h3
        simp only [bndL, List.cons.injEq, and_true]
        obtain ⟨a0, a1, a2, a3, a4⟩ := h3
        exact ⟨a0.symm, a1.symm, a2.symm, a3.symm, a4.symm⟩
    subst hbs
    refine cells_mk fun i v hvv => ?_
    have hc := World.var?_cell hg' hv i
    rw [← hvv, ← h2]
    simpa using hc
  have needs : GlobC W := by
    obtain ⟨ps, ⟨g', t', cs, fuel, p, q, hg', ht', hv, hd, _, _⟩, _⟩ := h1
    obtain rfl := Option.some.inj ((show Tryz.prog.globalNamed "seisin/check.needs" = some 3 by kernel_rfl).symm.trans hg')
    obtain rfl := Option.some.inj ((show (Tryz.prog.globals[3]?).map (·.type) = some 236 by kernel_rfl).symm.trans ht')
    obtain ⟨bs, h1, h2, h3⟩ := open_u8s Tryz.underlying236 Tryz.underlying5 (by kernel_rfl) (by kernel_rfl) hd
    have hbs : bs = needL := by
      match bs, h1 with
      | [b0, b1, b2, b3, b4, b5, b6, b7, b8], _ =>
        simp only [Rows.laid_seisin_check_needs, List.map_cons, List.map_nil, DataW.agg.injEq, List.cons.injEq, DataW.lit.injEq, Lit.int.injEq, true_and, and_true] at h3
        simp only [needL, List.cons.injEq, and_true]
        obtain ⟨a0, a1, a2, a3, a4, a5, a6, a7, a8⟩ := h3
        refine ⟨?_, ?_, ?_, ?_, ?_, ?_, ?_, ?_, ?_⟩ <;> (apply UInt8.toNat_inj.1; simp; omega)
    subst hbs
    refine cells_mk fun i v hvv => ?_
    have hc := World.var?_cell hg' hv i
    rw [← hvv, ← h2]
    simpa using hc
  have cls : Glob W := by
    obtain ⟨ps, ⟨g', t', cs, fuel, p, q, hg', ht', hv, hd, _, _⟩, _⟩ := h2
    obtain rfl := Option.some.inj ((show Tryz.prog.globalNamed "seisin/msg.classes" = some 1 by kernel_rfl).symm.trans hg')
    obtain rfl := Option.some.inj ((show (Tryz.prog.globals[1]?).map (·.type) = some 121 by kernel_rfl).symm.trans ht')
    obtain ⟨bs, h1, h2, h3⟩ := open_u8s Tryz.underlying121 Tryz.underlying5 (by kernel_rfl) (by kernel_rfl) hd
    have hbs : bs = classes := by
      match bs, h1 with
      | [b0, b1, b2, b3, b4, b5, b6, b7, b8, b9, b10, b11, b12], _ =>
        simp only [Rows.laid_seisin_msg_classes, List.map_cons, List.map_nil, DataW.agg.injEq, List.cons.injEq, DataW.lit.injEq, Lit.int.injEq, true_and, and_true] at h3
        simp only [classes, List.cons.injEq, and_true]
        obtain ⟨a0, a1, a2, a3, a4, a5, a6, a7, a8, a9, a10, a11, a12⟩ := h3
        refine ⟨?_, ?_, ?_, ?_, ?_, ?_, ?_, ?_, ?_, ?_, ?_, ?_, ?_⟩ <;> (apply UInt8.toNat_inj.1; simp; omega)
    subst hbs
    refine cells_mk fun i v hvv => ?_
    have hc := World.var?_cell hg' hv i
    rw [← hvv, ← h2]
    simpa using hc
  exact ⟨bnd, needs, cls⟩
def lit1L : DataW Unit → List Value
  | .lit (.int k n) => [.int k n]
  | .lit (.string s) => [.string ⟨s.toArray⟩]
  | _ => []
def lit2L : DataW Unit → List Value
  | .agg ps => ps.flatMap lit1L
  | x => lit1L x
def setGL (h : Array Obj) (g : Nat) (cs : List Value) : Array Obj := h.modify g fun
  | .cells _ t frozen => .cells cs.toArray t frozen
  | o => o
def layHL (h : Array Obj) : Array Obj :=
  let h1 := setGL h 2 (lit2L Rows.laid_seisin_geo_bounds)
  let h2 := setGL h1 3 (lit2L Rows.laid_seisin_check_needs)
  setGL h2 1 (lit2L Rows.laid_seisin_msg_classes)
noncomputable def laidWorldL (os : Os) : World :=
  { World.holding Tryz.prog os ⟨#[], #[], []⟩ with heap := layHL (World.holding Tryz.prog os ⟨#[], #[], []⟩).heap }
theorem laidWorldL_met (os : Os) (args : Array Value) : laidMetH Tryz.prog seatLaidL ((laidWorldL os).forCall (fun _ _ => 0) ⟨#[], args, []⟩).memory := by
  show laidMet Tryz.prog seatLaidL _
  exact laidMet_of_run' 8 (by kernel_rfl) (by kernel_rfl)
end Go.Proofs.YthgmcegmgjoafaaGreatDoor
