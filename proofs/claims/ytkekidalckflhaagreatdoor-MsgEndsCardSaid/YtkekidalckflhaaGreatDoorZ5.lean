/- The seat's part of a row: readings of messages, of byte slices and of strings, opened; a wrap that hands on the condition and the world's shape. -/
import Derived.Test.YtkekidalckflhaaGreatDoorZKMgW
import Derived.Below
import Derived.HandedShaped
namespace Go.Proofs.YtkekidalckflhaaGreatDoor
open Go.Vc Go.Sei
open Go.ChangeShapes Go.WideShapes Go.ChangeAt Go.RowKit
set_option linter.unusedVariables false

theorem cells5 : Tryz.prog.cellsOf 5 = 1 := by kernel_rfl
theorem cells4 : Tryz.prog.cellsOf 4 = 1 := by kernel_rfl
theorem cells28 : Tryz.prog.cellsOf 25 = 4 := by kernel_rfl
theorem cells30 : Tryz.prog.cellsOf 27 = 11 := by kernel_rfl
theorem cells67 : Tryz.prog.cellsOf 42 = 13 := by kernel_rfl

section
variable {H : Type} {enc : TypeId × Value → H} {w : World} {base : Nat} {spare : Nat → Bool} {held : Bool} {fuel : Nat} {cs : List Value} {x : DataW H × List MemPlace}

set_option maxRecDepth 100000 in
theorem open_msg (h : DataW.trod enc Tryz.prog w base spare held fuel 27 cs = some x) : ∃ m : Msg, cs = m.enc := by
  obtain ⟨xs, n, rfl, rfl, hl, hx, hel⟩ := DataW.trod_struct Tryz.underlying27 h
  rw [cells30] at hl
  have hx : xs.length = 8 := hx
  have e0 : DataW.trod enc Tryz.prog w base spare held n 5 ((cs.drop 0).take (Tryz.prog.cellsOf 5)) = xs[0]? := hel 0 _ rfl
  have e1 : DataW.trod enc Tryz.prog w base spare held n 5 ((cs.drop 1).take (Tryz.prog.cellsOf 5)) = xs[1]? := hel 1 _ rfl
  have e2 : DataW.trod enc Tryz.prog w base spare held n 5 ((cs.drop 2).take (Tryz.prog.cellsOf 5)) = xs[2]? := hel 2 _ rfl
  have e3 : DataW.trod enc Tryz.prog w base spare held n 5 ((cs.drop 3).take (Tryz.prog.cellsOf 5)) = xs[3]? := hel 3 _ rfl
  have e4 : DataW.trod enc Tryz.prog w base spare held n 5 ((cs.drop 4).take (Tryz.prog.cellsOf 5)) = xs[4]? := hel 4 _ rfl
  have e5 : DataW.trod enc Tryz.prog w base spare held n 5 ((cs.drop 5).take (Tryz.prog.cellsOf 5)) = xs[5]? := hel 5 _ rfl
  have e6 : DataW.trod enc Tryz.prog w base spare held n 4 ((cs.drop 6).take (Tryz.prog.cellsOf 4)) = xs[6]? := hel 6 _ rfl
  have e7 : DataW.trod enc Tryz.prog w base spare held n 25 ((cs.drop 7).take (Tryz.prog.cellsOf 25)) = xs[7]? := hel 7 _ rfl
  rw [List.getElem?_eq_getElem (by omega)] at e0 e1 e2 e3 e4 e5 e6 e7
  rw [cells5] at e0 e1 e2 e3 e4 e5
  rw [cells4] at e6
  rw [cells28] at e7
  obtain ⟨b0, e0, _⟩ := open_u8 Tryz.underlying5 e0
  obtain ⟨b1, e1, _⟩ := open_u8 Tryz.underlying5 e1
  obtain ⟨b2, e2, _⟩ := open_u8 Tryz.underlying5 e2
  obtain ⟨b3, e3, _⟩ := open_u8 Tryz.underlying5 e3
  obtain ⟨b4, e4, _⟩ := open_u8 Tryz.underlying5 e4
  obtain ⟨b5, e5, _⟩ := open_u8 Tryz.underlying5 e5
  obtain ⟨b6, e6, _⟩ := DataW.trod_bool Tryz.underlying4 e6
  obtain ⟨bs, h7, e7, _⟩ := open_u8s Tryz.underlying25 Tryz.underlying5 cells5 cells28 e7
  match cs, hl with
  | [c0, c1, c2, c3, c4, c5, c6, c7, c8, c9, c10], _ =>
    match bs, h7 with
    | [d0, d1, d2, d3], _ =>
      simp at e0 e1 e2 e3 e4 e5 e6 e7
      obtain ⟨rfl, rfl, rfl, rfl⟩ := e7
      subst e0 e1 e2 e3 e4 e5 e6
      exact ⟨⟨b0, b1, b2, b3, b4, b5, b6, d0, d1, d2, d3⟩, rfl⟩

theorem open_msgv {a : Array Value} {d : DataW H} {p : List MemPlace} (h : DataW.Trod enc Tryz.prog w base spare held 27 (.agg a) d p) : ∃ m : Msg, Value.agg a = m.val := by
  obtain ⟨fuel, h⟩ := h
  obtain ⟨m, hm⟩ := open_msg h
  have : a.toList = m.enc := hm
  exact ⟨m, by unfold Msg.val; rw [← this]⟩
theorem add_none (b o i : Nat) : (⟨b, o, none⟩ : Addr).add i = ⟨b, o + i, none⟩ := by
  unfold Addr.add
  by_cases h : i = 0
  · simp [h]
  · simp [h]

theorem cells_of_run {a : Addr} {n : Nat} (hn : 0 < n) (h : w.cells? base a n = some cs) : a.spot = none ∧ a.block < w.heap.size ∧ Cells w ⟨a.block, a.off, none⟩ cs := by
  obtain ⟨_, hl, hc⟩ := World.cells?_some h
  have h0 := hc 0 hn
  rw [List.getElem?_eq_getElem (by omega)] at h0
  have hs : a.spot = none := by simpa [Addr.add] using World.cell?_spot h0
  obtain ⟨b, o, s⟩ := a
  dsimp only at hs
  subst hs
  refine ⟨rfl, World.block_lt_of_cell? _ _ h0, cells_mk fun i v hv => ?_⟩
  have hi : i < n := by have := (List.getElem?_eq_some_iff.1 hv).1; omega
  have := (hc i hi).trans hv
  rw [add_none] at this
  exact this

theorem open_bytes {v : Value} {p : List MemPlace} {d : DataW H} {a0 : Option Addr} {len0 cap0 : Nat} (hv : v = .slice a0 len0 cap0)
    (h : DataW.Trod enc Tryz.prog w base spare held 33 v d p) : ∃ l : List UInt8, l.length = len0 ∧ SlR byteE w a0 l := by
  subst hv
  obtain ⟨fuel, h⟩ := h
  rcases DataW.trod_slice Tryz.underlying33 h with ⟨hcs, _⟩ | ⟨a, len, cap, elems, rest, n, _, hcs, _, _, _, _, hlen, hel, _, _⟩
  · simp [Value.cells] at hcs
    obtain ⟨rfl, rfl, rfl⟩ := hcs
    exact ⟨[], rfl, .nil⟩
  · simp [Value.cells] at hcs
    obtain ⟨rfl, rfl, rfl⟩ := hcs
    have each : ∀ i, i < len0 → ∃ m : UInt8, (a.add (i * 1)).spot = none ∧ (a.add (i * 1)).block < w.heap.size ∧ Cells w ⟨(a.add (i * 1)).block, (a.add (i * 1)).off, none⟩ (byteE.enc m) := fun i hi => by
      have h1 := hel i hi
      rw [cells5, List.getElem?_eq_getElem (by omega), Option.bind_eq_some_iff] at h1
      obtain ⟨cs, h2, h3⟩ := h1
      obtain ⟨m, rfl, _⟩ := open_u8 Tryz.underlying5 h3
      exact ⟨m, cells_of_run (by decide) h2⟩
    by_cases h00 : len0 = 0
    · exact ⟨[], h00.symm, .nil⟩
    have hsp : a.spot = none := by
      obtain ⟨m, h3, _⟩ := each 0 (by omega)
      simpa [Addr.add] using h3
    obtain ⟨b, o, s⟩ := a
    dsimp only at hsp
    subst hsp
    have each : ∀ i, i < len0 → ∃ m : UInt8, b < w.heap.size ∧ Cells w ⟨b, o + i * 1, none⟩ (byteE.enc m) := fun i hi => by
      obtain ⟨m, _, h4, h5⟩ := each i hi
      rw [add_none] at h4 h5
      exact ⟨m, h4, h5⟩
    have all : ∀ k, k ≤ len0 → ∃ l : List UInt8, l.length = k ∧ ∀ i (h : i < l.length), Cells w ⟨b, o + i * 1, none⟩ (byteE.enc l[i]) := by
      intro k
      induction k with
      | zero => exact fun _ => ⟨[], rfl, fun i h => absurd h (by simp)⟩
      | succ k ih =>
        intro hk
        obtain ⟨l, h1, h2⟩ := ih (by omega)
        obtain ⟨m, _, h3⟩ := each k (by omega)
        refine ⟨l ++ [m], by simp [h1], fun i hi => ?_⟩
        by_cases hik : i < l.length
        · rw [List.getElem_append_left hik]; exact h2 i hik
        · have : i = k := by simp [h1] at hi; omega
          subst this
          rw [List.getElem_append_right (by omega)]
          simpa [h1] using h3
    obtain ⟨l, h1, h2⟩ := all len0 (Nat.le_refl _)
    refine ⟨l, h1, ?_⟩
    obtain ⟨m, h4, _⟩ := each 0 (by omega)
    exact .inr ⟨b, o, rfl, h4, h2⟩
end

theorem ok_slice {P : Program} {w : World} {r : Reach} {base : Nat} {t e : TypeId} {v : Value} (ht : P.underlying t = some (.slice e)) (h : Value.okWide P w r base t v) :
    ∃ a len cap, v = .slice a len cap ∧ len ≤ cap ∧ (a = none → cap = 0) := by
  simp only [Value.okWide, ht, Cell.okWide] at h
  cases v with
  | slice a len cap =>
    cases a with
    | none =>
      refine ⟨none, len, cap, rfl, ?_⟩
      unfold Cell.ok at h
      rw [ht] at h
      split at h <;> simp_all
    | some a =>
      refine ⟨some a, len, cap, rfl, ?_, fun h => by cases h⟩
      unfold Cell.ok at h
      rw [ht] at h
      split at h <;> simp_all
  | _ => simp_all [Cell.ok]

variable {H : Type} {enc : TypeId × Value → H} {w : World} {base : Nat} {spare : Nat → Bool} {held : Bool} {d : DataW H} {p : List MemPlace}

theorem open_strv {P : Program} {w : World} {r : Reach} {base : Nat} {t : TypeId} {v : Value} (ht : P.underlying t = some .string) (h : Value.okWide P w r base t v) : ∃ s : List UInt8, v = strV s := by
  unfold Value.okWide at h
  rw [ht] at h
  cases v with
  | string s => exact ⟨s.data.toList, by unfold strV bs; cases s; rfl⟩
  | _ => simp_all [Cell.okWide, Cell.ok]
theorem returns_and_shaped {H : Type} {enc : TypeId × Value → H} {a : Assume} {C : Checked} {os : Os} {f : FuncId} {fn : Func} {s : ChangeSpec} {conds : List PathCond} {apart fresh handsOn again : Bool} {X : World → Array Value → Prop}
    (hX : ∀ (w w' : World) (args : Array Value), w.heap = w'.heap → X w args → X w' args)
    (own : ownKnob C.prog.godebug = none) (started : os.Started) (noInit : C.prog.inits.idxOf? f = none) (hfn : C.prog.funcs[f]? = some fn)
    (witness : ∃ (w : World) (tape : Tape) (i : Input), w.os = os ∧ (w.forCall tape i).Shaped C.prog ∧ i.vars = [] ∧ Input.okWide C.prog (w.forCall tape i) .any w.heap.size f i ∧
      ((s.pre enc C.prog fn conds apart (w.forCall tape i).memory i.args ∧ X (w.forCall tape i).memory i.args) ∧ sizedMet enc C.prog fn (OpenSpec.ofChange s) apart (w.forCall tape i).memory i.args) ∧ a.holds C.prog (lone (Frame.enter C.prog f i.args .normal) [] (w.forCall tape i)))
    (contract : ∀ (W : World) (base : Nat) (args : Array Value) (ds gs : List (DataW H)) (before : List MemPlace),
      (∀ (j : Nat) t v, fn.params[j]? = some t → args[j]? = some v → Value.okWide C.prog W .any base t v) →
      DataW.Whole enc C.prog fn.params.toList s.vars apart W args.toList ds gs before → X W args → W.ShapedOpen C.prog →
      Calls C.prog f args W fun e W' => ∃ v, e = .returned v ∧ s.post enc C.prog fn apart fresh handsOn again W args v W') :
    ReturnsInHanded a C os f .any (fun w args => (s.pre enc C.prog fn conds apart w args ∧ X w args) ∧ sizedMet enc C.prog fn (OpenSpec.ofChange s) apart w args) (s.post enc C.prog fn apart fresh handsOn again) := by
  refine returnsInHanded_of_calls own started noInit witness ?_
  intro w tape i _ hsh _ hok hpre hholds
  obtain ⟨_, _, _, fn', hfn', _, _, _, _, hval⟩ := hok
  have e : fn' = fn := Option.some.inj (hfn'.symm.trans hfn)
  subst e
  obtain ⟨⟨⟨ds, gs, before, hw, hc⟩, hx⟩, hz⟩ := hpre
  have hw' := DataW.Whole.of_heap (w' := w.forCall tape i) (by rfl) hw
  refine (contract (w.forCall tape i) w.heap.size i.args ds gs before hval hw' (hX _ _ _ (by rfl) hx) hsh).mono fun e W' ⟨v, he, hp⟩ => ?_
  subst he
  exact ChangeSpec.post_blind hp

theorem seat_own : ownKnob Tryz.prog.godebug = none := by kernel_rfl
theorem seat_laidOut : laidOutB Tryz.prog = true := by kernel_rfl
end Go.Proofs.YtkekidalckflhaaGreatDoor
