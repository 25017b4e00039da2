/- The seat's part of a row: the condition on the table of classes; readings opened. -/
import Derived.Test.YtflljnnndmkfkaaDoorMsgO
import Derived.Test.YtflljnnndmkfkaaDoorRows
import Derived.WalkKit
import Derived.ChangeOld
import Derived.Below
import Derived.LaidLaws
import Derived.LaidHandle
import Derived.SevenTiedAt
namespace Go.Proofs.YtflljnnndmkfkaaDoor
open Go.Vc Go.Sei
open Go.ChangeShapes Go.WideShapes Go.ChangeAt Go.RowKit
set_option linter.unusedVariables false

theorem seat_own : ownKnob Tryd.prog.godebug = none := by kernel_rfl
theorem seat_laidOut : laidOutB Tryd.prog = true := by kernel_rfl
theorem seat_glob : Tryd.prog.globalNamed "seisin/msg.classes" = some 0 := by kernel_rfl
theorem seat_globType : (Tryd.prog.globals[0]?).map (·.type) = some 67 := by kernel_rfl

abbrev seatLaid : List (String × DataW Unit) := [("seisin/msg.classes", Rows.laid_seisin_msg_classes)]

/-- What the condition gives a walk: the table of classes. -/
theorem glob_of_laid {W : World} (h : laidMetH Tryd.prog seatLaid W) : Glob W := by
  have h' : laidMet Tryd.prog seatLaid W := h
  obtain ⟨ps, ⟨g, t, cs, fuel, p, q, e1, e2, e3, e4, _⟩, _⟩ := h'
  obtain rfl := Option.some.inj (seat_glob.symm.trans e1)
  obtain rfl := Option.some.inj (seat_globType.symm.trans e2)
  obtain ⟨bs, h1, h2, h3⟩ := open_u8s Tryd.underlying67 Tryd.underlying5 cells5 cells67 e4
  have hbs : bs = classes := by
    match bs, h1 with
    | [b0, b1, b2, b3, b4, b5, b6, b7, b8, b9, b10, b11, b12], _ =>
      simp only [Rows.laid_seisin_msg_classes, List.map_cons, List.map_nil, DataW.agg.injEq, List.cons.injEq, DataW.lit.injEq, Lit.int.injEq, true_and, and_true] at h3
      simp only [classes, List.cons.injEq, and_true]
      obtain ⟨a0, a1, a2, a3, a4, a5, a6, a7, a8, a9, a10, a11, a12⟩ := h3
      refine ⟨?_, ?_, ?_, ?_, ?_, ?_, ?_, ?_, ?_, ?_, ?_, ?_, ?_⟩ <;> (apply UInt8.toNat_inj.1; simp; omega)
  subst hbs
  refine cells_mk fun i v hv => ?_
  have hc := World.var?_cell seat_glob e3 i
  rw [← hv, ← h2]
  simpa using hc

/-- A world that meets the condition. -/
noncomputable def laidWorld (os : Os) : World :=
  { World.holding Tryd.prog os ⟨#[], #[], []⟩ with heap := (World.holding Tryd.prog os ⟨#[], #[], []⟩).heap.modify 0 fun
      | .cells _ t frozen => .cells (classes.map u8).toArray t frozen
      | o => o }
theorem laidWorld_met (os : Os) (args : Array Value) : laidMetH Tryd.prog seatLaid ((laidWorld os).forCall (fun _ _ => 0) ⟨#[], args, []⟩).memory := by
  show laidMet Tryd.prog seatLaid _
  exact laidMet_of_run' 8 (by kernel_rfl) (by kernel_rfl)

theorem ok_slice {P : Program} {w : World} {r : Reach} {base : Nat} {t e : TypeId} {v : Value} (ht : P.underlying t = some (.slice e)) (h : Value.okWide P w r base t v) :
    ∃ a len cap, v = .slice a len cap ∧ len ≤ cap ∧ (a = none → cap = 0) := by
  simp only [Value.okWide, ht, Cell.okWide] at h
  cases v with
  | slice a len cap =>
    cases a with
    | none =>
      refine ⟨none, len, cap, rfl, ?_⟩
      unfold Cell.ok at h
      rw [ht] at h
      split at h <;> simp_all
    | some a =>
      refine ⟨some a, len, cap, rfl, ?_, fun h => by cases h⟩
      unfold Cell.ok at h
      rw [ht] at h
      split at h <;> simp_all
  | _ => simp_all [Cell.ok]

section
variable {H : Type} {enc : TypeId × Value → H} {w : World} {base : Nat} {spare : Nat → Bool} {held : Bool} {d : DataW H} {p : List MemPlace}
theorem open_u8v {k : IntKind} {n : Int} (h : DataW.Trod enc Tryd.prog w base spare held 5 (.int k n) d p) : ∃ b : UInt8, Value.int k n = u8 b := by
  obtain ⟨fuel, h⟩ := h
  obtain ⟨b, h1, _⟩ := open_u8 Tryd.underlying5 h
  refine ⟨b, ?_⟩
  simp [Value.cells] at h1
  exact h1
theorem open_int {P : Program} {fuel : Nat} {t : TypeId} {cs : List Value} {x : DataW H × List MemPlace} (ht : P.underlying t = some (.int .i64)) (h : DataW.trod enc P w base spare held fuel t cs = some x) : ∃ n : Int, cs = [.int .i64 n] := by
  obtain ⟨n, rfl, _, _⟩ := DataW.trod_int ht h
  exact ⟨n, rfl⟩
theorem cellsI : Tryd.prog.cellsOf 3 = 1 := by kernel_rfl
theorem open_ints {v : Value} {p : List MemPlace} {d : DataW H} {a0 : Option Addr} {len0 cap0 : Nat} (hv : v = .slice a0 len0 cap0)
    (h : DataW.Trod enc Tryd.prog w base spare held 24 v d p) : ∃ l : List Int, l.length = len0 ∧ SlR intE w a0 l := by
  subst hv
  obtain ⟨fuel, h⟩ := h
  rcases DataW.trod_slice Tryd.underlying24 h with ⟨hcs, _⟩ | ⟨a, len, cap, elems, rest, n, _, hcs, _, _, _, _, hlen, hel, _, _⟩
  · simp [Value.cells] at hcs
    obtain ⟨rfl, rfl, rfl⟩ := hcs
    exact ⟨[], rfl, .nil⟩
  · simp [Value.cells] at hcs
    obtain ⟨rfl, rfl, rfl⟩ := hcs
    have each : ∀ i, i < len0 → ∃ m : Int, (a.add (i * 1)).spot = none ∧ (a.add (i * 1)).block < w.heap.size ∧ Cells w ⟨(a.add (i * 1)).block, (a.add (i * 1)).off, none⟩ [.int .i64 m] := fun i hi => by
      have h1 := hel i hi
      rw [cellsI, List.getElem?_eq_getElem (by omega), Option.bind_eq_some_iff] at h1
      obtain ⟨cs, h2, h3⟩ := h1
      obtain ⟨m, rfl⟩ := open_int Tryd.underlying3 h3
      exact ⟨m, cells_of_run (by decide) h2⟩
    by_cases h00 : len0 = 0
    · exact ⟨[], h00.symm, .nil⟩
    have hsp : a.spot = none := by
      obtain ⟨m, h3, _⟩ := each 0 (by omega)
      simpa [Addr.add] using h3
    obtain ⟨b, o, s⟩ := a
    dsimp only at hsp
    subst hsp
    have each : ∀ i, i < len0 → ∃ m : Int, b < w.heap.size ∧ Cells w ⟨b, o + i * 1, none⟩ [.int .i64 m] := fun i hi => by
      obtain ⟨m, _, h4, h5⟩ := each i hi
      rw [add_none] at h4 h5
      exact ⟨m, h4, h5⟩
    have all : ∀ k, k ≤ len0 → ∃ l : List Int, l.length = k ∧ ∀ i (h : i < l.length), Cells w ⟨b, o + i * 1, none⟩ [.int .i64 l[i]] := by
      intro k
      induction k with
      | zero => exact fun _ => ⟨[], rfl, fun i h => absurd h (by simp)⟩
      | succ k ih =>
        intro hk
        obtain ⟨l, h1, h2⟩ := ih (by omega)
        obtain ⟨m, _, h3⟩ := each k (by omega)
        refine ⟨l ++ [m], by simp [h1], fun i hi => ?_⟩
        by_cases hik : i < l.length
        · rw [List.getElem_append_left hik]; exact h2 i hik
        · have : i = k := by simp [h1] at hi; omega
          subst this
          rw [List.getElem_append_right (by omega)]
          simp only [h1, Nat.sub_self, List.getElem_cons_zero]; exact h3
    obtain ⟨l, h1, h2⟩ := all len0 (Nat.le_refl _)
    refine ⟨l, h1, ?_⟩
    obtain ⟨m, h4, _⟩ := each 0 (by omega)
    exact .inr ⟨b, o, rfl, h4, h2⟩
end
end Go.Proofs.YtflljnnndmkfkaaDoor
