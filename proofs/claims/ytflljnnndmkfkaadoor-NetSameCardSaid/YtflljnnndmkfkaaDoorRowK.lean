/- The seat's part of a row: the condition on the table of classes; readings opened. -/
import Derived.Test.YtflljnnndmkfkaaDoorMsgO
import Derived.Test.YtflljnnndmkfkaaDoorRows
import Derived.WalkKit
import Derived.ChangeOld
import Derived.Below
import Derived.LaidLaws
import Derived.LaidHandle
import Derived.SevenTiedAt
namespace Go.Proofs.YtflljnnndmkfkaaDoor
open Go.Vc Go.Sei
open Go.ChangeShapes Go.WideShapes Go.ChangeAt Go.RowKit
set_option linter.unusedVariables false

theorem seat_own : ownKnob Tryd.prog.godebug = none := by kernel_rfl
theorem seat_laidOut : laidOutB Tryd.prog = true := by kernel_rfl
theorem seat_glob : Tryd.prog.globalNamed "seisin/msg.classes" = some 0 := by kernel_rfl
theorem seat_globType : (Tryd.prog.globals[0]?).map (·.type) = some 67 := by kernel_rfl

abbrev seatLaid : List (String × DataW Unit) := [("seisin/msg.classes", Rows.laid_seisin_msg_classes)]

/-- What the condition gives a walk: the table of classes. -/
theorem glob_of_laid {W : World} (h : laidMetH Tryd.prog seatLaid W) : Glob W := by
  have h' : laidMet Tryd.prog seatLaid W := h
  obtain ⟨ps, ⟨g, t, cs, fuel, p, q, e1, e2, e3, e4, _⟩, _⟩ := h'
  obtain rfl := Option.some.inj (seat_glob.symm.trans e1)
  obtain rfl := Option.some.inj (seat_globType.symm.trans e2)
  obtain ⟨bs, h1, h2, h3⟩ := open_u8s Tryd.underlying67 Tryd.underlying5 cells5 cells67 e4
  have hbs : bs = classes := by
    match bs, h1 with
    | [b0, b1, b2, b3, b4, b5, b6, b7, b8, b9, b10, b11, b12], _ =>
      simp only [Rows.laid_seisin_msg_classes, List.map_cons, List.map_nil, DataW.agg.injEq, List.cons.injEq, DataW.lit.injEq, Lit.int.injEq, true_and, and_true] at h3
      simp only [classes, List.cons.injEq, and_true]
      obtain ⟨a0, a1, a2, a3, a4, a5, a6, a7, a8, a9, a10, a11, a12⟩ := h3
      refine ⟨?_, ?_, ?_, ?_, ?_, ?_, ?_, ?_, ?_, ?_, ?_, ?_, ?_⟩ <;> (apply UInt8.toNat_inj.1; simp; omega)
  subst hbs
  refine cells_mk fun i v hv => ?_
  have hc := World.var?_cell seat_glob e3 i
  rw [← hv, ← h2]
  simpa using hc

/-- A world that meets the condition. -/
noncomputable def laidWorld (os : Os) : World :=
  { World.holding Tryd.prog os ⟨#[], #[], []⟩ with heap := (World.holding Tryd.prog os ⟨#[], #[], []⟩).heap.modify 0 fun
      | .cells _ t frozen => .cells (classes.map u8).toArray t frozen
      | o => o }
theorem laidWorld_met (os : Os) (args : Array Value) : laidMetH Tryd.prog seatLaid ((laidWorld os).forCall (fun _ _ => 0) ⟨#[], args, []⟩).memory := by
  show laidMet Tryd.prog seatLaid _
  exact laidMet_of_run' 8 (by kernel_rfl) (by kernel_rfl)

theorem ok_slice {P : Program} {w : World} {r : Reach} {base : Nat} {t e : TypeId} {v : Value} (ht : P.underlying t = some (.slice e)) (h : Value.okWide P w r base t v) :
    ∃ a len cap, v = .slice a len cap ∧ len ≤ cap ∧ (a = none → cap = 0) := by
  simp only [Value.okWide, ht, Cell.okWide] at h
  cases v with
  | slice a len cap =>
    cases a with
    | none =>
      refine ⟨none, len, cap, rfl, ?_⟩
      unfold Cell.ok at h
      rw [ht] at h
      split at h <;> simp_all
    | some a =>
      refine ⟨some a, len, cap, rfl, ?_, fun h => by cases h⟩
      unfold Cell.ok at h
      rw [ht] at h
      split at h <;> simp_all
  | _ => simp_all [Cell.ok]

section
variable {H : Type} {enc : TypeId × Value → H} {w : World} {base : Nat} {spare : Nat → Bool} {held : Bool} {d : DataW H} {p : List MemPlace}
theorem open_u8v {k : IntKind} {n : Int} (h : DataW.Trod enc Tryd.prog w base spare held 5 (.int k n) d p) : ∃ b : UInt8, Value.int k n = u8 b := by
  obtain ⟨fuel, h⟩ := h
  obtain ⟨b, h1, _⟩ := open_u8 Tryd.underlying5 h
  refine ⟨b, ?_⟩
  simp [Value.cells] at h1
  exact h1
end
end Go.Proofs.YtflljnnndmkfkaaDoor
