/- Contracts: has, SameInts, ready. -/
import Derived.Test.YtflljnnndmkfkaaDoorNet3
namespace Go.Proofs.YtflljnnndmkfkaaDoor
open Go.Vc Go.RowKit Go.Sei

theorem neq_t {a b : Int} (h : (!decide (a = b)) = true) : ¬ a = b := by simpa using h
theorem neq_f {a b : Int} (h : (!decide (a = b)) = false) : a = b := by simpa using h

theorem int_at {w : World} {p : Option Addr} {l : List Int} (h : SlR intE w p l) {k : Nat} (hk : k < l.length) : ∃ b o, p = some ⟨b, o, none⟩ ∧ b < w.heap.size ∧ w.cell? ⟨b, o + k * 1, none⟩ = some (.int .i64 l[k]) := by
  obtain ⟨b, o, rfl, hb, hc⟩ := h.at hk
  exact ⟨b, o, rfl, hb, cells_head (hc k hk)⟩

theorem has_c (p : Option Addr) (cap : Nat) (l : List Int) (n : Int) (w : World) (hl : SlR intE w p l) (hn : l.length ≤ 1000000000) :
    Calls Tryd.prog 9 #[.slice p l.length cap, .int .i64 n] w fun e w' => e = .returned (.bool (decide (n ∈ l))) ∧ w = w' := by
  refine calls_of_E (S := sg 18) (sgOk _) (args := [.slice p l.length cap, .int .i64 n]) Tryd.func9 rfl rfl (Nat.le_of_ble_eq_true rfl) rfl ?_
  refine ⟨Nat, fun k => ⟨[(0, .slice p l.length cap), (1, .int .i64 n), (4, .bool false), (5, .int .i64 (k : Nat))], []⟩,
    fun k X => k ≤ l.length ∧ X = w ∧ n ∉ l.take k, fun k => l.length - k, 0, ⟨.cons rfl (.cons rfl (.cons rfl (.cons rfl .nil))), rfl⟩, ⟨Nat.zero_le _, rfl, by simp⟩, ?_⟩
  rintro k X ⟨hk, rfl, hm⟩
  refine And.intro (fun h => ?_) (fun h => ?_)
  · have h := of_decide_eq_true h
    have hkl : k < l.length := by omega
    obtain ⟨b, o, rfl, hb, hc⟩ := int_at hl hkl
    refine ⟨k, rfl, hkl, ?_⟩
    refine ⟨_, hc, ?_⟩
    refine And.intro (fun h => ?_) (fun h => ?_)
    · have h := of_decide_eq_true h
      refine And.intro (rb ?_) rfl
      rw [decide_eq_true]
      rw [← h]; exact List.getElem_mem _
    · have h := of_decide_eq_false h
      refine ⟨_, wrap_i64 (by omega), ?_⟩
      refine ⟨k + 1, ⟨.cons rfl (.cons rfl (.cons rfl (.cons rfl .nil))), rfl⟩, ⟨hkl, rfl, ?_⟩, by dsimp only; omega⟩
      rw [List.take_succ_eq_append_getElem hkl]
      simp only [List.mem_append, List.mem_singleton, not_or]
      exact ⟨hm, fun e => h e.symm⟩
  · have h := of_decide_eq_false h
    refine And.intro (rb ?_) rfl
    rw [List.take_of_length_le (by omega)] at hm
    rw [decide_eq_false hm]

theorem same_c (p1 p2 : Option Addr) (cap1 cap2 : Nat) (l1 l2 : List Int) (w : World) (h1 : SlR intE w p1 l1) (h2 : SlR intE w p2 l2) (hn : l1.length ≤ 1000000000) :
    Calls Tryd.prog 17 #[.slice p1 l1.length cap1, .slice p2 l2.length cap2] w fun e w' => e = .returned (.bool (decide (l1 = l2))) ∧ Below w.heap.size w w' := by
  refine calls_of_E (S := sg 26) (sgOk _) (args := [.slice p1 l1.length cap1, .slice p2 l2.length cap2]) Tryd.func17 rfl rfl (Nat.le_of_ble_eq_true rfl) rfl ?_
  refine And.intro (fun h => ?_) (fun h => ?_)
  · have h := neq_t h
    refine And.intro (rb ?_) (Below.refl _ _)
    rw [decide_eq_false (fun e => h (by rw [e]))]
  have h := neq_f h
  refine ⟨Nat, fun k => ⟨[(0, .slice p1 l1.length cap1), (1, .slice p2 l2.length cap2), (4, .bool false), (5, .int .i64 (k : Nat))], []⟩,
    fun k X => k ≤ l1.length ∧ Below w.heap.size w X ∧ l1.take k = l2.take k, fun k => l1.length - k, 0, ⟨.cons rfl (.cons rfl (.cons rfl (.cons rfl .nil))), rfl⟩, ⟨Nat.zero_le _, Below.refl _ _, by simp⟩, ?_⟩
  rintro k X ⟨hk, hbX, hm⟩
  refine And.intro (fun h => ?_) (fun h => ?_)
  · have h := of_decide_eq_true h
    have hkl : k < l1.length := by omega
    have hkl2 : k < l2.length := by omega
    obtain ⟨b1, o1, rfl, hb1, hc1⟩ := int_at (h1.below hbX.drew) hkl
    obtain ⟨b2, o2, rfl, hb2, hc2⟩ := int_at (h2.below hbX.drew) hkl2
    refine DrawE.ord [] [0, 1, 2, 3, 4, 5, 6, 7, 8] (by kernel_rfl) ?_
    refine ⟨k, rfl, hkl, ?_⟩
    refine ⟨_, hc1, ?_⟩
    refine ⟨k, rfl, hkl2, ?_⟩
    refine ⟨_, hc2, ?_⟩
    refine And.intro (fun h => ?_) (fun h => ?_)
    · have h := neq_t h
      refine And.intro (rb ?_) hbX.drew
      rw [decide_eq_false (fun e => h (by simp only [e]))]
    · have h := neq_f h
      refine ⟨_, wrap_i64 (by omega), ?_⟩
      refine ⟨k + 1, ⟨.cons rfl (.cons rfl (.cons rfl (.cons rfl .nil))), rfl⟩, ⟨hkl, hbX.drew, ?_⟩, by dsimp only; omega⟩
      rw [List.take_succ_eq_append_getElem hkl, List.take_succ_eq_append_getElem hkl2, hm, h]
  · have h := of_decide_eq_false h
    refine And.intro (rb ?_) hbX
    rw [List.take_of_length_le (by omega), List.take_of_length_le (by omega)] at hm
    rw [decide_eq_true hm]

theorem ready_c (p : Option Addr) (cap : Nat) (l : List Msg) (mode : UInt8) (w : World) (hl : SlR Msg.E w p l) (hg : Glob w) :
    Calls Tryd.prog 19 #[.slice p l.length cap, u8 mode] w fun e w' => e = .returned (.func (.func 27) #[] #[.pointer (some ⟨w.heap.size, 0, none⟩), .pointer (some ⟨w.heap.size + 1, 0, none⟩)]) ∧
      Below w.heap.size w w' ∧ Found w' w.heap.size (w.heap.size + 1) p cap l mode := by
  refine calls_of_E (S := sg 6) (sgOk _) (args := [.slice p l.length cap, u8 mode]) Tryd.func19 rfl rfl (Nat.le_of_ble_eq_true rfl) rfl ?_
  have hb : Below w.heap.size w ((w.alloc (.cells #[.slice p l.length cap] 22)).alloc (.cells #[u8 mode] 5)) := ((Below.refl _ _).alloc (Nat.le_refl _) _).alloc (by simp) _
  refine And.intro (by rw [World.size_alloc]; rfl) (And.intro hb ?_)
  refine ⟨hold _ (hnew w _), ?_, hg.below hb, hl.below hb⟩
  have := hnew (w.alloc (.cells #[.slice p l.length cap] 22)) (.cells #[u8 mode] 5)
  rwa [World.size_alloc] at this
end Go.Proofs.YtflljnnndmkfkaaDoor
