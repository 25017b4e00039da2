/- The law NetSorts: what it computes. -/
import Derived.Test.YtflljnnndmkfkaaDoorSrt1
import Derived.Test.YtflljnnndmkfkaaDoorNet7
namespace Go.Proofs.YtflljnnndmkfkaaDoor
open Go.Vc Go.RowKit Go.Sei

theorem known_iff (m : UInt8) : knownB m = true ↔ 1 ≤ (m.toNat : Int) ∧ (m.toNat : Int) ≤ 3 := by
  unfold knownB; rw [Bool.and_eq_true, decide_eq_true_iff, decide_eq_true_iff]
theorem known_not {m : UInt8} (h : ¬ (1 ≤ (m.toNat : Int) ∧ (m.toNat : Int) ≤ 3)) : knownB m = false := by
  cases hb : knownB m with
  | false => rfl
  | true => exact absurd ((known_iff m).1 hb) h

theorem netSorts_c (p : Option Addr) (cap : Nat) (l : List Msg) (mode kind line : UInt8) (w : World) (hl : SlR Msg.E w p l) (hk : p = none → cap = 0) (_hlc : l.length ≤ cap) (hg : Glob w) :
    Calls Tryd.prog 6 #[.slice p l.length cap, u8 mode, u8 kind, u8 line] w fun e w' => e = .returned (.bool true) ∧ Below w.heap.size w w' := by
  refine calls_of_E (S := sg 60) (sgOk _) (args := [.slice p l.length cap, u8 mode, u8 kind, u8 line]) Tryd.func6 rfl rfl (Nat.le_of_ble_eq_true rfl) rfl ?_
  refine Calls.mono (awake_c w hg) ?_
  rintro e W1 ⟨rfl, hb1⟩
  refine And.intro (fun h => by cases h) (fun _ => ?_)
  refine And.intro (fun h => ?_) (fun h => ?_)
  · exact And.intro rfl hb1
  have hn : l.length ≤ 60 := by have := of_decide_eq_false h; omega
  refine Calls.mono (Sort_c p cap l mode W1 (hl.below hb1) hk (hg.below hb1) (by omega)) ?_
  rintro e W2 ⟨r, q, c, rfl, s1, s2, ho, hb2⟩
  have hw2 := hb1.trans (hb2.mono hb1.size)
  have hrl : r.Perm l := by
    cases hm : knownB mode with
    | true => exact (s1 hm).perm
    | false => rw [s2 hm]
  have hlen := hrl.length_eq
  have hoc := own_cap ho
  refine Calls.mono (Sort_c q c r mode W2 ho.row hoc.2 (hg.below hw2) (by omega)) ?_
  rintro e W3 ⟨r2, q2, c2, rfl, t1, t2, ho2, hb3⟩
  have hw3 := hw2.trans (hb3.mono hw2.size)
  have hrr : r2 = r := by
    cases hm : knownB mode with
    | true => exact (isSort_eq (t1 hm) (s1 hm)).2 (s1 hm).filt
    | false => rw [t2 hm]
  subst hrr
  refine Calls.mono (SameMsgs_c q2 q c2 c r2 r2 W3 ho2.row (ho.row.below hb3) (by omega)) ?_
  rintro e W4 ⟨rfl, hb4⟩
  have hw4 := hw3.trans (hb4.mono hw3.size)
  refine And.intro (fun h => by simp at h) (fun _ => ?_)
  refine And.intro (fun h => absurd (by rw [hlen]) (nt h)) (fun _ => ?_)
  have hb34 := hb3.trans (hb4.mono hb3.size)
  refine Calls.mono (Count_c q c r2 kind line W4 (ho.row.below hb34) (by omega)) ?_
  rintro e W5 ⟨rfl, hb5⟩
  have hw5 := hw4.trans (hb5.mono hw4.size)
  refine Calls.mono (Count_c p cap l kind line W5 (hl.below hw5) (by omega)) ?_
  rintro e W6 ⟨rfl, hb6⟩
  have hw6 := hw5.trans (hb6.mono hw5.size)
  have hcnt : cntK kind line r2 = cntK kind line l := hrl.countP_eq _
  refine And.intro (fun h => absurd (by rw [hcnt]) (nt h)) (fun _ => ?_)
  have hro6 : SlR Msg.E W6 q r2 := ((ho.row.below hb34).below hb5).below hb6
  refine And.intro (fun h => ?_) (fun h => ?_)
  · have h : (mode.toNat : Int) < 1 := of_decide_eq_true h
    have hm := known_not (m := mode) (fun e => by omega)
    refine And.intro (fun _ => ?_) (fun h => by cases h)
    refine Calls.mono (SameMsgs_c q p c cap r2 l W6 hro6 (hl.below hw6) (by omega)) ?_
    rintro e W7 ⟨rfl, hb7⟩
    exact And.intro (rb (decide_eq_true (s2 hm))) (hw6.trans (hb7.mono hw6.size))
  have h : ¬ (mode.toNat : Int) < 1 := of_decide_eq_false h
  refine And.intro (fun h2 => ?_) (fun h2 => ?_)
  · have h2 : (3 : Int) < mode.toNat := of_decide_eq_true h2
    have hm := known_not (m := mode) (fun e => by omega)
    refine Calls.mono (SameMsgs_c q p c cap r2 l W6 hro6 (hl.below hw6) (by omega)) ?_
    rintro e W7 ⟨rfl, hb7⟩
    exact And.intro (rb (decide_eq_true (s2 hm))) (hw6.trans (hb7.mono hw6.size))
  have h2 : ¬ (3 : Int) < mode.toNat := of_decide_eq_false h2
  have hm := (known_iff mode).2 ⟨by omega, by omega⟩
  refine Calls.mono (Same_c q p c cap r2 l mode W6 hro6 (hl.below hw6) hoc.2 hk (hg.below hw6) (by omega) (by omega)) ?_
  rintro e W7 ⟨v, rfl, hv, hb7⟩
  have hw7 := hw6.trans (hb7.mono hw6.size)
  have hv : v = true := hv.2 ⟨hm, (s1 hm).filt⟩
  subst hv
  refine And.intro (fun _ => ?_) (fun h => by cases h)
  refine Calls.mono (Same_c q p c cap r2 l 1 W7 (hro6.below hb7) (hl.below hw7) hoc.2 hk (hg.below hw7) (by omega) (by omega)) ?_
  rintro e W8 ⟨v, rfl, hv, hb8⟩
  have hv : v = true := hv.2 ⟨by decide, perm_bag hrl⟩
  subst hv
  exact And.intro rfl (hw7.trans (hb8.mono hw7.size))
end Go.Proofs.YtflljnnndmkfkaaDoor
