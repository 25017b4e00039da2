/- Plain: what the law NetNext rests upon. -/
import Derived.Test.YtflljnnndmkfkaaDoorNetP
namespace Go.Sei
open Go.Vc

def nats (l : List Nat) : List Int := l.map (fun (i : Nat) => (i : Int))
theorem nats_len (l : List Nat) : (nats l).length = l.length := by simp [nats]
theorem mem_nats (l : List Nat) (i : Nat) : ((i : Int) ∈ nats l) ↔ i ∈ l := by
  unfold nats; rw [List.mem_map]
  constructor
  · rintro ⟨a, ha, h⟩; have : a = i := by omega
    subst this; exact ha
  · exact fun h => ⟨i, h, rfl⟩

theorem mem_upto (l : List Msg) (mode : UInt8) (n i : Nat) : i ∈ upto l mode n ↔ i < n ∧ dlv l mode i = true := by
  unfold upto; simp [List.mem_filter]
theorem next_all (l : List Msg) : nextL l 1 = List.range l.length := by
  have : nextL l 1 = upto l 1 l.length := by simp [nextL, knownB]
  rw [this]; unfold upto
  rw [List.filter_eq_self]
  intro i _; simp [dlv]
theorem next_fifo (l : List Msg) : nextL l 2 = upto l 2 l.length := by simp [nextL, knownB]
theorem next_class (l : List Msg) : nextL l 3 = upto l 3 l.length := by simp [nextL, knownB]
theorem upto_head (l : List Msg) (mode : UInt8) (h : 0 < l.length) : ∃ t, upto l mode l.length = 0 :: t := by
  have h1 : upto l mode 1 <+: upto l mode l.length := upto_prefix l mode h
  have h2 : upto l mode 1 = [0] := by
    have : dlv l mode 0 = true := by rw [dlv_eq l mode h]; simp [cnt]
    have h3 := upto_succ l mode 0
    rw [this] at h3
    simpa [upto] using h3
  rw [h2] at h1
  obtain ⟨t, ht⟩ := h1
  exact ⟨t, ht.symm⟩
/-- Do messages j and i run between other pairs? -/
def differ (a b : Msg) : Bool := decide (¬ a.from_ = b.from_) || decide (¬ a.to = b.to)
theorem dlv_fifo (l : List Msg) {i : Nat} (hi : i < l.length) : dlv l 2 i = (l.take i).all (fun m => differ m l[i]) := by
  rw [dlv_eq l 2 hi]
  have h0 : decide ((2 : UInt8) = 1) = false := by decide
  rw [h0, Bool.false_or, Bool.eq_iff_iff, decide_eq_true_iff, List.all_eq_true]
  unfold cnt
  rw [List.count_eq_zero]
  constructor
  · intro h m hm
    have : queue m 2 ≠ queue l[i] 2 := fun e => h (List.mem_map.2 ⟨m, hm, e⟩)
    simp only [queue, differ] at this ⊢
    by_cases h1 : m.from_ = l[i].from_
    · by_cases h2 : m.to = l[i].to
      · exact absurd (by simp [h1, h2]) this
      · simp [h2]
    · simp [h1]
  · intro h hm
    obtain ⟨m, hm, e⟩ := List.mem_map.1 hm
    have := h m hm
    simp only [queue, Prod.mk.injEq] at e
    have e1 := e.1
    have e2 := e.2
    simp [differ, e1] at this
    exact this (by simpa using e2)
theorem fifo_class (l : List Msg) {i : Nat} (hi : i < l.length) (h : dlv l 2 i = true) : dlv l 3 i = true := by
  rw [dlv_fifo l hi, List.all_eq_true] at h
  rw [dlv_eq l 3 hi, decide_eq_false (show ¬ (3 : UInt8) = 1 by decide), Bool.false_or, decide_eq_true_iff]
  unfold cnt
  rw [List.count_eq_zero]
  intro hm
  obtain ⟨m, hm, e⟩ := List.mem_map.1 hm
  have := h m hm
  simp only [queue, Prod.mk.injEq] at e
  simp [differ, e.1, e.2.1] at this
/-- Is message i the first of its pair among the first k? -/
def firstB (l : List Msg) (m : Msg) (k : Nat) : Bool := (l.take k).all (fun a => differ a m)
theorem firstB_succ (l : List Msg) (m : Msg) {k : Nat} (hk : k < l.length) : firstB l m (k + 1) = (firstB l m k && differ l[k] m) := by
  unfold firstB; rw [List.take_succ_eq_append_getElem hk, List.all_append]; simp only [List.all_cons, List.all_nil, Bool.and_true]
end Go.Sei
