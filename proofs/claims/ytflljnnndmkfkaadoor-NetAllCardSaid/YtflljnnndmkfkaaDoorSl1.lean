/- Contracts: slices.Grow and slices.Concat at messages. -/
import Derived.Test.YtflljnnndmkfkaaDoorVcL
import Derived.Test.YtflljnnndmkfkaaDoorVcR
import Derived.Test.YtflljnnndmkfkaaDoorMsgM
import Derived.Test.YtflljnnndmkfkaaDoorSig
namespace Go.Proofs.YtflljnnndmkfkaaDoor
open Go.Vc Go.RowKit Go.Sei

theorem Grow_c (n : Nat) (hn : n ≤ 1000000000) (w : World) (B : Nat) (hB : B ≤ w.heap.size) :
    Calls Tryd.prog 28 #[.slice none 0 0, .int .i64 n] w fun e w' => ∃ p cap, e = .returned (.slice p 0 cap) ∧ OwnS Msg.E 30 B w' p cap [] ∧ Below w.heap.size w w' := by
  refine calls_of_E (S := sg 27) (sgOk _) (args := [.slice none 0 0, .int .i64 n]) Tryd.func28 rfl rfl (Nat.le_of_ble_eq_true rfl) rfl ?_
  refine And.intro (fun h => ?_) (fun _ => ?_)
  · have := of_decide_eq_true h
    omega
  refine ⟨_, _, rfl, ?_⟩
  refine ⟨0, by rfl, ?_⟩
  refine ⟨n, (wrap_i64 (by omega)).trans (by omega), ?_⟩
  refine And.intro (fun h => ?_) (fun _ => ?_)
  · have h := of_decide_eq_true h
    refine ⟨_, _, rfl, ?_⟩
    refine ⟨0, rfl, by omega, ?_⟩
    refine app_zeros (α := Msg) (E := Msg.E) Tryd.underlying22 Tryd.underlying3 (ttOk.get 30 _ rfl) rfl rfl rfl hB (by omega) (by omega) (by dsimp only; omega) ?_
    intro cap' w' ho hb hc
    refine ⟨0, rfl, by omega, ?_⟩
    exact ⟨some ⟨w.heap.size, 0, none⟩, cap', by rw [cutBase_zero]; rfl, ho, hb⟩
  · exact ⟨none, 0, rfl, .nil, Below.refl _ _⟩

/-- A part: where it lies, how much room, what it holds. -/
structure Part where
  p : Option Addr
  cap : Nat
  l : List Msg
def Part.val (q : Part) : Value := .slice q.p q.l.length q.cap
def partE : Enc Part := ⟨fun q => [q.val], 1, fun _ => rfl, by decide, fun a u hu => by
  simp only [List.mem_cons, List.not_mem_nil, or_false] at hu; subst hu; rfl⟩
def Part.ok (w : World) (q : Part) : Prop := SlR Msg.E w q.p q.l ∧ (q.p = none → q.cap = 0)
theorem Part.ok.below {w w2 : World} {q : Part} (h : q.ok w) (hb : Below w.heap.size w w2) : q.ok w2 := ⟨h.1.below hb, h.2⟩
def total (qs : List Part) : List Msg := qs.flatMap (·.l)
theorem total_take {qs : List Part} {k : Nat} (hk : k < qs.length) : total (qs.take (k + 1)) = total (qs.take k) ++ qs[k].l := by
  unfold total; rw [List.take_succ_eq_append_getElem hk, List.flatMap_append]; simp
theorem total_len {qs : List Part} (k : Nat) : (total (qs.take k)).length ≤ (total qs).length := by
  have : total qs = total (qs.take k) ++ total (qs.drop k) := by unfold total; rw [← List.flatMap_append, List.take_append_drop]
  rw [this]; simp

theorem Concat_c (p : Option Addr) (cap : Nat) (qs : List Part) (w : World) (hp : SlR partE w p qs) (hq : ∀ q ∈ qs, q.ok w) (hn : (total qs).length ≤ 1000000000) (hqn : qs.length ≤ 1000000000) :
    Calls Tryd.prog 21 #[.slice p qs.length cap] w fun e w' => ∃ p' cap', e = .returned (.slice p' (total qs).length cap') ∧ OwnS Msg.E 30 w.heap.size w' p' cap' (total qs) ∧ Below w.heap.size w w' := by
  refine calls_of_E (S := sg 36) (sgOk _) (args := [.slice p qs.length cap]) Tryd.func21 rfl rfl (Nat.le_of_ble_eq_true rfl) rfl ?_
  refine ⟨Nat, fun k => ⟨[(0, .slice p qs.length cap), (2, .slice none 0 0), (3, .int .i64 (total (qs.take k)).length), (9, .slice p qs.length cap), (10, .int .i64 qs.length), (11, .int .i64 (k : Nat))], []⟩,
    fun k X => k ≤ qs.length ∧ X = w, fun k => qs.length - k, 0, ⟨.cons rfl (.cons rfl (.cons rfl (.cons rfl (.cons rfl (.cons rfl .nil))))), rfl⟩, ⟨Nat.zero_le _, rfl⟩, ?_⟩
  rintro k X ⟨hk, rfl⟩
  refine And.intro (fun h => ?_) (fun h => ?_)
  · have h := of_decide_eq_true h
    have hkl : k < qs.length := by omega
    obtain ⟨b, o, rfl, hb, hc⟩ := hp.at hkl
    have ht := total_take hkl
    have ht1 := total_len (qs := qs) (k + 1)
    rw [ht, List.length_append] at ht1
    refine ⟨k, rfl, hkl, ?_⟩
    refine ⟨_, cells_head (hc k hkl), ?_⟩
    refine ⟨_, wrap_i64 (by omega), ?_⟩
    refine And.intro (fun h => ?_) (fun h => ?_)
    · have := of_decide_eq_true h
      omega
    · refine ⟨_, wrap_i64 (by omega), ?_⟩
      exact ⟨k + 1, ⟨.cons rfl (.cons rfl (.cons (by rw [ht, List.length_append]; rfl) (.cons rfl (.cons rfl (.cons rfl .nil))))), rfl⟩, ⟨hkl, rfl⟩, by dsimp only; omega⟩
  · have h := of_decide_eq_false h
    have hke : k = qs.length := by omega
    subst hke
    have hT : total (qs.take qs.length) = total qs := by rw [List.take_length]
    refine Calls.mono (Grow_c (total (qs.take qs.length)).length (by rw [hT]; exact hn) X X.heap.size (Nat.le_refl _)) ?_
    rintro e Y ⟨pg, cg, rfl, hog, hbY⟩
    refine ⟨Nat × Option Addr × Nat, fun s => ⟨[(0, .slice p qs.length cap), (2, .slice none 0 0), (6, .slice s.2.1 (total (qs.take s.1)).length s.2.2), (25, .slice p qs.length cap), (26, .int .i64 qs.length), (27, .int .i64 (s.1 : Nat))], []⟩,
      fun s Z => s.1 ≤ qs.length ∧ Below X.heap.size X Z ∧ OwnS Msg.E 30 X.heap.size Z s.2.1 s.2.2 (total (qs.take s.1)), fun s => qs.length - s.1, (0, pg, cg), ⟨.cons rfl (.cons rfl (.cons rfl (.cons rfl (.cons rfl (.cons rfl .nil))))), rfl⟩, ⟨Nat.zero_le _, hbY, hog⟩, ?_⟩
    rintro ⟨k, pn, cn⟩ Z ⟨hk, hbZ, hoZ⟩
    dsimp only at hk hoZ
    refine And.intro (fun h => ?_) (fun h => ?_)
    · have h := of_decide_eq_true h
      have hkl : k < qs.length := by omega
      obtain ⟨b, o, rfl, hb, hc⟩ := (hp.below hbZ).at hkl
      have ht := total_take hkl
      have ht1 := total_len (qs := qs) (k + 1)
      rw [ht, List.length_append] at ht1
      have hqk := (hq qs[k] (List.getElem_mem _)).below hbZ
      refine ⟨k, rfl, hkl, ?_⟩
      refine ⟨_, cells_head (hc k hkl), ?_⟩
      refine app_any (α := Msg) (E := Msg.E) (news := qs[k].l) Tryd.underlying22 (ttOk.get 30 _ rfl) rfl rfl rfl hoZ rfl hqk.1 hqk.2 hbZ.size (by omega) (by dsimp only; omega) ?_
      intro p' cap' w' ho' hg' hb'
      refine ⟨_, wrap_i64 (by omega), ?_⟩
      rw [← ht] at ho'
      exact ⟨(k + 1, p', cap'), ⟨.cons rfl (.cons rfl (.cons (by rw [ht]; rfl) (.cons rfl (.cons rfl (.cons rfl .nil))))), rfl⟩, ⟨hkl, hbZ.trans hb', ho'⟩, by dsimp only; omega⟩
    · have h := of_decide_eq_false h
      have hke : k = qs.length := by omega
      subst hke
      rw [hT] at hoZ
      exact ⟨pn, cn, by rw [← hT]; rfl, hoZ, hbZ⟩
end Go.Proofs.YtflljnnndmkfkaaDoor
