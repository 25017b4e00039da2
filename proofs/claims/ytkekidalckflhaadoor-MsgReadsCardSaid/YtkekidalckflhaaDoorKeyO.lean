/- Plain: the order of byte strings, and the order of messages by a key. -/
import Derived.Test.YtkekidalckflhaaDoorCm2
import Derived.Test.YtkekidalckflhaaDoorSortP
namespace Go.Proofs.YtkekidalckflhaaDoor
open Go.Vc Go.RowKit Go.Sei

theorem cmp8_lt {x y : UInt8} : cmp8 x y < 0 ↔ x.toNat < y.toNat := by
  unfold cmp8; split
  · simp_all
  · split
    · simp; omega
    · simp; omega
theorem cmpL_self : ∀ l, cmpL l l = 0
  | [] => rfl
  | x :: r => by rw [cmpL, if_pos rfl]; exact cmpL_self r
theorem cmpL_lt_cons {x y : UInt8} {r s : List UInt8} : cmpL (x :: r) (y :: s) < 0 ↔ x.toNat < y.toNat ∨ (x = y ∧ cmpL r s < 0) := by
  rw [cmpL]; split
  · rename_i h; subst h; simp
  · rename_i h
    rw [cmp8_lt]; simp [h]
theorem cmpL_total : ∀ l1 l2, cmpL l1 l2 < 0 ∨ cmpL l2 l1 < 0 ∨ l1 = l2
  | [], [] => by simp
  | [], _ :: _ => .inl (by simp [cmpL])
  | _ :: _, [] => .inr (.inl (by simp [cmpL]))
  | x :: r, y :: s => by
    rw [cmpL_lt_cons, cmpL_lt_cons]
    rcases Nat.lt_trichotomy x.toNat y.toNat with h | h | h
    · exact .inl (.inl h)
    · have e : x = y := UInt8.toNat_inj.1 h
      subst e
      rcases cmpL_total r s with h | h | h
      · exact .inl (.inr ⟨rfl, h⟩)
      · exact .inr (.inl (.inr ⟨rfl, h⟩))
      · exact .inr (.inr (by rw [h]))
    · exact .inr (.inl (.inl h))
theorem cmpL_trans : ∀ l1 l2 l3, cmpL l1 l2 < 0 → cmpL l2 l3 < 0 → cmpL l1 l3 < 0
  | [], [], _, h, _ => by simp [cmpL] at h
  | _ :: _, [], _, h, _ => by simp [cmpL] at h
  | [], _ :: _, [], _, h => by simp [cmpL] at h
  | [], _ :: _, _ :: _, _, _ => by simp [cmpL]
  | _ :: _, _ :: _, [], _, h => by simp [cmpL] at h
  | x :: r, y :: s, z :: t, h1, h2 => by
    rw [cmpL_lt_cons] at *
    rcases h1 with h1 | ⟨rfl, h1⟩
    · rcases h2 with h2 | ⟨rfl, h2⟩
      · exact .inl (by omega)
      · exact .inl h1
    · rcases h2 with h2 | ⟨rfl, h2⟩
      · exact .inl h2
      · exact .inr ⟨rfl, cmpL_trans r s t h1 h2⟩

/-- Messages by a key. -/
def keyO (key : Msg → List UInt8) : MOrd Msg where
  lt a b := decide (cmpL (key a) (key b) < 0)
  irr a := by rw [cmpL_self]; rfl
  trans a b c h1 h2 := decide_eq_true (cmpL_trans _ _ _ (of_decide_eq_true h1) (of_decide_eq_true h2))
  neg a b c h1 h2 := by
    have h1 := of_decide_eq_false h1
    have h2 := of_decide_eq_false h2
    refine decide_eq_false fun h => ?_
    rcases cmpL_total (key a) (key b) with k | k | k
    · exact h1 k
    · rcases cmpL_total (key b) (key c) with q | q | q
      · exact h2 q
      · have := cmpL_trans _ _ _ (cmpL_trans _ _ _ h q) k
        rw [cmpL_self] at this; cases this
      · rw [← q] at h; exact h1 (by have := cmpL_trans _ _ _ h k; rw [cmpL_self] at this; cases this)
    · rw [k] at h; exact h2 h
theorem codeOf_inj {a b : Msg} (h : codeOf a = codeOf b) : a = b := by
  obtain ⟨a0, a1, a2, a3, a4, a5, a6, a7, a8, a9, a10⟩ := a
  obtain ⟨b0, b1, b2, b3, b4, b5, b6, b7, b8, b9, b10⟩ := b
  simp only [codeOf, List.cons.injEq, and_true] at h
  obtain ⟨rfl, rfl, rfl, rfl, rfl, rfl, h, rfl, rfl, rfl, rfl⟩ := h
  have : a6 = b6 := by cases a6 <;> cases b6 <;> simp at h ⊢
  rw [this]

/-- The key of a message in a mode. -/
def qbs (mode : UInt8) (m : Msg) : List UInt8 := [(queue m mode).1, (queue m mode).2.1, (queue m mode).2.2]
def mkey (mode : UInt8) (m : Msg) : List UInt8 := if mode = 1 then codeOf m else qbs mode m
end Go.Proofs.YtkekidalckflhaaDoor
