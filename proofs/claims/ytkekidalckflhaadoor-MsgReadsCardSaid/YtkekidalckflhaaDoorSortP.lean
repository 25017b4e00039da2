/- Plain: a stable merge by rotations (as slices.symMerge does it). -/
import Derived.Test.YtkekidalckflhaaDoorVcH
namespace Go.Sei

/-- Elements with their places: the order under which a stable sort is a sort. -/
structure MOrd (α : Type) where
  lt : α → α → Bool
  irr : ∀ a, lt a a = false
  trans : ∀ a b c, lt a b = true → lt b c = true → lt a c = true
  neg : ∀ a b c, lt a b = false → lt b c = false → lt a c = false

abbrev Tg (α : Type) := α × Nat
def lt2 {α : Type} (O : MOrd α) (x y : Tg α) : Prop := O.lt x.1 y.1 = true ∨ (O.lt y.1 x.1 = false ∧ x.2 < y.2)
def Srt {α : Type} (O : MOrd α) (l : List (Tg α)) : Prop := l.Pairwise (lt2 O)

section
variable {α : Type} {O : MOrd α}
theorem MOrd.asymm (O : MOrd α) {a b : α} (h : O.lt a b = true) : O.lt b a = false := by
  cases hb : O.lt b a with
  | false => rfl
  | true => have := O.trans a b a h hb; rw [O.irr] at this; cases this
theorem lt2_irr {x : Tg α} : ¬ lt2 O x x := by
  rintro (h | ⟨_, h⟩)
  · rw [O.irr] at h; cases h
  · omega
theorem lt2_trans {x y z : Tg α} (h1 : lt2 O x y) (h2 : lt2 O y z) : lt2 O x z := by
  rcases h1 with h1 | ⟨h1, h1'⟩
  · rcases h2 with h2 | ⟨h2, h2'⟩
    · exact .inl (O.trans _ _ _ h1 h2)
    · left
      cases h : O.lt x.1 z.1 with
      | true => rfl
      | false =>
        have := O.neg _ _ _ h h2
        rw [this] at h1; cases h1
  · rcases h2 with h2 | ⟨h2, h2'⟩
    · left
      cases h : O.lt x.1 z.1 with
      | true => rfl
      | false =>
        have := O.neg _ _ _ h1 h
        rw [this] at h2; cases h2
    · exact .inr ⟨O.neg _ _ _ h2 h1, by omega⟩
theorem lt2_asymm {x y : Tg α} (h1 : lt2 O x y) (h2 : lt2 O y x) : False := lt2_irr (lt2_trans h1 h2)
theorem lt2_total {x y : Tg α} (h : x.2 ≠ y.2) : lt2 O x y ∨ lt2 O y x := by
  cases h1 : O.lt x.1 y.1 with
  | true => exact .inl (.inl h1)
  | false =>
    cases h2 : O.lt y.1 x.1 with
    | true => exact .inr (.inl h2)
    | false =>
      rcases Nat.lt_or_gt_of_ne h with h3 | h3
      · exact .inl (.inr ⟨h2, h3⟩)
      · exact .inr (.inr ⟨h1, h3⟩)

/-- A sorted permutation is unique. -/
theorem srt_unique : ∀ {l1 l2 : List (Tg α)}, Srt O l1 → Srt O l2 → l1.Perm l2 → l1 = l2
  | [], l2, _, _, hp => by simpa using hp.symm
  | a :: r, [], _, _, hp => by simp at hp
  | a :: r, b :: s, h1, h2, hp => by
    have h1' := List.pairwise_cons.1 h1
    have h2' := List.pairwise_cons.1 h2
    have hab : a = b := by
      have ha : a ∈ b :: s := hp.mem_iff.1 List.mem_cons_self
      have hb : b ∈ a :: r := hp.mem_iff.2 List.mem_cons_self
      rcases List.mem_cons.1 ha with e | ha
      · exact e
      · rcases List.mem_cons.1 hb with e | hb
        · exact e.symm
        · exact (lt2_asymm (h1'.1 b hb) (h2'.1 a ha)).elim
    subst hab
    rw [srt_unique h1'.2 h2'.2 ((List.perm_cons a).1 hp)]

theorem ends_lt {X Y : List (Tg α)} (hX : Srt O X) (hY : Srt O Y) (h : ∀ z u, X.getLast? = some z → Y.head? = some u → lt2 O z u) : ∀ x ∈ X, ∀ y ∈ Y, lt2 O x y := by
  intro x hx y hy
  rcases List.eq_nil_or_concat X with e | ⟨X', z, e⟩
  · subst e; cases hx
  · rw [List.concat_eq_append] at e
    subst e
    cases Y with
    | nil => cases hy
    | cons u r =>
      have h0 := h z u (by simp) rfl
      have h1 : x = z ∨ lt2 O x z := by
        rcases List.mem_append.1 hx with hx | hx
        · exact .inr ((List.pairwise_append.1 hX).2.2 x hx z (by simp))
        · exact .inl (by simpa using hx)
      have h2 : lt2 O x u := by
        rcases h1 with rfl | h1
        · exact h0
        · exact lt2_trans h1 h0
      rcases List.mem_cons.1 hy with rfl | hy
      · exact h2
      · exact lt2_trans h2 ((List.pairwise_cons.1 hY).1 y hy)

/-- The two halves of a merge, each merged. -/
theorem mrg_combine {L1 L2 R1 R2 S1 S2 : List (Tg α)} (hL : Srt O (L1 ++ L2)) (hR : Srt O (R1 ++ R2)) (h12 : ∀ x ∈ L1, ∀ y ∈ R2, lt2 O x y) (h21 : ∀ y ∈ R1, ∀ x ∈ L2, lt2 O y x)
    (s1 : Srt O S1) (p1 : S1.Perm (L1 ++ R1)) (s2 : Srt O S2) (p2 : S2.Perm (L2 ++ R2)) : Srt O (S1 ++ S2) ∧ (S1 ++ S2).Perm (L1 ++ L2 ++ (R1 ++ R2)) := by
  refine ⟨List.pairwise_append.2 ⟨s1, s2, fun x hx y hy => ?_⟩, ?_⟩
  · rcases List.mem_append.1 (p1.mem_iff.1 hx) with hx | hx <;> rcases List.mem_append.1 (p2.mem_iff.1 hy) with hy | hy
    · exact (List.pairwise_append.1 hL).2.2 x hx y hy
    · exact h12 x hx y hy
    · exact h21 x hx y hy
    · exact (List.pairwise_append.1 hR).2.2 x hx y hy
  · refine (p1.append p2).trans ?_
    rw [List.append_assoc, List.append_assoc]
    refine List.Perm.append_left L1 ?_
    rw [← List.append_assoc, ← List.append_assoc]
    exact List.Perm.append_right R2 List.perm_append_comm

/-- Between a left element and a right one the comparison tells all. -/
theorem cross_lt {x y : Tg α} (h : x.2 < y.2) : (O.lt y.1 x.1 = true → lt2 O y x) ∧ (O.lt y.1 x.1 = false → lt2 O x y) :=
  ⟨fun h1 => .inl h1, fun h1 => .inr ⟨h1, h⟩⟩
end
end Go.Sei
