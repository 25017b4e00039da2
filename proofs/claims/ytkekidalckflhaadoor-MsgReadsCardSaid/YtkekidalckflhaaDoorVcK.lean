/- The engine, part K: a quick check of a tree of orders: an operation that stands apart from all that is left is taken first. -/
import Derived.Test.YtkekidalckflhaaDoorVcR
namespace Go.Vc
open Go.RowKit

def freeB (ind : Nat → Nat → Bool) (ops : Array Oper) (k : Nat) (listed : Array Bool) : Bool :=
  (List.range ops.size).all fun i => Nat.beq i k || listed.getD i false || ind k i || waits ops ops.size k i

def covF (rec_ : Array Bool → OT → Bool) (ind : Nat → Nat → Bool) (ops : Array Oper) (listed : Array Bool) (T : OT) : Bool :=
  !(Region.ready .any ops listed).isEmpty && (Region.ready .any ops listed).all fun i =>
      match OT.first ind i T with
      | some T' => rec_ (listed.setIfInBounds i true) T'
      | none => false

def covQ (ind : Nat → Nat → Bool) (ops : Array Oper) : Nat → Array Bool → OT → Bool
  | 0, listed, T => (Region.ready .any ops listed).isEmpty && (match T with | .nil => true | _ => false)
  | m + 1, listed, .op k T' => (match (Region.ready .any ops listed).contains k && freeB ind ops k listed with
    | true => covQ ind ops m (listed.setIfInBounds k true) T'
    | false => covF (covQ ind ops m) ind ops listed (.op k T'))
  | m + 1, listed, .nil => covF (covQ ind ops m) ind ops listed .nil
  | m + 1, listed, .alt x y => covF (covQ ind ops m) ind ops listed (.alt x y)

section
variable {ind : Nat → Nat → Bool} {ops : Array Oper}

def Closed (ops : Array Oper) (L : Array Bool) : Prop := ∀ j o, L.getD j false = true → ops[j]? = some o → ∀ e ∈ o.after, Region.binds .any e = true → L.getD e.on false = true

theorem getD_set {L : Array Bool} {k j : Nat} {d : Bool} (h : j ≠ k) : (L.setIfInBounds k true).getD j d = L.getD j d := by
  have : ¬ k = j := fun e => h e.symm
  simp [Array.getD_eq_getD_getElem?, Array.getElem?_setIfInBounds, this]
theorem getD_mono {L : Array Bool} {k j : Nat} (h : L.getD j false = true) : (L.setIfInBounds k true).getD j false = true := by
  by_cases e : j = k
  · subst e
    have hl : j < L.size := by
      by_cases hl : j < L.size
      · exact hl
      · simp [hl] at h
    simp [Array.getD_eq_getD_getElem?, hl]
  · rw [getD_set e]; exact h

theorem ready_mono {L : Array Bool} {k i : Nat} (h : i ∈ Region.ready .any ops L) (hne : i ≠ k) : i ∈ Region.ready .any ops (L.setIfInBounds k true) := by
  obtain ⟨h1, o, ho, h2⟩ := mem_ready.1 h
  exact mem_ready.2 ⟨by rw [getD_set hne]; exact h1, o, ho, fun e he hb => getD_mono (h2 e he hb)⟩
theorem ready_unlisted {L : Array Bool} {i : Nat} (h : i ∈ Region.ready .any ops L) : L.getD i false = false ∧ i < L.size := by
  obtain ⟨h1, _⟩ := mem_ready.1 h
  by_cases hl : i < L.size
  · simp [Array.getD_eq_getD_getElem?, hl] at h1 ⊢; exact h1
  · simp [hl] at h1
theorem closed_set {L : Array Bool} (hc : Closed ops L) {k : Nat} (hk : k ∈ Region.ready .any ops L) : Closed ops (L.setIfInBounds k true) := by
  obtain ⟨h1, o, ho, h2⟩ := mem_ready.1 hk
  intro j oj hj hoj e he hb
  by_cases e1 : j = k
  · subst e1
    rw [ho] at hoj; cases hoj
    exact getD_mono (h2 e he hb)
  · rw [getD_set e1] at hj
    exact getD_mono (hc j oj hj hoj e he hb)
theorem set_comm {L : Array Bool} {i k : Nat} : (L.setIfInBounds i true).setIfInBounds k true = (L.setIfInBounds k true).setIfInBounds i true := by
  apply Array.ext_getElem?
  intro j
  simp only [Array.getElem?_setIfInBounds, Array.size_setIfInBounds]
  split <;> split <;> simp_all

theorem freeB_mono {k i : Nat} {L : Array Bool} (h : freeB ind ops k L = true) : freeB ind ops k (L.setIfInBounds i true) = true := by
  simp only [freeB, List.all_eq_true, Bool.or_eq_true, List.mem_range] at h ⊢
  intro j hj
  rcases h j hj with ((h | h) | h) | h
  · exact .inl (.inl (.inl h))
  · exact .inl (.inl (.inr (getD_mono h)))
  · exact .inl (.inr h)
  · exact .inr h

theorem free_ind {k i : Nat} {L : Array Bool} (hc : Closed ops L) (hf : freeB ind ops k L = true) (hk : k ∈ Region.ready .any ops L) (hi : i ∈ Region.ready .any ops L) (hne : i ≠ k) : ind k i = true := by
  obtain ⟨h1, o, ho, h2⟩ := mem_ready.1 hi
  simp only [freeB, List.all_eq_true, Bool.or_eq_true, List.mem_range] at hf
  rcases hf i (Array.getElem?_eq_some_iff.1 ho).1 with ((h | h) | h) | h
  · exact absurd (Nat.eq_of_beq_eq_true h) hne
  · rw [(ready_unlisted hi).1] at h; cases h
  · exact h
  · have := waits_listed hc _ k i o ho h2 h
    rw [(ready_unlisted hk).1] at this; cases this

theorem covF_next {rec_ : Array Bool → OT → Bool} {L : Array Bool} {T : OT} (h : covF rec_ ind ops L T = true) : (Region.ready .any ops L).isEmpty = false ∧ ∀ i ∈ Region.ready .any ops L, ∃ T', OT.first ind i T = some T' ∧ rec_ (L.setIfInBounds i true) T' = true := by
  simp only [covF, Bool.and_eq_true, Bool.not_eq_true', List.all_eq_true] at h
  refine ⟨h.1, fun i hi => ?_⟩
  have := h.2 i hi
  split at this
  · rename_i T' hT; exact ⟨T', hT, this⟩
  · cases this

theorem covQ_next : ∀ (m : Nat) (L : Array Bool) (T : OT), Closed ops L → covQ ind ops (m + 1) L T = true →
    (Region.ready .any ops L).isEmpty = false ∧ ∀ i ∈ Region.ready .any ops L, ∃ T', OT.first ind i T = some T' ∧ covQ ind ops m (L.setIfInBounds i true) T' = true := by
  intro m
  induction m with
  | zero =>
    intro L T hc h
    cases T with
    | nil => exact covF_next h
    | alt x y => exact covF_next h
    | op k T' =>
      simp only [covQ] at h
      split at h
      · rename_i hf
        simp only [Bool.and_eq_true, List.contains_eq_mem, decide_eq_true_eq] at hf
        refine ⟨List.isEmpty_eq_false_iff.2 (List.ne_nil_of_mem hf.1), fun i hi => ?_⟩
        by_cases e : i = k
        · subst e; exact ⟨T', by simp [OT.first], h⟩
        · have := ready_mono hi e
          simp only [Bool.and_eq_true, List.isEmpty_iff] at h
          rw [h.1] at this; cases this
      · exact covF_next h
  | succ m ih =>
    intro L T hc h
    cases T with
    | nil => exact covF_next h
    | alt x y => exact covF_next h
    | op k T' =>
      unfold covQ at h
      split at h
      · rename_i hf
        simp only [Bool.and_eq_true, List.contains_eq_mem, decide_eq_true_eq] at hf
        refine ⟨List.isEmpty_eq_false_iff.2 (List.ne_nil_of_mem hf.1), fun i hi => ?_⟩
        by_cases e : i = k
        · subst e; exact ⟨T', by simp [OT.first], h⟩
        · obtain ⟨T'', h1, h2⟩ := (ih _ T' (closed_set hc hf.1) h).2 i (ready_mono hi e)
          refine ⟨.op k T'', ?_, ?_⟩
          · have : ¬ k = i := fun e2 => e e2.symm
            rw [OT.first, if_neg this, if_pos (free_ind hc hf.2 hf.1 hi e), h1]; rfl
          · have hk2 : k ∈ Region.ready .any ops (L.setIfInBounds i true) := ready_mono hf.1 (fun e2 => e e2.symm)
            have hb : ((Region.ready .any ops (L.setIfInBounds i true)).contains k && freeB ind ops k (L.setIfInBounds i true)) = true := by
              simp only [Bool.and_eq_true, List.contains_eq_mem, decide_eq_true_eq]
              exact ⟨hk2, freeB_mono hf.2⟩
            unfold covQ
            rw [hb]
            rw [set_comm]
            exact h2
      · exact covF_next h

theorem covQ_covT : ∀ (m : Nat) (L : Array Bool) (T : OT), Closed ops L → covQ ind ops m L T = true → covT ind ops m L T = true
  | 0, L, T, _, h => h
  | m + 1, L, T, hc, h => by
    obtain ⟨h1, h2⟩ := covQ_next m L T hc h
    simp only [covT, Bool.and_eq_true, Bool.not_eq_true', List.all_eq_true]
    refine ⟨h1, fun i hi => ?_⟩
    obtain ⟨T', h3, h4⟩ := h2 i hi
    rw [h3]
    exact covQ_covT m _ T' (closed_set hc hi) h4

theorem DrawE.treeQ {S : Sig} {ops : Array Oper} {E : Env} {w : World} {K : Env → World → Prop} (X : List Nat) (T : OT)
    (h : (covQ (indepB S.τ X ops) ops ops.size (Array.replicate ops.size false) T && ops.all (fun o => noSel o.op)) = true) (k : opsT S ops.toList X T E w.drew K) : DrawE S ops E w K :=
  .inr ⟨X, T, by
    simp only [Bool.and_eq_true] at h ⊢
    refine ⟨covQ_covT _ _ _ (fun j o hj => ?_) h.1, h.2⟩
    by_cases hl : j < ops.size <;> simp [hl] at hj, k⟩
end
end Go.Vc
