/- Plain: the canonical order of messages, and when two lists have the same one. -/
import Derived.Test.YtflljnnndmkfkaaDoorKeyO
import Derived.Test.YtflljnnndmkfkaaDoorNetP2
namespace Go.Proofs.YtflljnnndmkfkaaDoor
open Go.Vc Go.RowKit Go.Sei

abbrev mO (mode : UInt8) : MOrd Msg := keyO (mkey mode)
/-- r is a stable sort of l. -/
def IsSort (mode : UInt8) (l r : List Msg) : Prop := ∃ ys : List (Tg Msg), Srt (mO mode) ys ∧ ys.Perm l.zipIdx ∧ r = ys.map Prod.fst
/-- The messages of each queue are the same, and in the same order. -/
def EqM (mode : UInt8) (a b : List Msg) : Prop := ∀ q, a.filter (fun m => decide (mkey mode m = q)) = b.filter (fun m => decide (mkey mode m = q))

theorem zip_places : ∀ (l : List Msg) (n : Nat), (l.zipIdx n).Pairwise (fun x y => x.2 < y.2)
  | [], _ => by simp
  | a :: r, n => by
    rw [List.zipIdx_cons, List.pairwise_cons]
    refine ⟨fun x hx => ?_, zip_places r (n + 1)⟩
    obtain ⟨_, h2⟩ := List.mem_zipIdx hx
    dsimp only; omega
theorem zip_fst : ∀ (l : List Msg) (n : Nat), (l.zipIdx n).map Prod.fst = l
  | [], _ => rfl
  | a :: r, n => by rw [List.zipIdx_cons, List.map_cons, zip_fst r (n + 1)]
theorem IsSort.perm {mode : UInt8} {l r : List Msg} (h : IsSort mode l r) : r.Perm l := by
  obtain ⟨ys, _, h2, rfl⟩ := h
  have := h2.map Prod.fst
  rwa [zip_fst] at this
theorem IsSort.filt {mode : UInt8} {l r : List Msg} (h : IsSort mode l r) : EqM mode r l := by
  intro q
  obtain ⟨ys, h1, h2, rfl⟩ := h
  have h3 : (ys.filter (fun x => decide (mkey mode x.1 = q))) = l.zipIdx.filter (fun x => decide (mkey mode x.1 = q)) := by
    refine srt_unique (O := mO mode) (h1.filter _) ?_ (h2.filter _)
    refine List.Pairwise.imp_of_mem ?_ ((zip_places l 0).filter _)
    intro x y hx hy hxy
    have e1 := of_decide_eq_true (List.mem_filter.1 hx).2
    have e2 := of_decide_eq_true (List.mem_filter.1 hy).2
    refine .inr ⟨?_, hxy⟩
    simp only [keyO, e1, e2, cmpL_self]; rfl
  have h4 := congrArg (List.map Prod.fst) h3
  have e : ∀ (zs : List (Tg Msg)), (zs.filter (fun x => decide (mkey mode x.1 = q))).map Prod.fst = (zs.map Prod.fst).filter (fun m => decide (mkey mode m = q)) := fun zs => by
    rw [List.filter_map]; rfl
  rw [e, e, zip_fst] at h4
  exact h4
theorem IsSort.sorted {mode : UInt8} {l r : List Msg} (h : IsSort mode l r) : r.Pairwise (fun x y => (mO mode).lt y x = false) := by
  obtain ⟨ys, h1, h2, rfl⟩ := h
  rw [List.pairwise_map]
  refine h1.imp fun h => ?_
  rcases h with h | ⟨h, _⟩
  · exact (mO mode).asymm h
  · exact h
theorem sorted_uniq {mode : UInt8} : ∀ (r1 r2 : List Msg), r1.Pairwise (fun x y => (mO mode).lt y x = false) → r2.Pairwise (fun x y => (mO mode).lt y x = false) → EqM mode r1 r2 → r1 = r2
  | [], [], _, _, _ => rfl
  | [], y :: t, _, _, h => by have := h (mkey mode y); simp at this
  | x :: t, [], _, _, h => by have := h (mkey mode x); simp at this
  | x :: t, y :: u, h1, h2, h => by
    have p1 := List.pairwise_cons.1 h1
    have p2 := List.pairwise_cons.1 h2
    have hk : mkey mode x = mkey mode y := by
      have hx : x ∈ (y :: u).filter (fun m => decide (mkey mode m = mkey mode x)) := by rw [← h]; simp
      have hy : y ∈ (x :: t).filter (fun m => decide (mkey mode m = mkey mode y)) := by rw [h]; simp
      have hx := (List.mem_filter.1 hx).1
      have hy := (List.mem_filter.1 hy).1
      have a1 : (mO mode).lt x y = false := by
        rcases List.mem_cons.1 hx with e | hx
        · rw [e]; exact (mO mode).irr _
        · exact p2.1 x hx
      have a2 : (mO mode).lt y x = false := by
        rcases List.mem_cons.1 hy with e | hy
        · rw [e]; exact (mO mode).irr _
        · exact p1.1 y hy
      rcases cmpL_total (mkey mode x) (mkey mode y) with h | h | h
      · have a1 := of_decide_eq_false a1; exact absurd h a1
      · have a2 := of_decide_eq_false a2; exact absurd h a2
      · exact h
    have hh := h (mkey mode x)
    rw [List.filter_cons_of_pos (by simp), List.filter_cons_of_pos (by simp [hk])] at hh
    simp only [List.cons.injEq] at hh
    obtain ⟨e, _⟩ := hh
    subst e
    rw [sorted_uniq t u p1.2 p2.2 fun q => ?_]
    have := h q
    simp only [List.filter_cons] at this
    split at this
    · exact (List.cons.inj this).2
    · exact this
theorem isSort_eq {mode : UInt8} {a b r s : List Msg} (h1 : IsSort mode a r) (h2 : IsSort mode b s) : r = s ↔ EqM mode a b := by
  constructor
  · intro e q
    subst e
    rw [← h1.filt q, h2.filt q]
  · intro e
    exact sorted_uniq r s h1.sorted h2.sorted fun q => by rw [h1.filt q, e q, h2.filt q]
theorem EqM.perm {mode : UInt8} {a b : List Msg} (h : EqM mode a b) : a.Perm b := by
  rw [List.perm_iff_count]
  intro m
  have := congrArg (List.count m) (h (mkey mode m))
  rwa [List.count_filter (by simp), List.count_filter (by simp)] at this
theorem EqM.symm {mode : UInt8} {a b : List Msg} (h : EqM mode a b) : EqM mode b a := fun q => (h q).symm
theorem EqM.refl (mode : UInt8) (a : List Msg) : EqM mode a a := fun _ => rfl
theorem EqM.trans {mode : UInt8} {a b c : List Msg} (h : EqM mode a b) (k : EqM mode b c) : EqM mode a c := fun q => (h q).trans (k q)
theorem bag_inj {x y : Msg} (h : mkey 1 x = mkey 1 y) : x = y := codeOf_inj (by simpa [mkey] using h)
theorem perm_bag {a b : List Msg} (h : a.Perm b) : EqM 1 a b := by
  intro q
  have h1 : ∀ x ∈ a.filter (fun m => decide (mkey 1 m = q)), ∀ y ∈ a.filter (fun m => decide (mkey 1 m = q)), x = y := fun x hx y hy => by
    have hx := of_decide_eq_true (List.mem_filter.1 hx).2
    have hy := of_decide_eq_true (List.mem_filter.1 hy).2
    exact bag_inj (hx.trans hy.symm)
  have h2 := h.filter (fun m => decide (mkey 1 m = q))
  generalize a.filter (fun m => decide (mkey 1 m = q)) = u at h1 h2
  generalize b.filter (fun m => decide (mkey 1 m = q)) = v at h2
  match u, v with
  | [], v => exact h2.nil_eq
  | x :: u, v =>
    have e1 : x :: u = List.replicate (u.length + 1) x := by rw [List.eq_replicate_iff]; exact ⟨rfl, fun y hy => h1 y hy x (by simp)⟩
    rw [e1] at h2 ⊢
    first | exact List.replicate_perm.1 h2 | exact (List.replicate_perm.1 h2).symm

theorem qbs_eq {mode : UInt8} {x y : Msg} : qbs mode x = qbs mode y ↔ queue x mode = queue y mode := by
  constructor
  · intro h
    simp only [qbs, List.cons.injEq, and_true] at h
    exact Prod.ext h.1 (Prod.ext h.2.1 h.2.2)
  · intro h; simp only [qbs, h]
/-- What is taken away is the first of its queue. -/
theorem filt_erase {mode : UInt8} {l : List Msg} {i : Nat} (hi : i < l.length) (hd : dlv l mode i = true) (q : List UInt8) :
    (l.eraseIdx i).filter (fun m => decide (mkey mode m = q)) = if mkey mode l[i] = q then (l.filter (fun m => decide (mkey mode m = q))).tail else l.filter (fun m => decide (mkey mode m = q)) := by
  have e : l = l.take i ++ l[i] :: l.drop (i + 1) := by rw [List.getElem_cons_drop, List.take_append_drop]
  have e2 : l.filter (fun m => decide (mkey mode m = q)) = (l.take i).filter (fun m => decide (mkey mode m = q)) ++ (l[i] :: l.drop (i + 1)).filter (fun m => decide (mkey mode m = q)) := by
    rw [← List.filter_append, ← e]
  rw [List.eraseIdx_eq_take_drop_succ, List.filter_append, e2]
  by_cases h : mkey mode l[i] = q
  · rw [if_pos h, List.filter_cons_of_pos (by simp [h])]
    by_cases hm : mode = 1
    · subst hm
      have : (l.take i).filter (fun m => decide (mkey 1 m = q)) = List.replicate ((l.take i).filter (fun m => decide (mkey 1 m = q))).length l[i] := by
        rw [List.eq_replicate_iff]
        exact ⟨rfl, fun y hy => bag_inj ((of_decide_eq_true (List.mem_filter.1 hy).2).trans h.symm)⟩
      generalize ((l.take i).filter (fun m => decide (mkey 1 m = q))) = X at this ⊢
      rw [this]
      generalize X.length = n
      cases n with
      | zero => rfl
      | succ n =>
        rw [List.replicate_succ, List.cons_append, List.cons_append, List.tail_cons, ← List.cons_append, ← List.replicate_succ, List.replicate_succ']
        simp
    · have : (l.take i).filter (fun m => decide (mkey mode m = q)) = [] := by
        rw [List.filter_eq_nil_iff]
        intro m hmem hk
        have hk := of_decide_eq_true hk
        rw [dlv_eq l mode hi, decide_eq_false hm, Bool.false_or, decide_eq_true_iff] at hd
        unfold cnt at hd
        rw [List.count_eq_zero] at hd
        refine hd (List.mem_map.2 ⟨m, hmem, ?_⟩)
        have := hk.trans h.symm
        simp only [mkey, if_neg hm] at this
        exact qbs_eq.1 this
      rw [this]; rfl
  · rw [if_neg h, List.filter_cons_of_neg (by simp [h])]
theorem filt_head {mode : UInt8} {l : List Msg} {i : Nat} (hi : i < l.length) (hd : dlv l mode i = true) : (l.filter (fun m => decide (mkey mode m = mkey mode l[i]))).head? = some l[i] := by
  have e : l = l.take i ++ l[i] :: l.drop (i + 1) := by rw [List.getElem_cons_drop, List.take_append_drop]
  have e2 : l.filter (fun m => decide (mkey mode m = mkey mode l[i])) = (l.take i).filter (fun m => decide (mkey mode m = mkey mode l[i])) ++ (l[i] :: l.drop (i + 1)).filter (fun m => decide (mkey mode m = mkey mode l[i])) := by
    rw [← List.filter_append, ← e]
  rw [e2, List.filter_cons_of_pos (by simp)]
  by_cases hm : mode = 1
  · subst hm
    cases h : (l.take i).filter (fun m => decide (mkey 1 m = mkey 1 l[i])) with
    | nil => rfl
    | cons y r =>
      have hy : y ∈ (l.take i).filter (fun m => decide (mkey 1 m = mkey 1 l[i])) := by rw [h]; simp
      have := bag_inj (of_decide_eq_true (List.mem_filter.1 hy).2)
      rw [this]; rfl
  · have : (l.take i).filter (fun m => decide (mkey mode m = mkey mode l[i])) = [] := by
      rw [List.filter_eq_nil_iff]
      intro m hmem hk
      have hk := of_decide_eq_true hk
      rw [dlv_eq l mode hi, decide_eq_false hm, Bool.false_or, decide_eq_true_iff] at hd
      unfold cnt at hd
      rw [List.count_eq_zero] at hd
      refine hd (List.mem_map.2 ⟨m, hmem, ?_⟩)
      simp only [mkey, if_neg hm] at hk
      exact qbs_eq.1 hk
    rw [this]; rfl
/-- What may be delivered from one of two equivalent lists may be delivered from the other. -/
theorem eqM_next {mode : UInt8} {a b : List Msg} (h : EqM mode a b) {i : Nat} (hi : i < a.length) (hd : dlv a mode i = true) :
    ∃ k, ∃ hk : k < b.length, dlv b mode k = true ∧ a[i] = b[k] ∧ EqM mode (a.eraseIdx i) (b.eraseIdx k) := by
  have h1 := filt_head hi hd
  rw [h] at h1
  cases hb : b.filter (fun m => decide (mkey mode m = mkey mode a[i])) with
  | nil => rw [hb] at h1; cases h1
  | cons y t =>
    rw [hb] at h1
    have hy : y = a[i] := by simpa using h1
    obtain ⟨X, Y, e, hX, hp, _⟩ := List.filter_eq_cons_iff.1 hb
    subst e
    have hk : X.length < (X ++ y :: Y).length := by simp
    have hg : (X ++ y :: Y)[X.length] = y := by simp
    have hdk : dlv (X ++ y :: Y) mode X.length = true := by
      rw [dlv_eq _ mode hk]
      by_cases hm : mode = 1
      · simp [hm]
      · rw [decide_eq_false hm, Bool.false_or, decide_eq_true_iff]
        unfold cnt
        rw [List.count_eq_zero, List.take_left, hg]
        intro hmem
        obtain ⟨m, hm1, hm2⟩ := List.mem_map.1 hmem
        have := hX m hm1
        refine this (decide_eq_true ?_)
        rw [hy] at hm2
        simp only [mkey, if_neg hm]
        exact qbs_eq.2 hm2
    refine ⟨X.length, hk, hdk, by rw [hg, hy], fun q => ?_⟩
    rw [filt_erase hi hd q, filt_erase hk hdk q, hg, h q]
    rw [← hy]
/-- A delivery in order. -/
theorem deliver {mode : UInt8} {l : List Msg} {i : Nat} (hi : i < l.length) (hd : dlv l mode i = true) (out : List Msg) (q : List UInt8) :
    (out ++ [l[i]]).filter (fun m => decide (mkey mode m = q)) ++ (l.eraseIdx i).filter (fun m => decide (mkey mode m = q)) = out.filter (fun m => decide (mkey mode m = q)) ++ l.filter (fun m => decide (mkey mode m = q)) := by
  rw [filt_erase hi hd q, List.filter_append, List.append_assoc]
  congr 1
  by_cases h : mkey mode l[i] = q
  · rw [if_pos h, List.filter_cons_of_pos (by simp [h])]
    have := filt_head hi hd
    rw [h] at this
    cases hl : l.filter (fun m => decide (mkey mode m = q)) with
    | nil => rw [hl] at this; cases this
    | cons y t => rw [hl] at this; simp at this; simp [this]
  · rw [if_neg h, List.filter_cons_of_neg (by simp [h])]; rfl
end Go.Proofs.YtflljnnndmkfkaaDoor
