/- Law22: the reference: the canonical order of messages. Law22: the reference: Key, Same. Law22: PackTells: every system agrees with the reference. Law22: PackTells: the walk of the law. Law22: what the size of the arguments' readings says of the lengths. -/
import Derived.Test.YtedeohcdcaimhaaGreatDoorZ5
import Derived.Test.YtedeohcdcaimhaaGreatDoorZ3
import Derived.Test.YtedeohcdcaimhaaGreatDoorZ4
import Derived.SizedLaws
set_option linter.unusedSimpArgs false
namespace Go.Proofs.YtedeohcdcaimhaaGreatDoor
open Go.Vc Go.RowKit Go.Sei
set_option linter.unusedVariables false

/-! ### plain -/
/-- r is in order, and holds the same queues. -/
def sortW (mode : UInt8) (l r : List Msg) : Prop := (knownB mode = true → EqM mode r l ∧ r.Pairwise (fun x y => (mO mode).lt y x = false)) ∧ (knownB mode = false → r = l)
theorem sortW_uniq {mode : UInt8} {l r s : List Msg} (h1 : sortW mode l r) (h2 : sortW mode l s) : r = s := by
  cases hk : knownB mode with
  | true =>
    obtain ⟨a1, b1⟩ := h1.1 hk
    obtain ⟨a2, b2⟩ := h2.1 hk
    exact sorted_uniq r s b1 b2 fun q => (a1 q).trans (a2 q).symm
  | false => rw [h1.2 hk, h2.2 hk]
theorem swap_eqm {mode : UInt8} {a x : Msg} (h : (mO mode).lt x a = true) (P Q : List Msg) : EqM mode (P ++ x :: a :: Q) (P ++ a :: x :: Q) := by
  intro q
  have hne : mkey mode x ≠ mkey mode a := fun e => by
    have h1 : decide (cmpL (mkey mode x) (mkey mode a) < 0) = true := h
    rw [e, cmpL_self] at h1
    cases h1
  rw [List.filter_append, List.filter_append]
  congr 1
  by_cases hx : mkey mode x = q
  · have ha : ¬ mkey mode a = q := fun e => hne (hx.trans e.symm)
    rw [List.filter_cons_of_pos (by simp [hx]), List.filter_cons_of_neg (by simp [ha]), List.filter_cons_of_neg (by simp [ha]), List.filter_cons_of_pos (by simp [hx])]
  · rw [List.filter_cons_of_neg (by simp [hx])]
    by_cases ha : mkey mode a = q
    · rw [List.filter_cons_of_pos (by simp [ha]), List.filter_cons_of_pos (by simp [ha]), List.filter_cons_of_neg (by simp [hx])]
    · rw [List.filter_cons_of_neg (by simp [ha]), List.filter_cons_of_neg (by simp [ha]), List.filter_cons_of_neg (by simp [hx])]
theorem ins_sorted {O : MOrd Msg} {A B : List Msg} {x : Msg} (h : (A ++ B).Pairwise (fun u v => O.lt v u = false)) (hB : ∀ b ∈ B, O.lt x b = true) (hA : ∀ a, A.getLast? = some a → O.lt x a = false) : (A ++ x :: B).Pairwise (fun u v => O.lt v u = false) := by
  have h' := List.pairwise_append.1 h
  refine List.pairwise_append.2 ⟨h'.1, List.pairwise_cons.2 ⟨fun b hb => O.asymm (hB b hb), h'.2.1⟩, fun u hu v hv => ?_⟩
  rcases List.mem_cons.1 hv with rfl | hv
  · rcases List.eq_nil_or_concat A with e | ⟨A', a, e⟩
    · subst e; cases hu
    · rw [List.concat_eq_append] at e
      subst e
      have h1 := hA a (by simp)
      rcases List.mem_append.1 hu with hu | hu
      · exact O.neg _ _ _ h1 ((List.pairwise_append.1 h'.1).2.2 u hu a (by simp))
      · have : u = a := by simpa using hu
        rw [this]; exact h1
  · exact h'.2.2 u hu v hv
theorem qlt {mode : UInt8} {a b : Msg} (hm : mode ≠ 1) : (mO mode).lt a b = decide (a.from_.toNat < b.from_.toNat ∨ (a.from_ = b.from_ ∧ (a.to.toNat < b.to.toNat ∨ (a.to = b.to ∧ (queue a mode).2.2.toNat < (queue b mode).2.2.toNat)))) := by
  show decide (cmpL (mkey mode a) (mkey mode b) < 0) = _
  unfold mkey
  rw [if_neg hm, if_neg hm, decide_eq_decide]
  unfold qbs
  rw [cmpL_lt_cons, cmpL_lt_cons, cmpL_lt_cons]
  have : ¬ cmpL [] [] < 0 := by decide
  simp only [this, and_false, or_false]
  rfl

/-! ### known, ahead -/
theorem knownR_c (m : UInt8) (w : World) : Calls Tryz.prog 89 #[u8 m] w fun e w' => e = .returned (.bool (knownB m)) ∧ w = w' := by
  refine calls_of_E (S := sg 9) (sgOk _) (args := [u8 m]) Tryz.func89 rfl rfl (Nat.le_of_ble_eq_true rfl) rfl ?_
  refine And.intro (fun h => ?_) (fun h => ?_)
  · exact And.intro (rb (by unfold knownB; rw [h]; rfl)) rfl
  · exact And.intro (rb (by unfold knownB; rw [h]; rfl)) rfl
theorem neU8 {x y : UInt8} (h : (!decide ((x.toNat : Int) = (y.toNat : Int))) = true) : x ≠ y := fun e => by
  rw [e] at h; simp at h
theorem eqU8 {x y : UInt8} (h : (!decide ((x.toNat : Int) = (y.toNat : Int))) = false) : x = y := by
  have : (x.toNat : Int) = (y.toNat : Int) := by simpa using h
  exact u8_eq.1 this
theorem aheadR_c (a b : Msg) (mode : UInt8) (w : World) (hk : knownB mode = true) : Calls Tryz.prog 90 #[a.val, b.val, u8 mode] w fun e w' => e = .returned (.bool ((mO mode).lt a b)) ∧ Below w.heap.size w w' := by
  refine calls_of_E (S := sg 43) (sgOk _) (args := [a.val, b.val, u8 mode]) Tryz.func90 rfl rfl (Nat.le_of_ble_eq_true rfl) rfl ?_
  have hb0 : Below w.heap.size w ((w.alloc (.cells a.val.cells 107)).alloc (.cells b.val.cells 107)) := ((Below.refl _ _).alloc (Nat.le_refl _) _).alloc (by simp) _
  have fa := hold (.cells b.val.cells 107) (hnew w (.cells a.val.cells 107))
  have fb := hnew (w.alloc (.cells a.val.cells 107)) (.cells b.val.cells 107)
  refine And.intro (fun h => ?_) (fun h => ?_)
  · have h : (mode.toNat : Int) = ((1 : UInt8).toNat : Int) := of_decide_eq_true h
    have h := u8_eq.1 h
    subst h
    refine ⟨a.enc, rfl, cells_block fa, hlt fa, ?_⟩
    refine ⟨b.enc, rfl, cells_block fb, hlt fb, ?_⟩
    refine Calls.mono (LessR_c a b _) ?_
    rintro e V ⟨rfl, hb⟩
    exact ⟨rb rfl, hb0.trans (hb.mono hb0.size)⟩
  have hm : mode ≠ 1 := fun e => by subst e; cases h
  clear h
  rw [qlt hm]
  refine ⟨_, cells_at (cells_block fa) (i := 1) rfl, ?_⟩
  refine ⟨_, cells_at (cells_block fb) (i := 1) rfl, ?_⟩
  refine And.intro (fun h => ?_) (fun h => ?_)
  · have h := neU8 h
    refine ⟨_, cells_at (cells_block fa) (i := 1) rfl, ?_⟩
    refine ⟨_, cells_at (cells_block fb) (i := 1) rfl, ?_⟩
    refine ⟨rb ?_, hb0⟩
    rw [decide_eq_decide]
    exact ⟨fun h1 => .inl (by omega), fun h1 => h1.elim (fun h1 => by omega) fun h1 => absurd h1.1 h⟩
  have h1 := eqU8 h
  clear h
  refine ⟨_, cells_at (cells_block fa) (i := 2) rfl, ?_⟩
  refine ⟨_, cells_at (cells_block fb) (i := 2) rfl, ?_⟩
  refine And.intro (fun h => ?_) (fun h => ?_)
  · have h := neU8 h
    refine ⟨_, cells_at (cells_block fa) (i := 2) rfl, ?_⟩
    refine ⟨_, cells_at (cells_block fb) (i := 2) rfl, ?_⟩
    refine ⟨rb ?_, hb0⟩
    rw [decide_eq_decide]
    exact ⟨fun h2 => .inr ⟨h1, .inl (by omega)⟩, fun h2 => h2.elim (fun h2 => by rw [h1] at h2; omega) fun h2 => h2.2.elim (fun h3 => by omega) fun h3 => absurd h3.1 h⟩
  have h2 := eqU8 h
  clear h
  refine DrawE.ord [] [0, 1, 2, 3, 4, 6, 7, 5, 8, 9, 10, 11] (by kernel_rfl) ?_
  refine And.intro (fun h => ?_) (fun h => ?_)
  · have h : (mode.toNat : Int) = ((3 : UInt8).toNat : Int) := of_decide_eq_true h
    have h := u8_eq.1 h
    subst h
    refine ⟨_, cells_at (cells_block (hdr fa)) (i := 0) rfl, ?_⟩
    refine ⟨_, cells_at (cells_block (hdr fb)) (i := 0) rfl, ?_⟩
    refine Calls.mono (ClassR_c a.kind _) ?_
    rintro e _ ⟨rfl, rfl⟩
    refine ⟨Below.refl _ _, ?_⟩
    refine Calls.mono (ClassR_c b.kind _) ?_
    rintro e _ ⟨rfl, rfl⟩
    refine ⟨Below.refl _ _, ?_⟩
    refine ⟨rb ?_, hb0.drew⟩
    rw [decide_eq_decide]
    have ea : (queue a 3).2.2 = classOf a.kind := rfl
    have eb : (queue b 3).2.2 = classOf b.kind := rfl
    rw [ea, eb, h1, h2]
    exact ⟨fun h3 => .inr ⟨rfl, .inr ⟨rfl, by omega⟩⟩, fun h3 => h3.elim (fun h4 => by omega) fun h4 => h4.2.elim (fun h5 => by omega) fun h5 => by have := h5.2; omega⟩
  · have h3 : ¬ mode = 3 := fun e => by subst e; cases h
    refine ⟨rb ?_, hb0.drew⟩
    rw [eq_comm, decide_eq_false_iff_not]
    have ea : ∀ m, (queue m mode).2.2 = 0 := fun m => by unfold queue; rw [if_neg h3]
    rw [ea, ea, h1, h2]
    rintro (h4 | ⟨_, h4 | ⟨_, h4⟩⟩)
    · exact absurd h4 (Nat.lt_irrefl _)
    · exact absurd h4 (Nat.lt_irrefl _)
    · exact absurd h4 (Nat.lt_irrefl _)

/-! ### Sort -/
theorem own_rowS {α : Type} {E : Enc α} {T B cap : Nat} {w : World} {p : Option Addr} {l : List α} (h : OwnS E T B w p cap l) (hne : l ≠ []) : ∃ g sp, p = some ⟨g, 0, none⟩ ∧ B ≤ g ∧ RowS E T w g sp l ∧ l.length ≤ cap ∧ cap ≤ maxLen ∧ (l.flatMap E.enc ++ sp).length = cap * E.sz := by
  rcases h.inv with ⟨_, _, h3⟩ | ⟨g, cur, e1, hBg, hgr, hlc, hcm, hcs, htk⟩
  · exact absurd h3 hne
  · refine ⟨g, cur.toList.drop (l.length * E.sz), e1, hBg, ?_, hlc, hcm, ?_⟩
    · show w.heap[g]? = _
      rw [hgr, ← htk]
      rw [List.take_append_drop]
    · rw [← htk, List.take_append_drop]; simpa using hcs
theorem rowS_own {α : Type} {E : Enc α} {T B cap g : Nat} {w : World} {sp : List Value} {l : List α} (h : RowS E T w g sp l) (hB : B ≤ g) (hc : l.length ≤ cap) (hm : cap ≤ maxLen) (hs : (l.flatMap E.enc ++ sp).length = cap * E.sz) : OwnS E T B w (some ⟨g, 0, none⟩) cap l := by
  refine ⟨flat_len _, .inr ⟨g, cap, _, rfl, hB, h, hc, hm, by simpa using hs, ?_⟩⟩
  rw [List.take_append_of_le_length (by rw [flat_len]; exact Nat.le_refl _), List.take_of_length_le (by rw [flat_len]; exact Nat.le_refl _)]
theorem empty_own {α : Type} {E : Enc α} {T B g : Nat} {w : World} (h : w.heap[g]? = some (.cells #[] T (0, 0))) (hB : B ≤ g) : OwnS E T B w (some ⟨g, 0, none⟩) 0 [] :=
  ⟨by simp, .inr ⟨g, 0, #[], rfl, hB, h, Nat.le_refl _, by unfold maxLen; decide, by simp, by simp⟩⟩

theorem SortR_c (p : Option Addr) (cap : Nat) (l : List Msg) (mode : UInt8) (w : World) (hl : SlR Msg.E w p l) (hn : l.length ≤ 1000) :
    Calls Tryz.prog 50 #[.slice p l.length cap, u8 mode] w fun e w' => ∃ r q cq, e = .returned (.slice q r.length cq) ∧ sortW mode l r ∧ r.length = l.length ∧ OwnS Msg.E 107 w.heap.size w' q cq r ∧ Below w.heap.size w w' := by
  refine calls_of_M (S := sg 56) (sgOk _) (args := [.slice p l.length cap, u8 mode]) (.s .p (.s .p (.c .p .p))) Tryz.func50 rfl rfl (Nat.le_of_ble_eq_true rfl) rfl ?_
  refine ⟨⟨by decide, by decide, rfl⟩, [], rfl, ?_⟩
  have hb1 : Below w.heap.size w (w.alloc (.cells #[] 107)) := (Below.refl _ _).alloc (Nat.le_refl _) _
  refine app_any0 (E := Msg.E) (B := w.heap.size) (news := l) (l := []) Tryz.underlying56 (ttOk.get 107 _ rfl) rfl rfl rfl (empty_own (hnew w _) (Nat.le_refl _)) rfl (hl.below hb1) hb1.size (by simp; omega) (by dsimp only [List.length_nil]; omega) ?_
  intro q cq W1 ho1 _ hb2
  have hw1 := hb1.trans hb2
  rw [List.nil_append] at ho1 ⊢
  clear hb1 hb2
  refine ⟨List Msg × Nat, fun s => ⟨[(5, .slice q l.length cq)], []⟩, fun s X => s.1.length = l.length ∧ OwnS Msg.E 107 w.heap.size X q cq s.1 ∧ sortW mode l s.1 ∧ Below w.heap.size w X, ?_, ?_⟩
  · refine ⟨List Msg × Nat, fun s => ⟨[(1, u8 mode), (5, .slice q l.length cq), (6, .int .i64 (s.2 : Nat))], []⟩, fun s X => s.1.length = l.length ∧ 1 ≤ s.2 ∧ s.2 ≤ l.length + 1 ∧ OwnS Msg.E 107 w.heap.size X q cq s.1 ∧ (knownB mode = true → EqM mode s.1 l ∧ (s.1.take s.2).Pairwise (fun x y => (mO mode).lt y x = false)) ∧ (knownB mode = false → s.1 = l) ∧ Below w.heap.size w X,
      fun s => l.length + 1 - s.2, (l, 1), ⟨.cons rfl (.cons rfl (.cons rfl .nil)), rfl⟩, ⟨rfl, Nat.le_refl _, Nat.le_add_left _ _, ho1, fun _ => ⟨EqM.refl _ _, ?_⟩, fun _ => rfl, hw1⟩, ?_⟩
    · cases l with
      | nil => exact List.Pairwise.nil
      | cons a r => exact List.pairwise_cons.2 ⟨fun _ h => (by cases h), List.Pairwise.nil⟩
    clear ho1 hw1
    rintro ⟨out, i⟩ X ⟨hol, hi1, hi2, ho, hkn, hun, hX⟩
    dsimp only at hol hi1 hi2 ho hkn hun hX ⊢
    refine And.intro (fun h => ?_) (fun h => ?_)
    · have h : (i : Int) < l.length := of_decide_eq_true h
      refine Calls.mono (knownR_c mode X) ?_
      rintro e _ ⟨rfl, rfl⟩
      refine And.intro (fun hk => ?_) (fun hk => ?_)
      · obtain ⟨heq, hso⟩ := hkn hk
        have hil : i < out.length := by omega
        obtain ⟨g, sp, rfl, hgB, hrow, hlc, hcm, hcs⟩ := own_rowS ho (fun e => by subst e; simp at hil)
        refine ⟨List Msg × Msg × List Msg × List Msg, fun s => ⟨[(1, u8 mode), (5, .slice (some ⟨g, 0, none⟩) l.length cq), (6, .int .i64 (i : Nat)), (7, .int .i64 (s.1.length : Nat))], []⟩,
          fun s X => (s.1 ++ s.2.1 :: (s.2.2.1 ++ s.2.2.2)).length = l.length ∧ s.1.length + s.2.2.1.length = i ∧ RowS Msg.E 107 X g sp (s.1 ++ s.2.1 :: (s.2.2.1 ++ s.2.2.2)) ∧ EqM mode (s.1 ++ s.2.1 :: (s.2.2.1 ++ s.2.2.2)) l ∧
            (s.1 ++ s.2.2.1).Pairwise (fun x y => (mO mode).lt y x = false) ∧ (∀ b ∈ s.2.2.1, (mO mode).lt s.2.1 b = true) ∧ Below w.heap.size w X,
          fun s => s.1.length, (out.take i, out[i], [], out.drop (i + 1)), ⟨.cons rfl (.cons rfl (.cons rfl (.cons (by rw [List.length_take, Nat.min_eq_left (by omega)]; rfl) .nil))), rfl⟩, ?_, ?_⟩
        · have e : out.take i ++ out[i] :: ([] ++ out.drop (i + 1)) = out := by rw [List.nil_append, List.getElem_cons_drop, List.take_append_drop]
          dsimp only
          rw [e]
          exact ⟨hol, by rw [List.length_take, Nat.min_eq_left (by omega)]; rfl, hrow, heq, by rw [List.append_nil]; exact hso, fun _ h => (by cases h), hX⟩
        clear hrow hX hso heq hkn hun ho
        rintro ⟨A, x, B, C⟩ Y ⟨hlen, hAB, hrow, heq, hso, hlt', hY⟩
        dsimp only at hlen hAB hrow heq hso hlt' hY ⊢
        have done : ∀ Y2, RowS Msg.E 107 Y2 g sp (A ++ x :: (B ++ C)) → Below w.heap.size w Y2 → (∀ a, A.getLast? = some a → (mO mode).lt x a = false) → ∃ s' : List Msg × Nat, s'.2 = i + 1 ∧
            (s'.1.length = l.length ∧ 1 ≤ s'.2 ∧ s'.2 ≤ l.length + 1 ∧ OwnS Msg.E 107 w.heap.size Y2 (some ⟨g, 0, none⟩) cq s'.1 ∧ (knownB mode = true → EqM mode s'.1 l ∧ (s'.1.take s'.2).Pairwise (fun x y => (mO mode).lt y x = false)) ∧ (knownB mode = false → s'.1 = l) ∧ Below w.heap.size w Y2) := by
          intro Y2 hr2 hb2 hla
          refine ⟨(A ++ x :: (B ++ C), i + 1), rfl, hlen, by show 1 ≤ i + 1; omega, by show i + 1 ≤ _; omega, rowS_own hr2 hgB (by rw [hlen, ← hol]; exact hlc) hcm ?_, fun _ => ⟨heq, ?_⟩, (fun h => by rw [hk] at h; cases h), hb2⟩
          · rw [List.length_append, flat_len] at hcs ⊢
            rw [hlen, ← hol]; exact hcs
          · have e : (A ++ x :: (B ++ C)).take (i + 1) = A ++ x :: B := by
              have : A ++ x :: (B ++ C) = (A ++ x :: B) ++ C := by simp
              rw [this, List.take_append_of_le_length (by simp; omega), List.take_of_length_le (by simp; omega)]
            show ((A ++ x :: (B ++ C)).take (i + 1)).Pairwise _
            rw [e]
            exact ins_sorted hso hlt' hla
        have hAl : A.length ≤ 1000 := by simp only [List.length_append, List.length_cons] at hlen; omega
        refine DrawE.ord [] [0, 1, 2, 3, 4, 5, 6, 7, 8, 9, 10, 11, 12, 13, 14] (by kernel_rfl) ?_
        have hr0 : RowS Msg.E 107 Y.drew g sp (A ++ x :: (B ++ C)) := hrow
        refine And.intro (fun h0 => ?_) (fun h0 => ?_)
        · have h0 : (0 : Int) < (A.length : Nat) := of_decide_eq_true h0
          rcases List.eq_nil_or_concat A with e | ⟨A', a, e⟩
          · subst e; simp at h0
          rw [List.concat_eq_append] at e
          subst e
          have hlA : (A' ++ [a]).length = A'.length + 1 := by simp
          rw [hlA] at hAl hAB h0
          have hL : A'.length + 1 < l.length := by simp only [List.length_append, List.length_cons, List.length_nil] at hlen; omega
          have hr1 : RowS Msg.E 107 Y.drew g sp (A' ++ a :: (x :: (B ++ C))) := by
            have : A' ++ a :: (x :: (B ++ C)) = (A' ++ [a]) ++ x :: (B ++ C) := by simp
            rw [this]; exact hr0
          simp only [hlA]
          refine ⟨A'.length + 1, rfl, hL, ?_⟩
          refine ⟨x.enc, rfl, hr0.mid hlA, hr0.lt, ?_⟩
          refine ⟨(A'.length : Nat), (wrap_i64 (by omega)).trans (by omega), ?_⟩
          refine ⟨A'.length, rfl, by omega, ?_⟩
          refine ⟨a.enc, rfl, hr1.mid rfl, hr1.lt, ?_⟩
          refine Calls.mono (aheadR_c x a mode Y.drew hk) ?_
          rintro e Z ⟨rfl, hbZ⟩
          refine ⟨hbZ, ?_⟩
          have hZ : Below w.heap.size w Z := hY.drew.trans (hbZ.mono hY.drew.size)
          have hr2 := hr1.below hbZ
          refine And.intro (fun hc => ?_) (fun hc => ?_)
          · have hr2d : RowS Msg.E 107 Z.drew g sp (A' ++ a :: (x :: (B ++ C))) := hr2
            have hr3 : RowS Msg.E 107 Z.drew g sp ((A' ++ [a]) ++ x :: (B ++ C)) := by
              have : (A' ++ [a]) ++ x :: (B ++ C) = A' ++ a :: (x :: (B ++ C)) := by simp
              rw [this]; exact hr2
            refine DrawE.ord [15, 17] [0, 1, 2, 3, 4, 5, 6, 7, 8, 9, 10, 11, 12, 13, 14, 15, 16, 17] (by kernel_rfl) ?_
            refine ⟨(A'.length : Nat), (wrap_i64 (by omega)).trans (by omega), ?_⟩
            refine ⟨(A'.length : Nat), (wrap_i64 (by omega)).trans (by omega), ?_⟩
            refine ⟨A'.length, rfl, by omega, ?_⟩
            refine ⟨a.enc, rfl, hr2d.mid rfl, hr2d.lt, ?_⟩
            refine ⟨A'.length + 1, rfl, hL, ?_⟩
            refine ⟨x.enc, rfl, hr3.mid hlA, hr3.lt, ?_⟩
            refine ⟨A'.length + 1, rfl, hL, ?_⟩
            refine store_mid (ttOk.get 107 _ rfl) rfl hr3 hlA a fun V1 s1 g1 z1 => ?_
            refine ⟨A'.length, rfl, by omega, ?_⟩
            have s2 : RowS Msg.E 107 V1 g sp (A' ++ a :: (a :: (B ++ C))) := by
              have : A' ++ a :: (a :: (B ++ C)) = (A' ++ [a]) ++ a :: (B ++ C) := by simp
              rw [this]; exact s1
            refine store_mid (ttOk.get 107 _ rfl) rfl s2 rfl x fun V2 s3 g2 z2 => ?_
            refine ⟨(A'.length : Nat), (wrap_i64 (by omega)).trans (by omega), ?_⟩
            refine ⟨(A', x, a :: B, C), ⟨.cons rfl (.cons rfl (.cons rfl (.cons rfl .nil))), rfl⟩, ⟨?_, ?_, s3, ?_, ?_, ?_, ?_⟩, Nat.lt_succ_self _⟩
            · simp only [List.length_append, List.length_cons, List.length_nil] at hlen ⊢; omega
            · simp only [List.length_cons]; omega
            · have e : (A' ++ [a]) ++ x :: (B ++ C) = A' ++ a :: x :: (B ++ C) := by simp
              rw [e] at heq
              exact (swap_eqm hc A' (B ++ C)).trans heq
            · have e : (A' ++ [a]) ++ B = A' ++ a :: B := by simp
              rw [e] at hso; exact hso
            · intro b hb
              rcases List.mem_cons.1 hb with rfl | hb
              · exact hc
              · exact hlt' b hb
            · exact (hZ.drew.grown g1 hZ.drew.size (fun k e => by simp only [Option.some.injEq] at e; omega)).grown g2 (by have := hZ.size; have h2 : Z.drew.heap.size = Z.heap.size := rfl; omega) (fun k e => by simp only [Option.some.injEq] at e; omega)
          · obtain ⟨s', e1, hs'⟩ := done Z (by have : (A' ++ [a]) ++ x :: (B ++ C) = A' ++ a :: (x :: (B ++ C)) := by simp
                                               rw [this]; exact hr2) hZ (fun b hb => by simp at hb; rw [← hb]; exact hc)
            refine ⟨(i + 1 : Nat), (wrap_i64 (by omega)).trans (by omega), ?_⟩
            exact ⟨s', ⟨.cons rfl (.cons rfl (.cons (by rw [e1]; rfl) .nil)), rfl⟩, hs', by rw [e1]; show l.length + 1 - (i + 1) < l.length + 1 - i; omega⟩
        · have h0 : ¬ (0 : Int) < (A.length : Nat) := of_decide_eq_false h0
          have e0 : A = [] := List.eq_nil_of_length_eq_zero (by omega)
          subst e0
          obtain ⟨s', e1, hs'⟩ := done Y.drew hr0 hY.drew (fun b hb => by cases hb)
          refine And.intro (fun h => by cases h) (fun _ => ?_)
          refine ⟨(i + 1 : Nat), (wrap_i64 (by omega)).trans (by omega), ?_⟩
          exact ⟨s', ⟨.cons rfl (.cons rfl (.cons (by rw [e1]; rfl) .nil)), rfl⟩, hs', by rw [e1]; show l.length + 1 - (i + 1) < l.length + 1 - i; omega⟩
      · have hk : knownB mode = false := hk
        exact ⟨(out, i), ⟨.cons rfl .nil, rfl⟩, hol, ho, ⟨fun h => (by rw [hk] at h; cases h), hun⟩, hX⟩
    · have h : ¬ (i : Int) < l.length := of_decide_eq_false h
      refine And.intro (fun h => by cases h) (fun _ => ?_)
      refine ⟨(out, i), ⟨.cons rfl .nil, rfl⟩, hol, ho, ⟨fun hk => ⟨(hkn hk).1, ?_⟩, hun⟩, hX⟩
      have := (hkn hk).2
      rwa [List.take_of_length_le (by omega)] at this
  rintro ⟨out, i⟩ X ⟨hol, ho, hso, hX⟩
  dsimp only at hol ho hso hX ⊢
  exact ⟨out, q, cq, by rw [hol]; rfl, hso, hol, ho, hX⟩
end Go.Proofs.YtedeohcdcaimhaaGreatDoor
namespace Go.Proofs.YtedeohcdcaimhaaGreatDoor
open Go.Vc Go.RowKit Go.Sei
set_option linter.unusedVariables false

theorem sortR_W {mode : UInt8} {l r : List Msg} (h : sortR mode l r) : sortW mode l r := ⟨fun hk => ⟨(h.1 hk).filt, (h.1 hk).sorted⟩, h.2⟩
/-- The key of a system, said of any order that is canonical. -/
def KeyW (mode : UInt8) (g : Geo) (s : Sy) (k : List UInt8) : Prop := (fitsB g s = true → ∃ r, sortW mode s.net r ∧ k = encSy { s with net := r }) ∧ (fitsB g s = false → k = [])
theorem KeyOf.w {mode : UInt8} {g : Geo} {s : Sy} {k : List UInt8} (h : KeyOf mode g s k) : KeyW mode g s k := ⟨fun hf => by
  obtain ⟨r, h1, h2⟩ := h.1 hf
  exact ⟨r, sortR_W h1, h2⟩, h.2⟩
theorem KeyW.uniq {mode : UInt8} {g : Geo} {s : Sy} {k k' : List UInt8} (h : KeyW mode g s k) (h' : KeyW mode g s k') : k = k' := by
  cases hf : fitsB g s with
  | true =>
    obtain ⟨r, h1, rfl⟩ := h.1 hf
    obtain ⟨r', h1', rfl⟩ := h'.1 hf
    rw [sortW_uniq h1 h1']
  | false => rw [h.2 hf, h'.2 hf]

theorem KeyR_s {wv vs : List Value} {g : Geo} {mode : UInt8} {s : Sy} {w : World} (hW : WorV wv g.enc mode) (hS : SysV w.heap.size w vs s) :
    Calls Tryz.prog 19 #[.agg wv.toArray, .agg vs.toArray] w fun e w' => ∃ k, e = .returned (strV k) ∧ KeyW mode g s k ∧ Below w.heap.size w w' := by
  refine calls_of_E (S := sg 20) (sgOk _) (args := [.agg wv.toArray, .agg vs.toArray]) Tryz.func19 rfl rfl (Nat.le_of_ble_eq_true rfl) rfl ?_
  obtain ⟨W0, hW0⟩ : ∃ W0, (w.alloc (.cells wv.toArray 44)).alloc (.cells vs.toArray 58) = W0 := ⟨_, rfl⟩
  have hb0 : Below w.heap.size w W0 := by rw [← hW0]; exact ((Below.refl _ _).alloc (Nat.le_refl _) _).alloc (by simp) _
  have f0 : W0.heap[w.heap.size]? = some (.cells wv.toArray 44 (0, 0)) := by rw [← hW0]; exact hold _ (hnew w _)
  have f1 : W0.heap[w.heap.size + 1]? = some (.cells vs.toArray 58 (0, 0)) := by
    have := hnew (w.alloc (.cells wv.toArray 44)) (.cells vs.toArray 58)
    rw [World.size_alloc] at this
    rw [← hW0]; exact this
  have es : (w.alloc (.cells wv.toArray 44)).heap.size = w.heap.size + 1 := World.size_alloc _ _
  have hS0 := (hS.below hb0).mono hb0.size
  have hvl := hS.len
  rw [← es] at f1
  subst hW0
  refine ⟨wv, hW.len, cells_block f0, hlt f0, ?_⟩
  refine ⟨vs, hvl, cells_block f1, hlt f1, ?_⟩
  refine Calls.mono (FitsR_c hW hS0) ?_
  rintro e V ⟨rfl, hbV⟩
  have hwV := hb0.trans (hbV.mono hb0.size)
  refine And.intro (fun h => ?_) (fun h => ?_)
  · have h : fitsB g s = false := by
      have : (!fitsB g s) = true := h
      simpa using this
    exact ⟨[], rfl, ⟨fun h' => (by rw [h] at h'; cases h'), fun _ => rfl⟩, hwV⟩
  · have h : fitsB g s = true := by
      have : (!fitsB g s) = false := h
      simpa using this
    obtain ⟨h1, h2, _⟩ := fits_ok hS.okm h
    have f0V := block_below hbV f0
    have f1V := block_below hbV f1
    obtain ⟨⟨p1, c1, p2, c2, p3, c3, hvs, hco, hca, hne, hnil⟩, h6⟩ := hS.below hwV
    have hH : (s.homes.flatMap homE.enc).length = 66 := by rw [flat_len, h6]; rfl
    have hcl := cells_block f1V
    refine ⟨_, cells_at hcl (i := 68) (by rw [hvs]; exact sys_net hH), ?_⟩
    refine ⟨_, cells_at (cells_block f0V) (i := 15) hW.mode, ?_⟩
    refine Calls.mono (SortR_c p3 c3 s.net mode V (hne.slr hwV.size) (by have := h1.net; omega)) ?_
    rintro e X ⟨r, q, cq, rfl, s1, s2, ho, hbX⟩
    have hwX := hwV.trans (hbX.mono hwV.size)
    have f1X := block_below hbX f1V
    refine store_cell (ttOk.get 56 _ rfl) rfl f1X (o := 68) (by show 68 < vs.toArray.size; simp [hvl]) (v := .slice q r.length cq) rfl rfl ?_
    intro Y fY gY sY
    have hwY : Below w.heap.size w Y := hwX.grown gY hwX.size (fun k e => by
      simp only [Option.some.injEq] at e
      rw [← e, es]; omega)
    have hvs' : vs.toArray.toList.take 68 ++ [Value.slice q r.length cq] ++ vs.toArray.toList.drop (68 + 1) = .slice p1 s.cores.length c1 :: .slice p2 s.caches.length c2 :: (s.homes.flatMap homE.enc ++ [.slice q r.length cq]) := by
      have : vs.toArray.toList = vs := rfl
      rw [this, hvs]; exact sys_set hH
    rw [hvs'] at fY
    have hoY : OwnS Msg.E 107 V.heap.size Y q cq r := ho.kept gY fun g' hg' e => by
      simp only [Option.some.injEq] at e
      rcases ho.inv with ⟨h1, _⟩ | ⟨g2, _, h1, h2, _⟩
      · rw [h1] at hg'; cases hg'
      · rw [h1] at hg'
        simp only [Option.some.injEq, Addr.mk.injEq, and_true] at hg'
        have := hlt f1V
        omega
    have hSY : SysV Y.heap.size Y (.slice p1 s.cores.length c1 :: .slice p2 s.caches.length c2 :: (s.homes.flatMap homE.enc ++ [.slice q r.length cq])) { s with net := r } := by
      obtain ⟨⟨a1, b1, a2, b2, a3, b3, hvs2, hco2, hca2, hne2, hnil2⟩, _⟩ := hS
      rw [hvs2] at hvs
      simp only [List.cons.injEq, Value.slice.injEq, true_and] at hvs
      obtain ⟨⟨rfl, rfl⟩, ⟨rfl, rfl⟩, _⟩ := hvs
      refine ⟨⟨_, _, _, _, _, _, rfl, (hco2.below hwY).mono hwY.size, (hca2.below hwY).mono hwY.size, RowB.of_slr hoY.row, fun hq => ?_⟩, h6⟩
      exact (own_cap hoY).2 hq
    have f0Y : Y.heap[w.heap.size]? = some (.cells wv.toArray 44 (0, 0)) := (gY.block _ (hlt (block_below hbX f0V)) (fun e => by simp only [Option.some.injEq] at e; omega)).trans (block_below hbX f0V)
    refine ⟨wv, hW.len, cells_block f0Y, hlt f0Y, ?_⟩
    refine ⟨_, ?_, cells_block fY, hlt fY, ?_⟩
    · have := hSY.len; simpa using this
    refine Calls.mono (BytesR_s (s := { s with net := r }) hW hSY) ?_
    rintro e Z ⟨p, cap, rfl, hoZ, hbZ⟩
    have hfr : fitsB g { s with net := r } = true := ok_fits (ok_net h1 s2) (fits_ok hS.okm h).2.2.2
    have e : bytesL g { s with net := r } = encSy { s with net := r } := by unfold bytesL; rw [hfr]; rfl
    rw [e] at hoZ ⊢
    refine ⟨_, fun w2 hb2 => conv_arg hoZ.row w2 hb2, ?_⟩
    refine ⟨_, rfl, ⟨fun _ => ⟨r, s1, rfl⟩, fun h' => (by rw [h] at h'; cases h')⟩, hwY.trans (hbZ.mono hwY.size)⟩

theorem SameR_s {wv va vb : List Value} {g : Geo} {mode : UInt8} {a b : Sy} {w : World} (hW : WorV wv g.enc mode) (hSa : SysV w.heap.size w va a) (hSb : SysV w.heap.size w vb b) :
    Calls Tryz.prog 8 #[.agg wv.toArray, .agg va.toArray, .agg vb.toArray] w fun e w' => ∃ v : Bool, e = .returned (.bool v) ∧ (v = true ↔ fitsB g a = true ∧ fitsB g b = true ∧ ∀ k1 k2, KeyW mode g a k1 → KeyW mode g b k2 → k1 = k2) ∧ Below w.heap.size w w' := by
  refine calls_of_E (S := sg 24) (sgOk _) (args := [.agg wv.toArray, .agg va.toArray, .agg vb.toArray]) Tryz.func8 rfl rfl (Nat.le_of_ble_eq_true rfl) rfl ?_
  obtain ⟨W0, hW0⟩ : ∃ W0, ((w.alloc (.cells wv.toArray 44)).alloc (.cells va.toArray 58)).alloc (.cells vb.toArray 58) = W0 := ⟨_, rfl⟩
  have e1 : (w.alloc (.cells wv.toArray 44)).heap.size = w.heap.size + 1 := World.size_alloc _ _
  have e2 : ((w.alloc (.cells wv.toArray 44)).alloc (.cells va.toArray 58)).heap.size = w.heap.size + 2 := by rw [World.size_alloc, e1]
  have hb0 : Below w.heap.size w W0 := by rw [← hW0]; exact (((Below.refl _ _).alloc (Nat.le_refl _) _).alloc (by simp) _).alloc (by simp; omega) _
  have f0 : W0.heap[w.heap.size]? = some (.cells wv.toArray 44 (0, 0)) := by rw [← hW0]; exact hold _ (hold _ (hnew w _))
  have f1 : W0.heap[(w.alloc (.cells wv.toArray 44)).heap.size]? = some (.cells va.toArray 58 (0, 0)) := by
    rw [← hW0]; exact hold _ (hnew (w.alloc (.cells wv.toArray 44)) (.cells va.toArray 58))
  have f2 : W0.heap[((w.alloc (.cells wv.toArray 44)).alloc (.cells va.toArray 58)).heap.size]? = some (.cells vb.toArray 58 (0, 0)) := by
    rw [← hW0]; exact hnew _ _
  have hla := hSa.len
  have hlb := hSb.len
  have hw0 : Below w.heap.size w W0.drew := hb0.drew
  subst hW0
  refine DrawE.ord [] [0, 1, 2, 3, 4, 5, 6, 7, 8, 9, 10, 12, 13, 11, 14, 15, 16, 17] (by kernel_rfl) ?_
  refine ⟨wv, hW.len, cells_block (hdr f0), hlt (hdr f0), ?_⟩
  refine ⟨va, hla, cells_block (hdr f1), hlt (hdr f1), ?_⟩
  refine Calls.mono (FitsR_c hW ((hSa.below hw0).mono hw0.size)) ?_
  rintro e V ⟨rfl, hbV⟩
  refine ⟨hbV, ?_⟩
  have hwV := hw0.trans (hbV.mono hw0.size)
  have f0V := block_below hbV (hdr f0)
  have f1V := block_below hbV (hdr f1)
  have f2V := block_below hbV (hdr f2)
  refine And.intro (fun h => ?_) (fun h => ?_)
  · have h : fitsB g a = true := h
    refine ⟨wv, hW.len, cells_block f0V, hlt f0V, ?_⟩
    refine ⟨vb, hlb, cells_block f2V, hlt f2V, ?_⟩
    refine Calls.mono (FitsR_c hW ((hSb.below hwV).mono hwV.size)) ?_
    rintro e X ⟨rfl, hbX⟩
    refine ⟨hbX, ?_⟩
    have hwX := hwV.trans (hbX.mono hwV.size)
    have f0X := block_below hbX f0V
    have f1X := block_below hbX f1V
    have f2X := block_below hbX f2V
    refine And.intro (fun h2 => ?_) (fun h2 => ?_)
    · have h2 : fitsB g b = true := h2
      refine ⟨wv, hW.len, cells_block f0X, hlt f0X, ?_⟩
      refine ⟨va, hla, cells_block f1X, hlt f1X, ?_⟩
      refine ⟨wv, hW.len, cells_block f0X, hlt f0X, ?_⟩
      refine ⟨vb, hlb, cells_block f2X, hlt f2X, ?_⟩
      refine Calls.mono (KeyR_s hW ((hSa.below hwX).mono hwX.size)) ?_
      rintro e Y ⟨k1, rfl, hk1, hbY⟩
      refine ⟨hbY, ?_⟩
      have hwY := hwX.trans (hbY.mono hwX.size)
      refine Calls.mono (KeyR_s hW ((hSb.below hwY).mono hwY.size)) ?_
      rintro e Z ⟨k2, rfl, hk2, hbZ⟩
      refine ⟨hbZ, ?_⟩
      refine ⟨_, fun w => eql_str _ _ k1 k2 w, ?_⟩
      refine ⟨_, rfl, ?_, hwY.trans (hbZ.mono hwY.size)⟩
      rw [decide_eq_true_iff]
      exact ⟨fun h3 => ⟨h, h2, fun j1 j2 q1 q2 => by rw [q1.uniq hk1, q2.uniq hk2]; exact h3⟩, fun h3 => h3.2.2 k1 k2 hk1 hk2⟩
    · have h2 : fitsB g b = false := h2
      exact ⟨false, rfl, ⟨fun h => (by cases h), fun h3 => by rw [h2] at h3; cases h3.2.1⟩, hwX⟩
  · have h : fitsB g a = false := h
    refine And.intro (fun h => by cases h) (fun _ => ?_)
    exact ⟨false, rfl, ⟨fun h => (by cases h), fun h3 => by rw [h] at h3; cases h3.1⟩, hwV⟩
end Go.Proofs.YtedeohcdcaimhaaGreatDoor
namespace Go.Proofs.YtedeohcdcaimhaaGreatDoor
open Go.Vc Go.RowKit Go.Sei
set_option linter.unusedVariables false

theorem eql_boolv (x y : Operand) (a b : Bool) (w : World) : (do eqGuard .eql 4 x y (.bool a) (.bool b); binOp .eql 4 (.bool a) (.bool b)).run Tryz.prog w = .ok (.bool (decide (a = b))) w := by
  have h : (Op.equal 4 (.bool a) (.bool b)).run Tryz.prog w = .ok (decide (a = b)) w := eq_bool' 9999 a b w
  have h1 : (eqGuard .eql 4 x y (.bool a) (.bool b)).run Tryz.prog w = .ok () w := rfl
  rw [Sem.run_bind, h1]
  simp only [Result.andThen_ok, binOp, Sem.run_bind, h, Sem.run_pure]

theorem same_c {wv vs : List Value} {g : Geo} {mode : UInt8} {s : Sy} {w : World} (hW : WorV wv g.enc mode) (hS : SysV w.heap.size w vs s) (hG : GlobP w) (hn : Small s) :
    Calls Tryz.prog 6 #[.agg wv.toArray, .agg vs.toArray] w fun e w' => e = .returned (.bool true) ∧ (∃ k, KeyOf mode g s k) ∧ Below w.heap.size w w' := by
  refine calls_of_M (S := sg 42) (sgOk _) (args := [.agg wv.toArray, .agg vs.toArray]) (.s .p (.c .p (.c .p .p))) Tryz.func6 rfl rfl (Nat.le_of_ble_eq_true rfl) rfl ?_
  obtain ⟨W0, hW0⟩ : ∃ W0, (w.alloc (.cells wv.toArray 44)).alloc (.cells vs.toArray 58) = W0 := ⟨_, rfl⟩
  have hb0 : Below w.heap.size w W0 := by rw [← hW0]; exact ((Below.refl _ _).alloc (Nat.le_refl _) _).alloc (by simp) _
  have f0 : W0.heap[w.heap.size]? = some (.cells wv.toArray 44 (0, 0)) := by rw [← hW0]; exact hold _ (hnew w _)
  have f1 : W0.heap[w.heap.size + 1]? = some (.cells vs.toArray 58 (0, 0)) := by
    have := hnew (w.alloc (.cells wv.toArray 44)) (.cells vs.toArray 58)
    rw [World.size_alloc] at this
    rw [← hW0]; exact this
  have es : (w.alloc (.cells wv.toArray 44)).heap.size = w.heap.size + 1 := World.size_alloc _ _
  have hvl := hS.len
  have hwl := hW.len
  have hsz0 := hb0.size
  have hwX : ∀ X, Below W0.heap.size W0 X → Below w.heap.size w X := fun X hX => hb0.trans (hX.mono hb0.size)
  have hSX : ∀ X, Below W0.heap.size W0 X → SysV X.heap.size X vs s := fun X hX => (hS.below (hwX X hX)).mono (hwX X hX).size
  have hGX : ∀ X, Below W0.heap.size W0 X → GlobP X := fun X hX => ⟨hG.bnd.below (hwX X hX), hG.cls.below (hwX X hX)⟩
  have ptr1 : some (Value.pointer (some ⟨(w.alloc (.cells wv.toArray 44)).heap.size, 0, none⟩)) = some (Value.pointer (some ⟨w.heap.size + 1, 0, none⟩)) := by rw [es]
  refine ⟨Nat × List Value, fun q => ⟨[(2, .pointer (some ⟨w.heap.size, 0, none⟩)), (3, .pointer (some ⟨w.heap.size + 1, 0, none⟩)), (5, .pointer (some ⟨q.1, 0, none⟩))], []⟩, fun q X => X.heap[q.1]? = some (.cells q.2.toArray 58 (0, 0)) ∧ LentV X q.2 s ∧ Below W0.heap.size W0 X, ?_, ?_⟩
  · have hL := LentSys_c (hSX W0 (Below.refl _ _)) hn
    rw [← hW0] at hL f1
    rw [← es] at f1
    refine ⟨vs, hvl, cells_block f1, hlt f1, ?_⟩
    refine Calls.mono hL ?_
    rintro e V ⟨vi, rfl, hI, hbV⟩
    rw [hW0] at hbV
    have hil := hI.sys.len
    have hio : vi.all Value.oneCell' = true := hI.sys.one
    refine store_new (X := V) (v := .agg vi.toArray) (ttOk.get 58 _ rfl) (by show vi.length = 69; exact hil) (by rfl) hio fun Y hbY fY sY => ?_
    exact ⟨(V.heap.size, vi), ⟨.cons rfl (.cons ptr1 (.cons rfl .nil)), rfl⟩, fY, hI.below hbY, hbV.trans (hbY.mono hbV.size)⟩
  clear hW0 ptr1 es
  rintro ⟨gi, vi⟩ V ⟨fi, hI, hV⟩
  dsimp only at fi hI hV ⊢
  have hil := hI.sys.len
  have fi0 := fi
  refine ⟨Option Addr × Nat, fun q => ⟨[(2, .pointer (some ⟨w.heap.size, 0, none⟩)), (3, .pointer (some ⟨w.heap.size + 1, 0, none⟩)), (5, .pointer (some ⟨gi, 0, none⟩)), (6, .slice q.1 (bytesL g s).length q.2)], []⟩, fun q X => SlR byteE X q.1 (bytesL g s) ∧ Below V.heap.size V X, ?_, ?_⟩
  · have f0V := block_below hV f0
    refine ⟨wv, hwl, cells_block f0V, hlt f0V, ?_⟩
    refine ⟨vi, hil, cells_block fi, hlt fi, ?_⟩
    refine Calls.mono (Bytes_s hW hI.sys (hGX V hV).bnd) ?_
    rintro e X ⟨p, cap, rfl, ho, hb⟩
    exact ⟨(p, cap), ⟨.cons rfl (.cons rfl (.cons rfl (.cons rfl .nil))), rfl⟩, ho.row, hb⟩
  rintro ⟨p, cap⟩ X ⟨hr, hVX⟩
  dsimp only at hr hVX ⊢
  have hX := hV.trans (hVX.mono hV.size)
  have hXd := hX.drew
  have hrd : SlR byteE X.drew p (bytesL g s) := hr
  have hId : LentV X.drew vi s := hI.below hVX.drew
  have a0 := hdr (block_below hX f0)
  have a1 := hdr (block_below hX f1)
  have ai := hdr (block_below hVX fi)
  clear hr hVX fi fi0 hV hX hI
  refine DrawE.ord [] [0, 1, 3, 4, 2, 5, 6, 7, 8, 9, 10, 11, 12, 13, 14, 15, 16, 17, 18, 20, 21, 19, 22, 23, 24, 25, 26, 27, 28, 29, 30] (by kernel_rfl) ?_
  generalize X.drew = X at *
  refine ⟨wv, hwl, cells_block a0, hlt a0, ?_⟩
  refine ⟨vi, hil, cells_block ai, hlt ai, ?_⟩
  refine ⟨wv, hwl, cells_block a0, hlt a0, ?_⟩
  refine ⟨vs, hvl, cells_block a1, hlt a1, ?_⟩
  refine Calls.mono (Fits_c hW hId.sys (hGX X hXd).bnd) ?_
  rintro e Y ⟨rfl, hbY⟩
  refine ⟨hbY, ?_⟩
  have hY := hXd.trans (hbY.mono hXd.size)
  refine Calls.mono (FitsR_c hW (hSX Y hY)) ?_
  rintro e Z ⟨rfl, hbZ⟩
  refine ⟨hbZ, ?_⟩
  have hZ := hY.trans (hbZ.mono hY.size)
  have hXZ := hbY.trans (hbZ.mono hbY.size)
  refine ⟨_, fun w => eql_boolv _ _ (fitsB g s) (fitsB g s) w, ?_⟩
  rw [show decide (fitsB g s = fitsB g s) = true by simp]
  refine And.intro (fun _ => ?_) (fun h => by cases h)
  have z0 := block_below hXZ a0
  have z1 := block_below hXZ a1
  have zi := block_below hXZ ai
  have hrZ := hrd.below hXZ
  refine ⟨_, fun w2 hb2 => conv_arg hrZ w2 hb2, ?_⟩
  refine ⟨wv, hwl, cells_block z0, hlt z0, ?_⟩
  refine ⟨vs, hvl, cells_block z1, hlt z1, ?_⟩
  refine Calls.mono (BytesR_s hW (hSX Z hZ)) ?_
  rintro e U ⟨q, cq, rfl, hoU, hbU⟩
  refine ⟨hbU, ?_⟩
  have hU := hZ.trans (hbU.mono hZ.size)
  have hXU := hXZ.trans (hbU.mono hXZ.size)
  refine ⟨_, fun w2 hb2 => conv_arg hoU.row w2 hb2, ?_⟩
  refine ⟨_, fun w => eql_str _ _ (bytesL g s) (bytesL g s) w, ?_⟩
  rw [show decide (bytesL g s = bytesL g s) = true by simp]
  refine And.intro (fun _ => ?_) (fun h => by cases h)
  have u0 := block_below hXU a0
  have u1 := block_below hXU a1
  have ui := block_below hXU ai
  refine ⟨wv, hwl, cells_block u0, hlt u0, ?_⟩
  refine ⟨vi, hil, cells_block ui, hlt ui, ?_⟩
  refine ⟨wv, hwl, cells_block u0, hlt u0, ?_⟩
  refine ⟨vs, hvl, cells_block u1, hlt u1, ?_⟩
  refine Calls.mono (Key_s hW (hId.below hXU).sys (hGX U hU).bnd (hGX U hU).cls) ?_
  rintro e R ⟨k1, rfl, hk1, hbR⟩
  refine ⟨hbR, ?_⟩
  have hR := hU.trans (hbR.mono hU.size)
  have hXR := hXU.trans (hbR.mono hXU.size)
  refine Calls.mono (KeyR_s hW (hSX R hR)) ?_
  rintro e T ⟨k2, rfl, hk2, hbT⟩
  refine ⟨hbT, ?_⟩
  have hT := hR.trans (hbT.mono hR.size)
  have hXT := hXR.trans (hbT.mono hXR.size)
  refine ⟨_, fun w => eql_str _ _ k1 k2 w, ?_⟩
  rw [decide_eq_true (hk1.w.uniq hk2)]
  refine And.intro (fun _ => ?_) (fun h => by cases h)
  have t1 := block_below hXT a1
  have ti := block_below hXT ai
  refine ⟨vi, hil, cells_block ti, hlt ti, ?_⟩
  refine ⟨vs, hvl, cells_block t1, hlt t1, ?_⟩
  refine Calls.mono (KeptSys_c (hId.below hXT) (hSX T hT) hn) ?_
  rintro e L ⟨rfl, hbL⟩
  refine ⟨hbL, ?_⟩
  exact ⟨rfl, ⟨k1, hk1⟩, hwX L (hT.trans (hbL.mono hT.size))⟩
end Go.Proofs.YtedeohcdcaimhaaGreatDoor
namespace Go.Proofs.YtedeohcdcaimhaaGreatDoor
open Go.Vc Go.RowKit Go.Sei
set_option linter.unusedVariables false

/-- The lengths of what lies in memory. -/
structure Lens (s : Sy) : Prop where
  cores : s.cores.length ≤ 140737488351232
  caches : s.caches.length ≤ 140737488351232
  net : s.net.length ≤ 140737488351232
  buf : ∀ c ∈ s.cores, c.buf.length ≤ 140737488351232
theorem bufs_mem : ∀ {l : List Cor} {c : Cor}, c ∈ l → c.buf.length ≤ bufsL l
  | a :: r, c, h => by
    have e : bufsL (a :: r) = a.buf.length + bufsL r := rfl
    rcases List.mem_cons.1 h with rfl | h
    · omega
    · have := bufs_mem h; omega

theorem great2_c {vs : List Value} {s : Sy} {w : World} (hS : SysV w.heap.size w vs s) (hL : Lens s) :
    Calls Tryz.prog 4 #[.agg vs.toArray] w fun e w' => ∃ v : Bool, e = .returned (.bool v) ∧ (v = false → Small s) ∧ Below w.heap.size w w' := by
  refine calls_of_E (S := sg 38) (sgOk _) (args := [.agg vs.toArray]) Tryz.func4 rfl rfl (Nat.le_of_ble_eq_true rfl) rfl ?_
  have hb0 : Below w.heap.size w (w.alloc (.cells vs.toArray 58)) := (Below.refl _ _).alloc (Nat.le_refl _) _
  have f0 := hnew w (.cells vs.toArray 58)
  obtain ⟨⟨p1, c1, p2, c2, p3, c3, hvs, hco, hca, hne, hnil⟩, h6⟩ := hS.below hb0
  have hH : (s.homes.flatMap homE.enc).length = 66 := by rw [flat_len, h6]; rfl
  have hcl : Cells (w.alloc (.cells vs.toArray 58)) ⟨w.heap.size, 0, none⟩ vs := cells_block f0
  obtain ⟨W0, hW0⟩ : ∃ W0, w.alloc (.cells vs.toArray 58) = W0 := ⟨_, rfl⟩
  have q0 := cells_at hcl (i := 0) (by rw [hvs]; rfl)
  obtain ⟨l1, l2, l3, l4⟩ := hL
  obtain ⟨N, hN⟩ : ∃ N : Nat, N = 140737488351232 := ⟨_, rfl⟩
  rw [← hN] at l1 l2 l3 l4
  refine ⟨_, cells_at hcl (i := 1) (by rw [hvs]; rfl), ?_⟩
  refine ⟨_, q0, ?_⟩
  refine ⟨((s.caches.length + s.cores.length : Nat) : Int), (wrap_i64 (by omega)).trans (by omega), ?_⟩
  refine ⟨_, cells_at hcl (i := 68) (by rw [hvs]; exact sys_net hH), ?_⟩
  refine ⟨((s.caches.length + s.cores.length + s.net.length : Nat) : Int), (wrap_i64 (by omega)).trans (by omega), ?_⟩
  refine ⟨Nat, fun k => ⟨[(1, .pointer (some ⟨w.heap.size, 0, none⟩)), (3, .int .i64 ((s.caches.length + s.cores.length + s.net.length + bufsL (s.cores.take k) : Nat) : Int)), (4, .int .i64 (k : Nat))], []⟩, fun k V => k ≤ s.cores.length ∧ s.caches.length + s.cores.length + s.net.length + bufsL (s.cores.take k) ≤ 4 * N ∧ W0 = V, fun k => s.cores.length - k, 0, ⟨.cons rfl (.cons rfl (.cons rfl .nil)), rfl⟩, ⟨Nat.zero_le _, by show s.caches.length + s.cores.length + s.net.length + 0 ≤ _; omega, hW0.symm⟩, ?_⟩
  rintro k _ ⟨hk, hz4, rfl⟩
  subst hW0
  refine ⟨_, q0, ?_⟩
  refine And.intro (fun hc => ?_) (fun hc => ?_)
  · have hc : (k : Int) < s.cores.length := of_decide_eq_true hc
    have hks : k < s.cores.length := by omega
    refine And.intro (fun hz => ?_) (fun hz => ?_)
    · have hz : ((s.caches.length + s.cores.length + s.net.length + bufsL (s.cores.take k) : Nat) : Int) ≤ 400 := of_decide_eq_true hz
      obtain ⟨b, o, hp, hat⟩ := hco
      obtain ⟨pb, cb, hbB, hcb, _⟩ := hat k hks
      rcases hp with hp | hp
      · omega
      subst hp
      have hbl := l4 _ (List.getElem_mem hks)
      refine ⟨_, q0, ?_⟩
      refine ⟨k, rfl, hks, ?_⟩
      refine ⟨_, cells_at hcb (i := 9) rfl, ?_⟩
      refine ⟨((s.caches.length + s.cores.length + s.net.length + bufsL (s.cores.take (k + 1)) : Nat) : Int), (wrap_i64 (by omega)).trans (by rw [bufs_take hks]; omega), ?_⟩
      refine ⟨(k + 1 : Nat), (wrap_i64 (by omega)).trans (by omega), ?_⟩
      exact ⟨k + 1, ⟨.cons rfl (.cons rfl (.cons rfl .nil)), rfl⟩, ⟨hks, by rw [bufs_take hks]; omega, rfl⟩, by first | omega | (dsimp only; omega)⟩
    · have hz : ¬ ((s.caches.length + s.cores.length + s.net.length + bufsL (s.cores.take k) : Nat) : Int) ≤ 400 := of_decide_eq_false hz
      refine ⟨_, rfl, fun hv => ?_, hb0⟩
      have hv : ¬ (400 : Int) < ((s.caches.length + s.cores.length + s.net.length + bufsL (s.cores.take k) : Nat) : Int) := of_decide_eq_false hv
      omega
  · refine And.intro (fun h => by cases h) (fun _ => ?_)
    have hc : ¬ (k : Int) < s.cores.length := of_decide_eq_false hc
    obtain rfl : k = s.cores.length := by omega
    refine ⟨_, rfl, fun hv => ?_, hb0⟩
    have hv : ¬ (400 : Int) < ((s.caches.length + s.cores.length + s.net.length + bufsL (s.cores.take s.cores.length) : Nat) : Int) := of_decide_eq_false hv
    rw [List.take_length] at hv
    exact ⟨by omega, by omega, by omega, fun c hc => by have := bufs_mem hc; omega⟩

theorem keys_iff {mode : UInt8} {g : Geo} {a b : Sy} {ka kb : List UInt8} (ma : okMem a) (mb : okMem b) (ha : KeyOf mode g a ka) (hb : KeyOf mode g b kb) :
    (fitsB g a = true ∧ fitsB g b = true ∧ ({ a with net := [] } : Sy) = { b with net := [] } ∧ eqN mode a.net b.net) ↔ (fitsB g a = true ∧ fitsB g b = true ∧ ∀ k1 k2, KeyW mode g a k1 → KeyW mode g b k2 → k1 = k2) := by
  constructor
  · rintro ⟨h1, h2, h3⟩
    have := (key_eq ma mb ha hb h1 h2).2 h3
    exact ⟨h1, h2, fun k1 k2 q1 q2 => by rw [q1.uniq ha.w, q2.uniq hb.w]; exact this⟩
  · rintro ⟨h1, h2, h3⟩
    exact ⟨h1, h2, (key_eq ma mb ha hb h1 h2).1 (h3 _ _ ha.w hb.w)⟩

theorem packTells_c {wv va vb : List Value} {g : Geo} {mode : UInt8} {a b : Sy} {w : World} (hW : WorV wv g.enc mode) (hA : SysV w.heap.size w va a) (hna : Lens a) (hB : SysV w.heap.size w vb b) (hnb : Lens b) (hG : GlobP w) :
    Calls Tryz.prog 3 #[.agg wv.toArray, .agg va.toArray, .agg vb.toArray] w fun e w' => e = .returned (.bool true) ∧ Below w.heap.size w w' := by
  have hla := hA.len
  have hlb := hB.len
  have hlw := hW.len
  refine calls_of_M (S := sg 36) (sgOk _) (args := [.agg wv.toArray, .agg va.toArray, .agg vb.toArray]) (.s .p (.c .p .p)) Tryz.func3 rfl rfl (Nat.le_of_ble_eq_true rfl) rfl ?_
  obtain ⟨W0, hW0⟩ : ∃ W0, ((w.alloc (.cells wv.toArray 44)).alloc (.cells va.toArray 58)).alloc (.cells vb.toArray 58) = W0 := ⟨_, rfl⟩
  have e1 : (w.alloc (.cells wv.toArray 44)).heap.size = w.heap.size + 1 := World.size_alloc _ _
  have e2 : ((w.alloc (.cells wv.toArray 44)).alloc (.cells va.toArray 58)).heap.size = w.heap.size + 2 := by rw [World.size_alloc, e1]
  have hb0 : Below w.heap.size w W0 := by rw [← hW0]; exact (((Below.refl _ _).alloc (Nat.le_refl _) _).alloc (by simp) _).alloc (by simp; omega) _
  have f0 : W0.heap[w.heap.size]? = some (.cells wv.toArray 44 (0, 0)) := by rw [← hW0]; exact hold _ (hold _ (hnew w _))
  have f1 : W0.heap[w.heap.size + 1]? = some (.cells va.toArray 58 (0, 0)) := by
    rw [← hW0, ← e1]; exact hold _ (hnew (w.alloc (.cells wv.toArray 44)) (.cells va.toArray 58))
  have f2 : W0.heap[w.heap.size + 2]? = some (.cells vb.toArray 58 (0, 0)) := by
    rw [← hW0, ← e2]; exact hnew _ _
  have ptr1 : some (Value.pointer (some ⟨(w.alloc (.cells wv.toArray 44)).heap.size, 0, none⟩)) = some (Value.pointer (some ⟨w.heap.size + 1, 0, none⟩)) := by rw [e1]
  have ptr2 : some (Value.pointer (some ⟨((w.alloc (.cells wv.toArray 44)).alloc (.cells va.toArray 58)).heap.size, 0, none⟩)) = some (Value.pointer (some ⟨w.heap.size + 2, 0, none⟩)) := by rw [e2]
  have hwv : ∀ V, Below W0.heap.size W0 V → Below w.heap.size w V := fun V hV => hb0.trans (hV.mono hb0.size)
  have hs0 := hb0.size
  have hAV : ∀ V, Below W0.heap.size W0 V → SysV V.heap.size V va a := fun V hV => (hA.below (hwv V hV)).mono (hwv V hV).size
  have hBV : ∀ V, Below W0.heap.size W0 V → SysV V.heap.size V vb b := fun V hV => (hB.below (hwv V hV)).mono (hwv V hV).size
  have hGV : ∀ V, Below W0.heap.size W0 V → GlobP V := fun V hV => ⟨hG.bnd.below (hwv V hV), hG.cls.below (hwv V hV)⟩
  refine ⟨Unit, fun _ => ⟨[(3, .pointer (some ⟨w.heap.size, 0, none⟩)), (4, .pointer (some ⟨w.heap.size + 1, 0, none⟩)), (5, .pointer (some ⟨w.heap.size + 2, 0, none⟩))], []⟩, fun _ V => (Small a ∧ Small b) ∧ Below W0.heap.size W0 V, ?_, ?_⟩
  · have g1 : W0.heap[(w.alloc (.cells wv.toArray 44)).heap.size]? = some (.cells va.toArray 58 (0, 0)) := by rw [e1]; exact f1
    have g2 : ∀ V, Below W0.heap.size W0 V → V.heap[((w.alloc (.cells wv.toArray 44)).alloc (.cells va.toArray 58)).heap.size]? = some (.cells vb.toArray 58 (0, 0)) := fun V hV => by rw [e2]; exact block_below hV f2
    have c1 := great2_c (hAV W0 (Below.refl _ _)) hna
    subst hW0
    refine ⟨va, hla, cells_block g1, hlt g1, ?_⟩
    refine Calls.mono c1 ?_
    rintro e X ⟨v, rfl, hv, hX⟩
    refine And.intro (fun h => ?_) (fun h => ?_)
    · subst h
      refine And.intro (fun _ => ?_) (fun h => by cases h)
      refine Calls.mono (awake_c _ (hGV X hX).bnd (hGV X hX).cls) ?_
      rintro e Y ⟨rfl, hY⟩
      exact ⟨rfl, hwv Y (hX.trans (hY.mono hX.size))⟩
    · subst h
      refine ⟨vb, hlb, cells_block (g2 X hX), hlt (g2 X hX), ?_⟩
      refine Calls.mono (great2_c (hBV X hX) hnb) ?_
      rintro e Y ⟨v, rfl, hv2, hbY⟩
      have hY := hX.trans (hbY.mono hX.size)
      refine And.intro (fun h => ?_) (fun h => ?_)
      · refine Calls.mono (awake_c _ (hGV Y hY).bnd (hGV Y hY).cls) ?_
        rintro e Z ⟨rfl, hZ⟩
        exact ⟨rfl, hwv Z (hY.trans (hZ.mono hY.size))⟩
      · subst h
        exact ⟨(), ⟨.cons rfl (.cons ptr1 (.cons ptr2 .nil)), rfl⟩, ⟨hv rfl, hv2 rfl⟩, hY⟩
  clear hW0 ptr1 ptr2 e1 e2
  rintro _ V ⟨⟨sa, sb⟩, hbV⟩
  dsimp only at hbV ⊢
  have hVd : Below W0.heap.size W0 V.drew := hbV.drew
  refine DrawE.ord [] [0, 1, 2, 3, 4, 5, 6, 7, 8, 9, 10, 11, 13, 14, 15, 12, 16, 17, 18, 19, 20, 21, 22] (by kernel_rfl) ?_
  generalize V.drew = X at *
  have x0 := block_below hVd f0
  have x1 := block_below hVd f1
  refine ⟨wv, hlw, cells_block x0, hlt x0, ?_⟩
  refine ⟨va, hla, cells_block x1, hlt x1, ?_⟩
  refine Calls.mono (same_c hW (hAV X hVd) (hGV X hVd) sa) ?_
  rintro e Y ⟨rfl, ⟨ka, hka⟩, hbY⟩
  refine ⟨hbY, ?_⟩
  have hY := hVd.trans (hbY.mono hVd.size)
  refine And.intro (fun _ => ?_) (fun h => by cases h)
  have y0 := block_below hY f0
  have y2 := block_below hY f2
  refine ⟨wv, hlw, cells_block y0, hlt y0, ?_⟩
  refine ⟨vb, hlb, cells_block y2, hlt y2, ?_⟩
  refine Calls.mono (same_c hW (hBV Y hY) (hGV Y hY) sb) ?_
  rintro e Z ⟨rfl, ⟨kb, hkb⟩, hbZ⟩
  refine ⟨hbZ, ?_⟩
  have hZ := hY.trans (hbZ.mono hY.size)
  refine And.intro (fun _ => ?_) (fun h => by cases h)
  have z0 := block_below hZ f0
  have z1 := block_below hZ f1
  have z2 := block_below hZ f2
  refine ⟨wv, hlw, cells_block z0, hlt z0, ?_⟩
  refine ⟨va, hla, cells_block z1, hlt z1, ?_⟩
  refine ⟨vb, hlb, cells_block z2, hlt z2, ?_⟩
  refine ⟨wv, hlw, cells_block z0, hlt z0, ?_⟩
  refine ⟨va, hla, cells_block z1, hlt z1, ?_⟩
  refine ⟨vb, hlb, cells_block z2, hlt z2, ?_⟩
  refine Calls.mono (Same_s hW (hAV Z hZ) (hBV Z hZ) (hGV Z hZ).bnd (hGV Z hZ).cls) ?_
  rintro e U ⟨v1, rfl, hv1, hbU⟩
  refine ⟨hbU, ?_⟩
  have hU := hZ.trans (hbU.mono hZ.size)
  refine Calls.mono (SameR_s hW (hAV U hU) (hBV U hU)) ?_
  rintro e R ⟨v2, rfl, hv2, hbR⟩
  refine ⟨hbR, ?_⟩
  have hR := hU.trans (hbR.mono hU.size)
  refine ⟨_, fun w => eql_boolv _ _ v1 v2 w, ?_⟩
  have hv : v1 = v2 := Bool.eq_iff_iff.2 (hv1.trans ((keys_iff hA.okm hB.okm hka hkb).trans hv2.symm))
  rw [decide_eq_true hv]
  refine And.intro (fun _ => ?_) (fun h => by cases h)
  refine Calls.mono (awake_c _ (hGV R hR).bnd (hGV R hR).cls) ?_
  rintro e T ⟨rfl, hbT⟩
  refine ⟨hbT, ?_⟩
  exact ⟨rfl, hwv T (hR.trans (hbT.mono hR.size))⟩
end Go.Proofs.YtedeohcdcaimhaaGreatDoor
namespace Go.Proofs.YtedeohcdcaimhaaGreatDoor
open Go.Vc Go.RowKit Go.Sei
open Go.ChangeShapes Go.WideShapes Go.ChangeAt
set_option linter.unusedVariables false

theorem returns_and_sized {H : Type} {enc : TypeId × Value → H} {a : Assume} {C : Checked} {os : Os} {f : FuncId} {fn : Func} {s : ChangeSpec} {conds : List PathCond} {apart fresh handsOn again : Bool} {X : World → Array Value → Prop}
    (hX : ∀ (w w' : World) (args : Array Value), w.heap = w'.heap → X w args → X w' args)
    (own : ownKnob C.prog.godebug = none) (started : os.Started) (noInit : C.prog.inits.idxOf? f = none) (hfn : C.prog.funcs[f]? = some fn)
    (witness : ∃ (w : World) (tape : Tape) (i : Input), w.os = os ∧ (w.forCall tape i).Shaped C.prog ∧ i.vars = [] ∧ Input.okWide C.prog (w.forCall tape i) .any w.heap.size f i ∧
      ((s.pre enc C.prog fn conds apart (w.forCall tape i).memory i.args ∧ X (w.forCall tape i).memory i.args) ∧ sizedMet enc C.prog fn (OpenSpec.ofChange s) apart (w.forCall tape i).memory i.args) ∧ a.holds C.prog (lone (Frame.enter C.prog f i.args .normal) [] (w.forCall tape i)))
    (contract : ∀ (W : World) (base : Nat) (args : Array Value) (ds gs : List (DataW H)) (before : List MemPlace),
      (∀ (j : Nat) t v, fn.params[j]? = some t → args[j]? = some v → Value.okWide C.prog W .any base t v) →
      DataW.Whole enc C.prog fn.params.toList s.vars apart W args.toList ds gs before → X W args → W.ShapedOpen C.prog →
      (∃ ds gs before, DataW.Whole enc C.prog fn.params.toList (OpenSpec.ofChange s).vars apart W args.toList ds gs before ∧ ∀ n ∈ DataW.weightsEach C.prog (fn.params.toList ++ (OpenSpec.ofChange s).bare.plain.varTypes C.prog) (ds ++ gs), n ≤ reachBytes) →
      Calls C.prog f args W fun e W' => ∃ v, e = .returned v ∧ s.post enc C.prog fn apart fresh handsOn again W args v W') :
    ReturnsInHanded a C os f .any (fun w args => (s.pre enc C.prog fn conds apart w args ∧ X w args) ∧ sizedMet enc C.prog fn (OpenSpec.ofChange s) apart w args) (s.post enc C.prog fn apart fresh handsOn again) := by
  refine returnsInHanded_of_calls own started noInit witness ?_
  intro w tape i _ hsh _ hok hpre hholds
  obtain ⟨_, _, _, fn', hfn', _, _, _, _, hval⟩ := hok
  have e : fn' = fn := Option.some.inj (hfn'.symm.trans hfn)
  subst e
  obtain ⟨⟨⟨ds, gs, before, hw, hc⟩, hx⟩, hz⟩ := hpre
  have hw' := DataW.Whole.of_heap (w' := w.forCall tape i) (by rfl) hw
  obtain ⟨_, ds2, gs2, before2, hw2, hall⟩ := hz
  refine (contract (w.forCall tape i) w.heap.size i.args ds gs before hval hw' (hX _ _ _ (by rfl) hx) hsh ⟨ds2, gs2, before2, DataW.Whole.of_heap (w' := w.forCall tape i) (by rfl) hw2, fun n hn => of_decide_eq_true (List.all_eq_true.1 hall n hn)⟩).mono fun e W' ⟨v, he, hp⟩ => ?_
  subst he
  exact ChangeSpec.post_blind hp

section
variable {H : Type} {enc : TypeId × Value → H} {P : Program} {w : World} {base : Nat} {spare : Nat → Bool} {held : Bool} {fuel : Nat} {t : TypeId} {cs : List Value} {x : DataW H × List MemPlace}
/-- All weights of a reading lie within the reach. -/
def Wgt (P : Program) (t : TypeId) (d : DataW H) : Prop := ∀ n ∈ d.weights P t, n ≤ reachBytes
theorem wgt_mem {ds : List (DataW H)} {e : TypeId} (h : ∀ n ∈ DataW.weightsAll P e ds, n ≤ reachBytes) : ∀ d ∈ ds, Wgt P e d := by
  induction ds with
  | nil => intro d hd; cases hd
  | cons a r ih =>
    intro d hd
    simp only [DataW.weightsAll, List.mem_append] at h
    rcases List.mem_cons.1 hd with rfl | hd
    · exact fun n hn => h n (.inl hn)
    · exact ih (fun n hn => h n (.inr hn)) d hd
theorem wgt_slice {e : TypeId} (ht : P.underlying t = some (.slice e)) {a : Option Addr} {len cap : Nat} (h : DataW.trod enc P w base spare held fuel t [.slice a len cap] = some x) (hw : Wgt P t x.1) (hb : Nat.ble 1 (P.bytesOf e) = true) :
    len ≤ reachBytes ∧ ∀ i, i < len → ∃ aa cs n y, a = some aa ∧ w.cells? base (aa.add (i * P.cellsOf e)) (P.cellsOf e) = some cs ∧ DataW.trod enc P w base spare held n e cs = some y ∧ Wgt P e y.1 := by
  rcases DataW.trod_slice ht h with ⟨hcs, hx⟩ | ⟨aa, l, c, elems, rest, n, _, hcs, hx, _, _, _, hlen, hel, _, _⟩
  · simp only [List.cons.injEq, Value.slice.injEq, and_true] at hcs
    obtain ⟨rfl, rfl, rfl⟩ := hcs
    exact ⟨Nat.zero_le _, fun i hi => absurd hi (Nat.not_lt_zero _)⟩
  · simp only [List.cons.injEq, Value.slice.injEq, and_true] at hcs
    obtain ⟨rfl, rfl, rfl⟩ := hcs
    subst hx
    have hw' : ∀ m, m ∈ ((elems.map (·.1)).length + (rest.map (·.1)).length) * P.bytesOf e :: (DataW.weightsAll P e (elems.map (·.1)) ++ DataW.weightsAll P e (rest.map (·.1))) → m ≤ reachBytes := fun m hm => by
      refine hw m ?_
      simp only [DataW.weights, ht]
      exact hm
    have hb := Nat.le_of_ble_eq_true hb
    constructor
    · have h1 := hw' _ List.mem_cons_self
      simp only [List.length_map] at h1
      have : elems.length * 1 ≤ (elems.length + rest.length) * P.bytesOf e := Nat.mul_le_mul (Nat.le_add_right _ _) hb
      omega
    · intro i hi
      have h1 := hel i hi
      rw [List.getElem?_eq_getElem (by omega), Option.bind_eq_some_iff] at h1
      obtain ⟨cs, h2, h3⟩ := h1
      refine ⟨aa, cs, n, _, rfl, h2, h3, ?_⟩
      refine wgt_mem (ds := elems.map (·.1)) (fun m hm => hw' m (List.mem_cons_of_mem _ (List.mem_append_left _ hm))) _ ?_
      exact List.mem_map_of_mem (List.getElem_mem _)
theorem wgt_field {fs : Array Field} (ht : P.underlying t = some (.struct fs)) (h : DataW.trod enc P w base spare held fuel t cs = some x) (hw : Wgt P t x.1) {i : Nat} {f : Field} (hf : fs[i]? = some f) {T o k : Nat} {vs : List Value} (hT : f.type = T) (hO : f.offset = o) (hk : P.cellsOf T = k) (hv : (cs.drop o).take k = vs) :
    ∃ n y, DataW.trod enc P w base spare held n T vs = some y ∧ Wgt P T y.1 := by
  subst hT hO hk hv
  obtain ⟨xs, n, rfl, rfl, hl, hx, hel⟩ := DataW.trod_struct ht h
  have h1 := hel i f hf
  have hi : i < xs.length := by rw [hx]; exact (Array.getElem?_eq_some_iff.1 hf).1
  rw [List.getElem?_eq_getElem hi] at h1
  refine ⟨n, _, h1, fun m hm => hw m ?_⟩
  simp only [DataW.weights, ht]
  refine DataW.weights_mem_each (j := i) (t := f.type) (d := xs[i].1) ?_ ?_ m hm
  · rw [List.getElem?_map]
    have : fs.toList[i]? = some f := by simpa using hf
    rw [this]; rfl
  · rw [List.getElem?_map, List.getElem?_eq_getElem hi]; rfl
end

section
variable {H : Type} {enc : TypeId × Value → H} {w : World} {base : Nat} {spare : Nat → Bool} {held : Bool}
theorem lens_sys {a : Array Value} {d : DataW H} {p : List MemPlace} {s : Sy} (h : DataW.Trod enc Tryz.prog w base spare held 58 (.agg a) d p) (hw : Wgt Tryz.prog 58 d) (hS : SysV w.heap.size w a.toList s) : Lens s := by
  obtain ⟨fuel, h⟩ := h
  obtain ⟨⟨p1, c1, p2, c2, p3, c3, hvs, hco, hca, hne, hnil⟩, h6⟩ := hS
  have hH : (s.homes.flatMap homE.enc).length = 66 := by rw [flat_len, h6]; rfl
  have hcs : (Value.agg a).cells.toList = a.toList := rfl
  rw [hcs, hvs] at h
  have k3 : List.take 1 (List.drop 68 (Value.slice p1 s.cores.length c1 :: .slice p2 s.caches.length c2 :: (s.homes.flatMap homE.enc ++ [.slice p3 s.net.length c3]))) = [.slice p3 s.net.length c3] := by
    show List.take 1 (List.drop 66 (s.homes.flatMap homE.enc ++ [.slice p3 s.net.length c3])) = _
    rw [List.drop_append, List.drop_of_length_le (by omega), hH]; rfl
  obtain ⟨n0, y0, e0, w0⟩ := wgt_field (i := 0) (vs := [.slice p1 s.cores.length c1]) Tryz.underlying58 h hw rfl rfl rfl (cC 45 1 (by kernel_rfl)) rfl
  obtain ⟨n1, y1, e1, w1⟩ := wgt_field (i := 1) (vs := [.slice p2 s.caches.length c2]) Tryz.underlying58 h hw rfl rfl rfl (cC 46 1 (by kernel_rfl)) rfl
  obtain ⟨n3, y3, e3, w3⟩ := wgt_field (i := 3) Tryz.underlying58 h hw rfl rfl rfl (cC 56 1 (by kernel_rfl)) k3
  obtain ⟨l0, el0⟩ := wgt_slice Tryz.underlying45 e0 w0 (by kernel_rfl)
  obtain ⟨l1, _⟩ := wgt_slice Tryz.underlying46 e1 w1 (by kernel_rfl)
  obtain ⟨l3, _⟩ := wgt_slice Tryz.underlying56 e3 w3 (by kernel_rfl)
  refine ⟨l0, l1, l3, fun c hc => ?_⟩
  obtain ⟨i, hi, rfl⟩ := List.getElem_of_mem hc
  obtain ⟨aa, cs, n, y, rfl, hcr, htr, hwt⟩ := el0 i hi
  obtain ⟨b, o, hp, hat⟩ := hco
  obtain ⟨q, qc, _, hcb, _⟩ := hat i hi
  rcases hp with hp | hp
  · omega
  simp only [Option.some.injEq] at hp
  subst hp
  rw [cC 66 12 (by kernel_rfl), add_none] at hcr
  obtain ⟨_, _, hcc⟩ := cells_of_run (by decide) hcr
  obtain ⟨_, hcl, _⟩ := World.cells?_some hcr
  have h9 : 9 < cs.length := by omega
  have e9 : cs[9] = .slice q s.cores[i].buf.length qc := by
    have g1 := cells_at hcc (i := 9) (List.getElem?_eq_getElem h9)
    have g2 := cells_at hcb (i := 9) (v := .slice q s.cores[i].buf.length qc) rfl
    exact Option.some.inj (g1.symm.trans g2)
  have k4 : List.take 1 (List.drop 9 cs) = [.slice q s.cores[i].buf.length qc] := by
    rw [List.drop_eq_getElem_cons h9, e9]; rfl
  obtain ⟨n4, y4, e4, w4⟩ := wgt_field (i := 2) Tryz.underlying66 htr hwt rfl rfl rfl (cC 64 1 (by kernel_rfl)) k4
  exact (wgt_slice Tryz.underlying64 e4 w4 (by kernel_rfl)).1
end
end Go.Proofs.YtedeohcdcaimhaaGreatDoor
