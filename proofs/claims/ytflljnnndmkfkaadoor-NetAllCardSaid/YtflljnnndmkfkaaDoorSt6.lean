/- Contracts: the stable sort of messages (stableCmpFunc, SortStableFunc). -/
import Derived.Test.YtflljnnndmkfkaaDoorSt5
namespace Go.Proofs.YtflljnnndmkfkaaDoor
open Go.Vc Go.RowKit Go.Sei

def Cross (c d : List (Tg Msg)) : Prop := ∀ x ∈ c, ∀ y ∈ d, x.2 < y.2
/-- Blocks of bs, each sorted, and a last one that is shorter. -/
structure Bks (O : MOrd Msg) (bs : Nat) (ls : List (List (Tg Msg))) (T : List (Tg Msg)) : Prop where
  len : ∀ c ∈ ls, c.length = bs
  srt : ∀ c ∈ ls, Srt O c
  last : T.length < bs
  slast : Srt O T
  cross : (ls ++ [T]).Pairwise Cross

theorem cross_swap {P Q : List (List (Tg Msg))} {c1 c2 S : List (Tg Msg)} (h : (P ++ c1 :: c2 :: Q).Pairwise Cross) (hS : S.Perm (c1 ++ c2)) : (P ++ S :: Q).Pairwise Cross := by
  have hm : ∀ x, x ∈ S ↔ x ∈ c1 ∨ x ∈ c2 := fun x => by rw [hS.mem_iff, List.mem_append]
  simp only [List.pairwise_append, List.pairwise_cons, List.mem_cons] at h ⊢
  obtain ⟨h1, ⟨h2, h3, h4⟩, h5⟩ := h
  refine ⟨h1, ⟨fun d hd x hx y hy => ?_, h4⟩, fun c hc d hd => ?_⟩
  · rcases (hm x).1 hx with hx | hx
    · exact h2 d (.inr hd) x hx y hy
    · exact h3 d hd x hx y hy
  · rcases hd with rfl | hd
    · intro x hx y hy
      rcases (hm y).1 hy with hy | hy
      · exact h5 c hc c1 (.inl rfl) x hx y hy
      · exact h5 c hc c2 (.inr (.inl rfl)) x hx y hy
    · exact h5 c hc d (.inr (.inr hd))
theorem cross_perm {P Q : List (List (Tg Msg))} {c S : List (Tg Msg)} (h : (P ++ c :: Q).Pairwise Cross) (hS : S.Perm c) : (P ++ S :: Q).Pairwise Cross := by
  simp only [List.pairwise_append, List.pairwise_cons, List.mem_cons] at h ⊢
  obtain ⟨h1, ⟨h2, h3⟩, h5⟩ := h
  refine ⟨h1, ⟨fun d hd x hx y hy => h2 d hd x (hS.mem_iff.1 hx) y hy, h3⟩, fun c' hc d hd => ?_⟩
  rcases hd with rfl | hd
  · exact fun x hx y hy => h5 c' hc c (.inl rfl) x hx y (hS.mem_iff.1 hy)
  · exact h5 c' hc d (.inr hd)
theorem cross_split {P : List (List (Tg Msg))} {c d : List (Tg Msg)} (h : (P ++ [c ++ d]).Pairwise Cross) (hcd : Cross c d) : (P ++ [c, d]).Pairwise Cross := by
  simp only [List.pairwise_append, List.pairwise_cons, List.mem_cons, List.not_mem_nil, or_false] at h ⊢
  obtain ⟨h1, _, h5⟩ := h
  refine ⟨h1, ⟨fun _ e => e ▸ hcd, fun _ h => h.elim, List.Pairwise.nil⟩, fun c' hc e he => ?_⟩
  rcases he with rfl | rfl
  · exact fun x hx y hy => h5 c' hc _ rfl x hx y (List.mem_append_left _ hy)
  · exact fun x hx y hy => h5 c' hc _ rfl x hx y (List.mem_append_right _ hy)
theorem cross_mid {P Q : List (List (Tg Msg))} {c d : List (Tg Msg)} (h : (P ++ c :: d :: Q).Pairwise Cross) : Cross c d :=
  (List.pairwise_cons.1 (List.pairwise_append.1 h).2.1).1 d List.mem_cons_self

abbrev stEnv (cp : Array Value) (g cap L : Nat) : VEnv := [(0, .slice (some ⟨g, 0, none⟩) L cap), (1, .int .i64 L), (2, .func (.func 23) #[] cp)]

theorem stable_c (cp : Array Value) (O : MOrd Msg) (Good : World → Prop) (g cap L : Nat) (sp : List Value) (xs : List (Tg Msg)) (w : World) (hC : CmpOk cp O g Good) (hl : L ≤ 1000000000) (hG : Good w)
    (hr : RowM w g sp (fsts xs)) (ht : xs.Pairwise (fun x y => x.2 < y.2)) (hL : L = xs.length) :
    Calls Tryd.prog 29 #[.slice (some ⟨g, 0, none⟩) L cap, .int .i64 L, .func (.func 23) #[] cp] w
      fun e w' => (∃ v, e = .returned v) ∧ (∃ ys, Srt O ys ∧ ys.Perm xs ∧ RowM w' g sp (fsts ys)) ∧ w.grownBy w' (some g) := by
  refine calls_of_M (S := sg 63) (sgOk _) (args := [.slice (some ⟨g, 0, none⟩) L cap, .int .i64 L, .func (.func 23) #[] cp]) (.s .p (.s .p (.s .p (.c .p (.b (.l (.s .p (.b (.s .p (.c .p (.c .p .p)))))))))))
    Tryd.func29 rfl rfl (Nat.le_of_ble_eq_true rfl) rfl ?_
  refine ⟨List (List (Tg Msg)) × List (Tg Msg), fun s => ⟨stEnv cp g cap L ++ [(6, .int .i64 20), (7, .int .i64 s.1.flatten.length), (8, .int .i64 (s.1.flatten.length + 20 : Nat))], []⟩,
    fun s V => (∀ c ∈ s.1, c.length = 20) ∧ (∀ c ∈ s.1, Srt O c) ∧ (s.1 ++ [s.2]).Pairwise Cross ∧ s.2.Pairwise (fun x y => x.2 < y.2) ∧ (s.1.flatten ++ s.2).Perm xs ∧ RowM V g sp (fsts (s.1.flatten ++ s.2)) ∧ w.grownBy V (some g),
    fun s => s.2.length, ([], xs), ⟨.cons rfl (.cons rfl (.cons rfl (.cons rfl (.cons rfl (.cons rfl .nil))))), rfl⟩, ⟨by simp, by simp, by simp, ht, by simp, by simpa using hr, grown_refl _ _⟩, ?_⟩
  rintro ⟨ls, R⟩ V ⟨i1, i2, i3, i4, i5, hrV, hgV⟩
  dsimp only at i1 i2 i3 i4 i5 hrV
  have hln : ls.flatten.length + R.length = L := by rw [hL, ← i5.length_eq, List.length_append]
  refine And.intro (fun h => ?_) (fun h => ?_)
  · have h : ((ls.flatten.length + 20 : Nat) : Int) ≤ L := of_decide_eq_true h
    obtain ⟨X, hX⟩ : ∃ X, X = R.take 20 := ⟨_, rfl⟩
    obtain ⟨Y, hY⟩ : ∃ Y, Y = R.drop 20 := ⟨_, rfl⟩
    have hXY : X ++ Y = R := by rw [hX, hY]; exact List.take_append_drop _ _
    have hXl : X.length = 20 := by rw [hX, List.length_take]; omega
    rw [← hXY] at hrV i4 i5 i3
    have i4' := List.pairwise_append.1 i4
    refine Calls.mono (insertion_c cp O Good g cap ls.flatten.length (ls.flatten.length + 20) L sp (fsts ls.flatten) (fsts Y) X V (hC.keep _ _ hG hgV) hC (by simpa [fsts] using hrV) i4'.1 (List.length_map _) (by simp only [fsts, List.length_map, List.length_append]; omega) (by rw [← hXY] at hln; simp only [fsts, List.length_map, List.length_append] at hln ⊢; omega) hl) ?_
    rintro e V2 ⟨⟨v, rfl⟩, ⟨S, q1, q2, q3⟩, hgV2⟩
    have hSl : S.length = 20 := by rw [q2.length_eq, hXl]
    have hfl : (ls ++ [S]).flatten = ls.flatten ++ S := by simp
    refine ⟨(ls.flatten.length + 20 + 20 : Nat), (wrap_i64 (by first | omega | (dsimp only; omega))).trans (by first | omega | (dsimp only; omega)), ?_⟩
    refine ⟨(ls ++ [S], Y), ⟨.cons rfl (.cons rfl (.cons rfl (.cons rfl (.cons (by dsimp only; rw [hfl, List.length_append, hSl]; rfl) (.cons (by dsimp only; rw [hfl, List.length_append, hSl]; rfl) .nil))))), rfl⟩, ⟨?_, ?_, ?_, i4'.2.1, ?_, ?_, grown_trans hgV hgV2⟩, ?_⟩
    · intro c hc
      rcases List.mem_append.1 hc with hc | hc
      · exact i1 c hc
      · simp at hc; rw [hc]; exact hSl
    · intro c hc
      rcases List.mem_append.1 hc with hc | hc
      · exact i2 c hc
      · simp at hc; rw [hc]; exact q1
    · have := cross_perm (cross_split i3 i4'.2.2) q2
      simpa using this
    · dsimp only; rw [hfl, List.append_assoc]
      exact (List.Perm.append_left _ (List.Perm.append_right _ q2)).trans i5
    · dsimp only; rw [hfl]; simpa [fsts] using q3
    · rw [← hXY]; simp; omega
  have h : ¬ ((ls.flatten.length + 20 : Nat) : Int) ≤ L := of_decide_eq_false h
  refine ⟨List (List (Tg Msg)) × List (Tg Msg), fun s => ⟨stEnv cp g cap L ++ [(6, .int .i64 20)], []⟩,
    fun s V => Bks O 20 s.1 s.2 ∧ (s.1.flatten ++ s.2).Perm xs ∧ RowM V g sp (fsts (s.1.flatten ++ s.2)) ∧ w.grownBy V (some g), ?_, ?_⟩
  · refine Calls.mono (insertion_c cp O Good g cap ls.flatten.length L L sp (fsts ls.flatten) [] R V (hC.keep _ _ hG hgV) hC (by simpa [fsts] using hrV) i4 (List.length_map _) (by simp only [fsts, List.length_map, List.length_append]; omega) (by simp only [fsts, List.length_map, List.length_append, List.length_nil]; omega) hl) ?_
    rintro e V2 ⟨⟨v, rfl⟩, ⟨S, q1, q2, q3⟩, hgV2⟩
    refine ⟨(ls, S), ⟨.cons rfl (.cons rfl (.cons rfl (.cons rfl .nil))), rfl⟩, ⟨i1, i2, by rw [q2.length_eq]; omega, q1, cross_perm i3 q2⟩, (List.Perm.append_left _ q2).trans i5, by simpa [fsts] using q3, grown_trans hgV hgV2⟩
  rintro ⟨ls, T⟩ V ⟨hB, hP, hrV, hgV⟩
  refine ⟨Nat × List (List (Tg Msg)) × List (Tg Msg), fun s => ⟨stEnv cp g cap L ++ [(6, .int .i64 s.1)], []⟩,
    fun s V => 0 < s.1 ∧ s.1 ≤ 2000000000 ∧ Bks O s.1 s.2.1 s.2.2 ∧ (s.2.1.flatten ++ s.2.2).Perm xs ∧ RowM V g sp (fsts (s.2.1.flatten ++ s.2.2)) ∧ w.grownBy V (some g), fun s => L - s.1, (20, ls, T),
    ⟨.cons rfl (.cons rfl (.cons rfl (.cons rfl .nil))), rfl⟩, ⟨by dsimp only; omega, by dsimp only; omega, hB, hP, hrV, hgV⟩, ?_⟩
  rintro ⟨bs, ls, T⟩ V ⟨hb0, hb1, hB, hP, hrV, hgV⟩
  dsimp only at hb0 hb1 hB hP hrV
  have hln : ls.flatten.length + T.length = L := by rw [hL, ← hP.length_eq, List.length_append]
  refine And.intro (fun h => ?_) (fun h => ?_)
  · have h : (bs : Int) < L := of_decide_eq_true h
    refine ⟨(2 * bs : Nat), (wrap_i64 (by first | omega | (dsimp only; omega))).trans (by first | omega | (dsimp only; omega)), ?_⟩
    refine ⟨List (List (Tg Msg)) × List (List (Tg Msg)), fun s => ⟨stEnv cp g cap L ++ [(6, .int .i64 bs), (7, .int .i64 s.1.flatten.length)], []⟩,
      fun s V => (∀ c ∈ s.1, c.length = 2 * bs) ∧ (∀ c ∈ s.1, Srt O c) ∧ (∀ c ∈ s.2, c.length = bs) ∧ (∀ c ∈ s.2, Srt O c) ∧ s.2.length ≤ 1 ∧ (s.1 ++ (s.2 ++ [T])).Pairwise Cross ∧
        (s.1.flatten ++ (s.2.flatten ++ T)).Perm xs ∧ RowM V g sp (fsts (s.1.flatten ++ (s.2.flatten ++ T))) ∧ w.grownBy V (some g), ?_, ?_⟩
    · refine ⟨List (List (Tg Msg)) × List (List (Tg Msg)), fun s => ⟨stEnv cp g cap L ++ [(6, .int .i64 bs), (7, .int .i64 s.1.flatten.length), (8, .int .i64 (s.1.flatten.length + 2 * bs : Nat))], []⟩,
        fun s V => (∀ c ∈ s.1, c.length = 2 * bs) ∧ (∀ c ∈ s.1, Srt O c) ∧ (∀ c ∈ s.2, c.length = bs) ∧ (∀ c ∈ s.2, Srt O c) ∧ (s.1 ++ (s.2 ++ [T])).Pairwise Cross ∧
          (s.1.flatten ++ (s.2.flatten ++ T)).Perm xs ∧ RowM V g sp (fsts (s.1.flatten ++ (s.2.flatten ++ T))) ∧ w.grownBy V (some g), fun s => s.2.length, ([], ls),
        ⟨.cons rfl (.cons rfl (.cons rfl (.cons rfl (.cons rfl (.cons (by dsimp only; rw [show (([] : List (List (Tg Msg))).flatten.length + 2 * bs) = 2 * bs from Nat.zero_add _]; rfl) .nil))))), rfl⟩, ⟨by simp, by simp, hB.len, hB.srt, by simpa using hB.cross, by simpa using hP, by simpa using hrV, hgV⟩, ?_⟩
      rintro ⟨ds, rs⟩ V ⟨i1, i2, i3, i4, i5, hP, hrV, hgV⟩
      dsimp only at i1 i2 i3 i4 i5 hP hrV
      have hlen : ds.flatten.length + (rs.flatten.length + T.length) = L := by rw [hL, ← hP.length_eq, List.length_append, List.length_append]
      refine And.intro (fun h => ?_) (fun h => ?_)
      · have h : ((ds.flatten.length + 2 * bs : Nat) : Int) ≤ L := of_decide_eq_true h
        have hTl := hB.last
        match rs, i3, i4, i5, hP, hrV, hlen with
        | [], _, _, _, _, _, hlen => simp only [List.flatten_cons, List.flatten_nil, List.append_nil, List.length_nil] at hlen; omega
        | [c], i3, _, _, _, _, hlen => have := i3 c (by simp); simp only [List.flatten_cons, List.flatten_nil, List.append_nil, List.length_nil] at hlen; omega
        | c1 :: c2 :: rs, i3, i4, i5, hP, hrV, hlen =>
          have l1 := i3 c1 (by simp)
          have l2 := i3 c2 (by simp)
          have e1 : ds.flatten ++ ((c1 :: c2 :: rs).flatten ++ T) = ds.flatten ++ c1 ++ c2 ++ (rs.flatten ++ T) := by simp
          simp only [List.flatten_cons, List.length_append] at hlen
          rw [e1] at hrV hP
          refine ⟨(ds.flatten.length + bs : Nat), (wrap_i64 (by first | omega | (dsimp only; omega))).trans (by first | omega | (dsimp only; omega)), ?_⟩
          refine Calls.mono (sym_c cp O Good g cap L sp hC hl (c1.length + c2.length) ds.flatten.length (ds.flatten.length + bs) (ds.flatten.length + 2 * bs) (fsts ds.flatten) (fsts (rs.flatten ++ T)) c1 c2 V (Nat.le_refl _) (by omega) (by omega) (hC.keep _ _ hG hgV)
            (by simpa [fsts] using hrV) (i4 c1 (by simp)) (i4 c2 (by simp)) (cross_mid (P := ds) (Q := rs ++ [T]) (by simpa using i5)) (List.length_map _) (by simp only [fsts, List.length_map, List.length_append]; omega) (by simp only [fsts, List.length_map, List.length_append]; omega) (by simp only [fsts, List.length_map, List.length_append, List.length_nil]; omega)) ?_
          rintro e V2 ⟨⟨v, rfl⟩, ⟨S, q1, q2, q3⟩, hgV2⟩
          have hSl : S.length = 2 * bs := by rw [q2.length_eq, List.length_append]; omega
          have hfl : (ds ++ [S]).flatten = ds.flatten ++ S := by simp
          refine ⟨(2 * bs : Nat), (wrap_i64 (by first | omega | (dsimp only; omega))).trans (by first | omega | (dsimp only; omega)), ?_⟩
          refine ⟨(ds.flatten.length + 2 * bs + 2 * bs : Nat), (wrap_i64 (by first | omega | (dsimp only; omega))).trans (by first | omega | (dsimp only; omega)), ?_⟩
          refine ⟨(ds ++ [S], rs), ⟨.cons rfl (.cons rfl (.cons rfl (.cons rfl (.cons (by dsimp only; rw [hfl, List.length_append, hSl]; rfl) (.cons (by dsimp only; rw [hfl, List.length_append, hSl]; rfl) .nil))))), rfl⟩,
            ⟨?_, ?_, fun c hc => i3 c (by simp [hc]), fun c hc => i4 c (by simp [hc]), ?_, ?_, ?_, grown_trans hgV hgV2⟩, by dsimp only; simp only [List.length_cons]; omega⟩
          · intro c hc
            rcases List.mem_append.1 hc with hc | hc
            · exact i1 c hc
            · simp at hc; rw [hc]; exact hSl
          · intro c hc
            rcases List.mem_append.1 hc with hc | hc
            · exact i2 c hc
            · simp at hc; rw [hc]; exact q1
          · have := cross_swap (P := ds) (Q := rs ++ [T]) (by simpa using i5) q2
            simpa using this
          · dsimp only; rw [hfl]
            refine List.Perm.trans ?_ hP
            rw [List.append_assoc, List.append_assoc, List.append_assoc, ← List.append_assoc c1]
            exact List.Perm.append_left _ (List.Perm.append_right _ q2)
          · dsimp only; rw [hfl]; simpa [fsts] using q3
      · have h : ¬ ((ds.flatten.length + 2 * bs : Nat) : Int) ≤ L := of_decide_eq_false h
        refine ⟨(ds, rs), ⟨.cons rfl (.cons rfl (.cons rfl (.cons rfl (.cons rfl .nil)))), rfl⟩, i1, i2, i3, i4, ?_, i5, hP, hrV, hgV⟩
        match rs, i3, hlen with
        | [], _, _ => simp
        | [c], _, _ => simp
        | c1 :: c2 :: rs, i3, hlen =>
          have l1 := i3 c1 (by simp)
          have l2 := i3 c2 (by simp)
          simp only [List.flatten_cons, List.length_append] at hlen
          omega
    rintro ⟨ds, rs⟩ V ⟨i1, i2, i3, i4, i6, i5, hP, hrV, hgV⟩
    dsimp only at i1 i2 i3 i4 i5 i6 hP hrV
    have hlen : ds.flatten.length + (rs.flatten.length + T.length) = L := by rw [hL, ← hP.length_eq, List.length_append, List.length_append]
    have hTl := hB.last
    refine ⟨List (Tg Msg), fun _ => ⟨stEnv cp g cap L ++ [(6, .int .i64 bs)], []⟩,
      fun T' V => Bks O (2 * bs) ds T' ∧ (ds.flatten ++ T').Perm xs ∧ RowM V g sp (fsts (ds.flatten ++ T')) ∧ w.grownBy V (some g), ?_, ?_⟩
    rotate_left
    · rintro T' V ⟨hB', hP', hrV', hgV'⟩
      refine ⟨(2 * bs : Nat), (wrap_i64 (by first | omega | (dsimp only; omega))).trans (by first | omega | (dsimp only; omega)), ?_⟩
      exact ⟨(2 * bs, ds, T'), ⟨.cons rfl (.cons rfl (.cons rfl (.cons rfl .nil))), rfl⟩, ⟨by dsimp only; omega, by dsimp only; omega, hB', hP', hrV', hgV'⟩, by dsimp only; omega⟩
    refine ⟨(ds.flatten.length + bs : Nat), (wrap_i64 (by first | omega | (dsimp only; omega))).trans (by first | omega | (dsimp only; omega)), ?_⟩
    refine And.intro (fun h => ?_) (fun h => ?_)
    · have h : ((ds.flatten.length + bs : Nat) : Int) < L := of_decide_eq_true h
      match rs, i3, i4, i5, hP, hrV, hlen with
      | [], _, _, _, _, _, hlen => simp only [List.flatten_cons, List.flatten_nil, List.append_nil, List.length_nil] at hlen; omega
      | c1 :: c2 :: rs, _, _, _, _, _, _ => simp at i6
      | [c], i3, i4, i5, hP, hrV, hlen =>
        have l1 := i3 c (by simp)
        have e1 : ds.flatten ++ ([c].flatten ++ T) = ds.flatten ++ c ++ T := by simp
        simp only [List.flatten_cons, List.flatten_nil, List.append_nil] at hlen
        rw [e1] at hrV hP
        refine Calls.mono (sym_c cp O Good g cap L sp hC hl (c.length + T.length) ds.flatten.length (ds.flatten.length + bs) L (fsts ds.flatten) [] c T V (Nat.le_refl _) (by omega) (by omega) (hC.keep _ _ hG hgV)
          (by simpa [fsts] using hrV) (i4 c (by simp)) hB.slast (cross_mid (P := ds) (Q := []) (by simpa using i5)) (List.length_map _) (by simp only [fsts, List.length_map, List.length_append]; omega) (by simp only [fsts, List.length_map, List.length_append]; omega) (by simp only [fsts, List.length_map, List.length_append, List.length_nil]; omega)) ?_
        rintro e V2 ⟨⟨v, rfl⟩, ⟨S, q1, q2, q3⟩, hgV2⟩
        refine ⟨S, ⟨.cons rfl (.cons rfl (.cons rfl (.cons rfl .nil))), rfl⟩, ⟨i1, i2, by rw [q2.length_eq, List.length_append]; omega, q1, cross_swap (P := ds) (Q := []) (by simpa using i5) q2⟩, ?_, by simpa [fsts] using q3, grown_trans hgV hgV2⟩
        refine List.Perm.trans ?_ hP
        rw [List.append_assoc]
        exact List.Perm.append_left _ q2
    · have h : ¬ ((ds.flatten.length + bs : Nat) : Int) < L := of_decide_eq_false h
      match rs, i3, i4, i5, hP, hrV, hlen with
      | c1 :: c2 :: rs, _, _, _, _, _, _ => simp at i6
      | [], _, _, i5, hP, hrV, hlen =>
        exact ⟨T, ⟨.cons rfl (.cons rfl (.cons rfl (.cons rfl .nil))), rfl⟩, ⟨i1, i2, by omega, hB.slast, by simpa using i5⟩, by simpa using hP, by simpa using hrV, hgV⟩
      | [c], i3, i4, i5, hP, hrV, hlen =>
        have l1 := i3 c (by simp)
        simp only [List.flatten_cons, List.flatten_nil, List.append_nil] at hlen
        have hT : T = [] := List.eq_nil_of_length_eq_zero (by omega)
        refine ⟨c, ⟨.cons rfl (.cons rfl (.cons rfl (.cons rfl .nil))), rfl⟩, ⟨i1, i2, by omega, i4 c (by simp), ?_⟩, by simpa [hT] using hP, by simpa [hT] using hrV, hgV⟩
        have := cross_swap (P := ds) (Q := []) (c1 := c) (c2 := T) (S := c) (by simpa using i5) (by rw [hT, List.append_nil])
        exact this
  · have h : ¬ (bs : Int) < L := of_decide_eq_false h
    have hTl := hB.last
    refine And.intro ⟨_, rfl⟩ (And.intro ?_ hgV)
    match ls, hB, hP, hrV, hln with
    | [], hB, hP, hrV, hln => exact ⟨T, hB.slast, by simpa using hP, by simpa using hrV⟩
    | [c], hB, hP, hrV, hln =>
      have l1 := hB.len c (by simp)
      simp only [List.flatten_cons, List.flatten_nil, List.append_nil] at hln
      have hT : T = [] := List.eq_nil_of_length_eq_zero (by omega)
      exact ⟨c, hB.srt c (by simp), by simpa [hT] using hP, by simpa [hT] using hrV⟩
    | c1 :: c2 :: rs, hB, hP, hrV, hln =>
      have l1 := hB.len c1 (by simp)
      have l2 := hB.len c2 (by simp)
      simp only [List.flatten_cons, List.length_append] at hln
      omega

theorem sortStable_c (cp : Array Value) (O : MOrd Msg) (Good : World → Prop) (g cap L : Nat) (sp : List Value) (xs : List (Tg Msg)) (w : World) (hC : CmpOk cp O g Good) (hl : L ≤ 1000000000) (hG : Good w)
    (hr : RowM w g sp (fsts xs)) (ht : xs.Pairwise (fun x y => x.2 < y.2)) (hL : L = xs.length) :
    Calls Tryd.prog 22 #[.slice (some ⟨g, 0, none⟩) L cap, .func (.func 23) #[] cp] w
      fun e w' => (∃ v, e = .returned v) ∧ (∃ ys, Srt O ys ∧ ys.Perm xs ∧ RowM w' g sp (fsts ys)) ∧ w.grownBy w' (some g) := by
  refine calls_of_E (S := sg 9) (sgOk _) (args := [.slice (some ⟨g, 0, none⟩) L cap, .func (.func 23) #[] cp]) Tryd.func22 rfl rfl (Nat.le_of_ble_eq_true rfl) rfl ?_
  refine Calls.mono (stable_c cp O Good g cap L sp xs w hC hl hG hr ht hL) ?_
  rintro e V ⟨⟨v, rfl⟩, h1, h2⟩
  exact And.intro ⟨_, rfl⟩ (And.intro h1 h2)
end Go.Proofs.YtflljnnndmkfkaaDoor
