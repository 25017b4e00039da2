/- Contracts: insertionSort of the stable sort, at messages. -/
import Derived.Test.YtflljnnndmkfkaaDoorSt1
import Derived.Test.YtflljnnndmkfkaaDoorSortP
namespace Go.Proofs.YtflljnnndmkfkaaDoor
open Go.Vc Go.RowKit Go.Sei

abbrev fsts (l : List (Tg Msg)) : List Msg := l.map Prod.fst

/-- What a sort asks of its comparison. -/
structure CmpOk (cap : Array Value) (O : MOrd Msg) (g : Nat) (Good : World → Prop) : Prop where
  run : ∀ X, Good X → ∀ m n : Msg, Calls Tryd.prog 23 ([m.val, n.val] ++ cap.toList).toArray X fun e w' => ∃ v : Int, e = .returned (.int .i64 v) ∧ decide (v < 0) = O.lt m n ∧ Below X.heap.size X w'
  keep : ∀ A B, Good A → A.grownBy B (some g) → Good B

theorem insertion_c (cp : Array Value) (O : MOrd Msg) (Good : World → Prop) (g cap a b L : Nat) (sp : List Value) (A B : List Msg) (xs : List (Tg Msg)) (w : World) (hG : Good w) (hC : CmpOk cp O g Good)
    (hr : RowM w g sp (A ++ fsts xs ++ B)) (ht : xs.Pairwise (fun x y => x.2 < y.2)) (ha : A.length = a) (hb : A.length + xs.length = b) (hL : L = (A ++ fsts xs ++ B).length) (hl : L ≤ 1000000000) :
    Calls Tryd.prog 33 #[.slice (some ⟨g, 0, none⟩) L cap, .int .i64 a, .int .i64 b, .func (.func 23) #[] cp] w
      fun e w' => (∃ v, e = .returned v) ∧ (∃ ys, Srt O ys ∧ ys.Perm xs ∧ RowM w' g sp (A ++ fsts ys ++ B)) ∧ w.grownBy w' (some g) := by
  have hL2 : L = A.length + xs.length + B.length := by rw [hL]; simp; omega
  refine calls_of_E (S := sg 53) (sgOk _) (args := [.slice (some ⟨g, 0, none⟩) L cap, .int .i64 a, .int .i64 b, .func (.func 23) #[] cp]) Tryd.func33 rfl rfl (Nat.le_of_ble_eq_true rfl) rfl ?_
  refine ⟨(a + 1 : Nat), (wrap_i64 (by omega)).trans (by omega), ?_⟩
  refine ⟨Nat × List (Tg Msg), fun s => ⟨[(0, .slice (some ⟨g, 0, none⟩) L cap), (1, .int .i64 a), (2, .int .i64 b), (3, .func (.func 23) #[] cp), (8, .int .i64 (a + s.1 : Nat))], []⟩,
    fun s W => 1 ≤ s.1 ∧ Srt O s.2 ∧ s.2.Perm (xs.take s.1) ∧ RowM W g sp (A ++ fsts s.2 ++ fsts (xs.drop s.1) ++ B) ∧ w.grownBy W (some g), fun s => xs.length - s.1, (1, xs.take 1),
    ⟨.cons rfl (.cons rfl (.cons rfl (.cons rfl (.cons rfl .nil)))), rfl⟩, ⟨Nat.le_refl _, ?_, .refl _, ?_, grown_refl _ _⟩, ?_⟩
  · cases xs with
    | nil => simp [Srt]
    | cons x r => simp [Srt]
  · have : A ++ fsts (xs.take 1) ++ fsts (xs.drop 1) ++ B = A ++ fsts xs ++ B := by
      rw [List.append_assoc A, ← List.map_append, List.take_append_drop]
    dsimp only
    rw [this]; exact hr
  rintro ⟨k, S⟩ W ⟨hk1, hS, hP, hrW, hgW⟩
  dsimp only at hk1 hS hP hrW
  refine And.intro (fun h => ?_) (fun h => ?_)
  · have h : ((a + k : Nat) : Int) < b := of_decide_eq_true h
    have hkl : k < xs.length := by omega
    have hSl : S.length = k := by rw [hP.length_eq, List.length_take]; omega
    obtain ⟨x, hx⟩ : ∃ x, x = xs[k] := ⟨_, rfl⟩
    have hxd : xs.drop k = x :: xs.drop (k + 1) := by rw [hx]; exact List.drop_eq_getElem_cons hkl
    have hlow : ∀ z ∈ S, z.2 < x.2 := fun z hz => by
      have hz : z ∈ xs.take k := hP.mem_iff.1 hz
      obtain ⟨i, hi, e⟩ := List.getElem_of_mem hz
      rw [List.length_take] at hi
      rw [List.getElem_take] at e
      rw [hx, ← e]
      exact List.pairwise_iff_getElem.1 ht i k (by omega) hkl (by omega)
    refine ⟨List (Tg Msg) × List (Tg Msg), fun s => ⟨[(0, .slice (some ⟨g, 0, none⟩) L cap), (1, .int .i64 a), (2, .int .i64 b), (3, .func (.func 23) #[] cp), (8, .int .i64 (a + k : Nat)), (9, .int .i64 (a + s.1.length : Nat))], []⟩,
      fun s V => s.1 ++ s.2 = S ∧ (∀ y ∈ s.2, lt2 O x y) ∧ RowM V g sp (A ++ fsts s.1 ++ x.1 :: (fsts s.2 ++ fsts (xs.drop (k + 1)) ++ B)) ∧ w.grownBy V (some g), fun s => s.1.length, (S, []),
      ⟨.cons rfl (.cons rfl (.cons rfl (.cons rfl (.cons rfl (.cons (by dsimp only; rw [hSl]; rfl) .nil))))), rfl⟩, ⟨by simp, by simp, ?_, hgW⟩, ?_⟩
    · rw [hxd] at hrW
      simpa using hrW
    rintro ⟨S1, S2⟩ V ⟨hSS, hlt, hrV, hgV⟩
    dsimp only at hSS hlt hrV
    have hS1l : S1.length + S2.length = k := by rw [← hSl, ← hSS]; simp
    refine DrawE.ord [] [0, 1, 2, 3, 4, 5, 6, 7, 8, 9, 10, 11, 12, 13, 14, 15, 16] (by kernel_rfl) ?_
    have fin : ∀ Z, RowM Z g sp (A ++ fsts S1 ++ x.1 :: (fsts S2 ++ fsts (xs.drop (k + 1)) ++ B)) → w.grownBy Z (some g) → (∀ z ∈ S1, lt2 O z x) →
        1 ≤ k + 1 ∧ Srt O (S1 ++ x :: S2) ∧ (S1 ++ x :: S2).Perm (xs.take (k + 1)) ∧ RowM Z g sp (A ++ fsts (S1 ++ x :: S2) ++ fsts (xs.drop (k + 1)) ++ B) ∧ w.grownBy Z (some g) := fun Z hrZ hgZ hle => by
      refine ⟨by omega, ?_, ?_, ?_, hgZ⟩
      · rw [← hSS] at hS
        obtain ⟨p1, p2, p3⟩ := List.pairwise_append.1 hS
        refine List.pairwise_append.2 ⟨p1, List.pairwise_cons.2 ⟨hlt, p2⟩, fun u hu v hv => ?_⟩
        rcases List.mem_cons.1 hv with rfl | hv
        · exact hle u hu
        · exact p3 u hu v hv
      · rw [List.take_succ_eq_append_getElem hkl, ← hx]
        refine List.perm_middle.trans ?_
        rw [hSS]
        exact (List.Perm.cons x hP).trans (List.perm_append_singleton x _).symm
      · have : A ++ fsts (S1 ++ x :: S2) ++ fsts (xs.drop (k + 1)) ++ B = A ++ fsts S1 ++ x.1 :: (fsts S2 ++ fsts (xs.drop (k + 1)) ++ B) := by
          simp only [fsts, List.map_append, List.map_cons, List.append_assoc, List.cons_append]
        rw [this]; exact hrZ
    refine And.intro (fun h2 => ?_) (fun h2 => ?_)
    · have h2 : (a : Int) < (a + S1.length : Nat) := of_decide_eq_true h2
      obtain ⟨S1', z, rfl⟩ : ∃ S1' z, S1 = S1' ++ [z] := by
        rcases List.eq_nil_or_concat S1 with e | ⟨q, r, e⟩
        · subst e; simp at h2
        · exact ⟨q, r, by rw [e, List.concat_eq_append]⟩
      have hzl : z.2 < x.2 := hlow z (by rw [← hSS]; simp)
      have r0 : RowM V.drew g sp ((A ++ fsts (S1' ++ [z])) ++ x.1 :: (fsts S2 ++ fsts (xs.drop (k + 1)) ++ B)) := hrV
      have r1 : RowM V.drew g sp ((A ++ fsts S1') ++ z.1 :: (x.1 :: (fsts S2 ++ fsts (xs.drop (k + 1)) ++ B))) := by
        have : (A ++ fsts S1') ++ z.1 :: (x.1 :: (fsts S2 ++ fsts (xs.drop (k + 1)) ++ B)) = A ++ fsts (S1' ++ [z]) ++ x.1 :: (fsts S2 ++ fsts (xs.drop (k + 1)) ++ B) := by
          simp only [fsts, List.map_append, List.map_cons, List.map_nil, List.append_assoc, List.cons_append, List.nil_append]
        rw [this]; exact hrV
      have hA0 : (A ++ fsts (S1' ++ [z])).length = a + (S1' ++ [z]).length := by simp; omega
      have hA1 : (A ++ fsts S1').length = a + S1'.length := by simp; omega
      have hlz : (S1' ++ [z]).length = S1'.length + 1 := by simp
      have hgl := r0.lt
      refine ⟨a + (S1' ++ [z]).length, rfl, by omega, ?_⟩
      refine ⟨x.1.enc, rfl, r0.mid hA0, hgl, ?_⟩
      refine ⟨(a + S1'.length : Nat), (wrap_i64 (by first | omega | (dsimp only; omega))).trans (by first | omega | (dsimp only; omega)), ?_⟩
      refine ⟨a + S1'.length, rfl, by omega, ?_⟩
      refine ⟨z.1.enc, rfl, r1.mid hA1, hgl, ?_⟩
      refine Calls.mono (hC.run V.drew (hC.keep _ _ (hC.keep _ _ hG hgV) (grown_of_below (Below.refl _ V).drew)) x.1 z.1) ?_
      rintro e V2 ⟨v, rfl, hv, hbV⟩
      refine ⟨hbV, ?_⟩
      have hgV2 : w.grownBy V2 (some g) := grown_trans hgV (grown_trans (grown_of_below (Below.refl _ V).drew) (grown_of_below hbV))
      refine And.intro (fun h3 => ?_) (fun h3 => ?_)
      · have h3 : O.lt x.1 z.1 = true := by rw [← hv]; exact h3
        have q0 : RowM V2.drew g sp ((A ++ fsts S1') ++ z.1 :: (x.1 :: (fsts S2 ++ fsts (xs.drop (k + 1)) ++ B))) := r1.below hbV.drew
        have q1 : RowM V2.drew g sp ((A ++ fsts (S1' ++ [z])) ++ x.1 :: (fsts S2 ++ fsts (xs.drop (k + 1)) ++ B)) := r0.below hbV.drew
        have hgl2 := q0.lt
        refine DrawE.ord [15, 17] [0, 1, 2, 3, 4, 5, 6, 7, 8, 9, 10, 11, 12, 13, 14, 15, 16, 17] (by kernel_rfl) ?_
        refine ⟨(a + S1'.length : Nat), (wrap_i64 (by first | omega | (dsimp only; omega))).trans (by first | omega | (dsimp only; omega)), ?_⟩
        refine ⟨(a + S1'.length : Nat), (wrap_i64 (by first | omega | (dsimp only; omega))).trans (by first | omega | (dsimp only; omega)), ?_⟩
        refine ⟨a + S1'.length, rfl, by omega, ?_⟩
        refine ⟨z.1.enc, rfl, q0.mid hA1, hgl2, ?_⟩
        refine ⟨a + (S1' ++ [z]).length, rfl, by omega, ?_⟩
        refine ⟨x.1.enc, rfl, q1.mid hA0, hgl2, ?_⟩
        refine ⟨a + (S1' ++ [z]).length, rfl, by omega, ?_⟩
        refine store_mid (ttOk.get 30 _ rfl) rfl q1 hA0 z.1 fun V3 s1 g1 z1 => ?_
        refine ⟨a + S1'.length, rfl, by omega, ?_⟩
        have s2 : RowM V3 g sp ((A ++ fsts S1') ++ z.1 :: (z.1 :: (fsts S2 ++ fsts (xs.drop (k + 1)) ++ B))) := by
          have : (A ++ fsts S1') ++ z.1 :: (z.1 :: (fsts S2 ++ fsts (xs.drop (k + 1)) ++ B)) = A ++ fsts (S1' ++ [z]) ++ z.1 :: (fsts S2 ++ fsts (xs.drop (k + 1)) ++ B) := by
            simp only [fsts, List.map_append, List.map_cons, List.map_nil, List.append_assoc, List.cons_append, List.nil_append]
          rw [this]; exact s1
        refine store_mid (ttOk.get 30 _ rfl) rfl s2 hA1 x.1 fun V4 s3 g2 z2 => ?_
        refine ⟨(a + S1'.length : Nat), (wrap_i64 (by first | omega | (dsimp only; omega))).trans (by first | omega | (dsimp only; omega)), ?_⟩
        refine ⟨(S1', z :: S2), ⟨.cons rfl (.cons rfl (.cons rfl (.cons rfl (.cons rfl (.cons rfl .nil))))), rfl⟩, ⟨by rw [← hSS]; simp, ?_, s3, grown_trans hgV2 (grown_trans (grown_of_below (Below.refl _ V2).drew) (grown_trans g1 g2))⟩, by dsimp only; omega⟩
        intro y hy
        rcases List.mem_cons.1 hy with rfl | hy
        · exact .inl h3
        · exact hlt y hy
      · have h3 : O.lt x.1 z.1 = false := by rw [← hv]; exact h3
        refine ⟨(a + (k + 1) : Nat), (wrap_i64 (by first | omega | (dsimp only; omega))).trans (by first | omega | (dsimp only; omega)), ?_⟩
        refine ⟨(k + 1, (S1' ++ [z]) ++ x :: S2), ⟨.cons rfl (.cons rfl (.cons rfl (.cons rfl (.cons rfl .nil)))), rfl⟩, fin V2 (r0.below hbV) hgV2 ?_, by dsimp only; omega⟩
        intro u hu
        have hzx : lt2 O z x := .inr ⟨h3, hzl⟩
        rcases List.mem_append.1 hu with hu | hu
        · refine lt2_trans ?_ hzx
          rw [← hSS] at hS
          exact (List.pairwise_append.1 (List.pairwise_append.1 hS).1).2.2 u hu z (by simp)
        · simp at hu; rw [hu]; exact hzx
    · have h2 : ¬ (a : Int) < (a + S1.length : Nat) := of_decide_eq_false h2
      have : S1 = [] := List.eq_nil_of_length_eq_zero (by omega)
      subst this
      refine And.intro (fun h => by cases h) (fun _ => ?_)
      refine ⟨(a + (k + 1) : Nat), (wrap_i64 (by first | omega | (dsimp only; omega))).trans (by first | omega | (dsimp only; omega)), ?_⟩
      exact ⟨(k + 1, [] ++ x :: S2), ⟨.cons rfl (.cons rfl (.cons rfl (.cons rfl (.cons rfl .nil)))), rfl⟩, fin V.drew hrV (grown_trans hgV (grown_of_below (Below.refl _ V).drew)) (by simp), by dsimp only; omega⟩
  · have h : ¬ ((a + k : Nat) : Int) < b := of_decide_eq_false h
    rw [List.take_of_length_le (by omega)] at hP
    rw [List.drop_of_length_le (by omega)] at hrW
    exact And.intro ⟨_, rfl⟩ (And.intro ⟨S, hS, hP, by simpa using hrW⟩ hgW)
end Go.Proofs.YtflljnnndmkfkaaDoor
