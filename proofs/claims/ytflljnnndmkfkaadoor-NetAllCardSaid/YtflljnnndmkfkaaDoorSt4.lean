/- Contracts: symMerge of the stable sort, at messages: one element on the right. -/
import Derived.Test.YtflljnnndmkfkaaDoorSt3
namespace Go.Proofs.YtflljnnndmkfkaaDoor
open Go.Vc Go.RowKit Go.Sei

theorem sym_r (cp : Array Value) (O : MOrd Msg) (Good : World → Prop) (g cap L : Nat) (sp : List Value) (hC : CmpOk cp O g Good) (hl : L ≤ 1000000000)
    (a m b : Nat) (A B : List Msg) (l r : List (Tg Msg)) (w : World) (hn1 : l.length ≠ 1) (hone : r.length = 1) (hl0 : 0 < l.length) (hr0 : 0 < r.length) (hG : Good w) (hr : RowM w g sp (A ++ fsts l ++ fsts r ++ B)) (hSl : Srt O l) (hSr : Srt O r) (hX : ∀ x ∈ l, ∀ y ∈ r, x.2 < y.2)
    (ha : A.length = a) (hm : A.length + l.length = m) (hb : A.length + l.length + r.length = b) (hL : L = (A ++ fsts l ++ fsts r ++ B).length) :
    Calls Tryd.prog 34 #[.slice (some ⟨g, 0, none⟩) L cap, .int .i64 a, .int .i64 m, .int .i64 b, .func (.func 23) #[] cp] w
      fun e w' => (∃ v, e = .returned v) ∧ (∃ ys, Srt O ys ∧ ys.Perm (l ++ r) ∧ RowM w' g sp (A ++ fsts ys ++ B)) ∧ w.grownBy w' (some g) := by
  have hL2 : L = A.length + l.length + r.length + B.length := by rw [hL]; simp; omega
  refine calls_of_M (S := sg 220) (sgOk _) (args := [.slice (some ⟨g, 0, none⟩) L cap, .int .i64 a, .int .i64 m, .int .i64 b, .func (.func 23) #[] cp]) (.c .p (.s (.s .p (.d (.s .p (.s .p (.c .p .p))) .p)) .p)) Tryd.func34 rfl rfl (Nat.le_of_ble_eq_true rfl) rfl ?_
  refine ⟨Unit, fun _ => ⟨[(0, .slice (some ⟨g, 0, none⟩) L cap), (1, .int .i64 a), (2, .int .i64 m), (3, .int .i64 b), (4, .func (.func 23) #[] cp)], []⟩, fun _ V => w = V, ?_, ?_⟩
  rotate_left
  · rintro _ _ rfl
    refine ⟨(r.length : Nat), (wrap_i64 (by omega)).trans (by omega), ?_⟩
    refine And.intro (fun h => ?_) (fun h2 => ?_)
    · have h : (r.length : Int) = 1 := of_decide_eq_true h
      obtain ⟨y, rfl⟩ : ∃ y, r = [y] := List.length_eq_one_iff.1 (by omega)
      have hXy : ∀ x ∈ l, x.2 < y.2 := fun x hx => hX x hx y (by simp)
      have hyl : (A ++ fsts l ++ fsts [y] ++ B)[m]? = some y.1 := by rw [← hm]; exact row_r A B l [y] (k := 0) (by simp)
      refine ⟨Nat, fun q => ⟨[(0, .slice (some ⟨g, 0, none⟩) L cap), (1, .int .i64 a), (2, .int .i64 m), (3, .int .i64 b), (4, .func (.func 23) #[] cp), (14, .int .i64 (a + q : Nat))], []⟩,
        fun q V => q ≤ l.length ∧ (q = 0 ∨ ∃ z, l[q - 1]? = some z ∧ O.lt y.1 z.1 = false) ∧ (q = l.length ∨ ∃ z, l[q]? = some z ∧ O.lt y.1 z.1 = true) ∧ RowM V g sp (A ++ fsts l ++ fsts [y] ++ B) ∧ w.grownBy V (some g), ?_, ?_⟩
      rotate_left
      · rintro q V ⟨hqr, hp, hq, hrV, hgV⟩
        have hmm : m = a + l.length := by omega
        have hLL : a + l.length + 1 ≤ L := by simp at hL2; omega
        have hfin : Srt O (l.take q ++ y :: l.drop q) ∧ (l.take q ++ y :: l.drop q).Perm (l ++ [y]) := by
          have hrs : Srt O (l.take q ++ l.drop q) := by rw [List.take_append_drop]; exact hSl
          have c1 : ∀ z ∈ l.take q, lt2 O z y := fun z hz0 => by
            refine ends_lt (List.pairwise_append.1 hrs).1 (List.pairwise_singleton _ y) (fun z u hz hu => ?_) z hz0 y (by simp)
            simp at hu; subst hu
            rcases hp with rfl | ⟨z', hz', hlt⟩
            · simp at hz
            · have hq0 : 0 < q := by
                rcases Nat.eq_zero_or_pos q with e | e
                · subst e; simp at hz
                · exact e
              rw [List.getLast?_eq_getElem?, List.length_take, Nat.min_eq_left hqr, List.getElem?_take, if_pos (by omega), hz'] at hz
              have hz : z' = z := by simpa using hz
              subst hz
              exact .inr ⟨hlt, hXy z' (List.mem_of_getElem? hz')⟩
          have c2 : ∀ z ∈ l.drop q, lt2 O y z := fun z hz0 => by
            refine ends_lt (List.pairwise_singleton _ y) (List.pairwise_append.1 hrs).2.1 (fun z u hz hu => ?_) y (by simp) z hz0
            simp at hz; subst hz
            rcases hq with e | ⟨z', hz', hlt⟩
            · rw [List.head?_drop, e] at hu; simp at hu
            · rw [List.head?_drop, hz'] at hu
              have hu : z' = u := by simpa using hu
              subst hu
              exact .inl hlt
          refine ⟨List.pairwise_append.2 ⟨(List.pairwise_append.1 hrs).1, List.pairwise_cons.2 ⟨c2, (List.pairwise_append.1 hrs).2.1⟩, fun u hu v hv => ?_⟩, ?_⟩
          · rcases List.mem_cons.1 hv with rfl | hv
            · exact c1 u hu
            · exact (List.pairwise_append.1 hrs).2.2 u hu v hv
          · refine List.perm_middle.trans ?_
            rw [List.take_append_drop]; exact (List.perm_append_singleton y l).symm
        refine ⟨Nat, fun t => ⟨[(0, .slice (some ⟨g, 0, none⟩) L cap), (1, .int .i64 a), (2, .int .i64 m), (3, .int .i64 b), (4, .func (.func 23) #[] cp), (14, .int .i64 (a + q : Nat)), (17, .int .i64 (a + t : Nat))], []⟩,
          fun t V => q ≤ t ∧ t ≤ l.length ∧ RowM V g sp (A ++ fsts (l.take t) ++ y.1 :: (fsts (l.drop t) ++ B)) ∧ w.grownBy V (some g),
          fun t => t, l.length, ⟨.cons rfl (.cons rfl (.cons rfl (.cons rfl (.cons rfl (.cons rfl (.cons (by dsimp only; rw [← hmm]; rfl) .nil)))))), rfl⟩, ⟨hqr, Nat.le_refl _, by simpa using hrV, hgV⟩, ?_⟩
        rintro t V1 ⟨htq, htl, hrV1, hgV1⟩
        refine And.intro (fun h4 => ?_) (fun h4 => ?_)
        · have h4 : ((a + q : Nat) : Int) < (a + t : Nat) := of_decide_eq_true h4
          obtain ⟨u, rfl⟩ : ∃ u, t = u + 1 := ⟨t - 1, by omega⟩
          have hul : u < l.length := by omega
          have hd : l.take (u + 1) = l.take u ++ [l[u]] := List.take_succ_eq_append_getElem hul
          have hA0 : (A ++ fsts (l.take u)).length = a + u := by simp; omega
          have hA1 : ((A ++ fsts (l.take u)) ++ [l[u].1]).length = a + (u + 1) := by simp; omega
          have q1 : RowM V1.drew g sp (((A ++ fsts (l.take u)) ++ [l[u].1]) ++ y.1 :: (fsts (l.drop (u + 1)) ++ B)) := by
            have : ((A ++ fsts (l.take u)) ++ [l[u].1]) ++ y.1 :: (fsts (l.drop (u + 1)) ++ B) = A ++ fsts (l.take (u + 1)) ++ y.1 :: (fsts (l.drop (u + 1)) ++ B) := by
              rw [hd]; simp only [fsts, List.map_append, List.map_cons, List.map_nil, List.append_assoc]
            rw [this]; exact hrV1
          have q0 : RowM V1.drew g sp ((A ++ fsts (l.take u)) ++ l[u].1 :: (y.1 :: (fsts (l.drop (u + 1)) ++ B))) := by
            have : (A ++ fsts (l.take u)) ++ l[u].1 :: (y.1 :: (fsts (l.drop (u + 1)) ++ B)) = ((A ++ fsts (l.take u)) ++ [l[u].1]) ++ y.1 :: (fsts (l.drop (u + 1)) ++ B) := by
              simp only [List.append_assoc, List.cons_append, List.nil_append]
            rw [this]; exact q1
          have hgl := q0.lt
          refine DrawE.ord [15, 17] [0, 1, 2, 3, 4, 5, 6, 7, 8, 9, 10, 11, 12, 13, 14, 15, 16, 17] (by kernel_rfl) ?_
          refine ⟨(a + u : Nat), (wrap_i64 (by omega)).trans (by omega), ?_⟩
          refine ⟨(a + u : Nat), (wrap_i64 (by omega)).trans (by omega), ?_⟩
          refine ⟨a + u, rfl, by omega, ?_⟩
          refine ⟨l[u].1.enc, rfl, q0.mid hA0, hgl, ?_⟩
          refine ⟨a + (u + 1), rfl, by omega, ?_⟩
          refine ⟨y.1.enc, rfl, q1.mid hA1, hgl, ?_⟩
          refine ⟨a + (u + 1), rfl, by omega, ?_⟩
          refine store_mid (ttOk.get 30 _ rfl) rfl q1 hA1 l[u].1 fun V3 s1 g1 z1 => ?_
          refine ⟨a + u, rfl, by omega, ?_⟩
          have s2 : RowM V3 g sp ((A ++ fsts (l.take u)) ++ l[u].1 :: (l[u].1 :: (fsts (l.drop (u + 1)) ++ B))) := by
            have : (A ++ fsts (l.take u)) ++ l[u].1 :: (l[u].1 :: (fsts (l.drop (u + 1)) ++ B)) = ((A ++ fsts (l.take u)) ++ [l[u].1]) ++ l[u].1 :: (fsts (l.drop (u + 1)) ++ B) := by
              simp only [List.append_assoc, List.cons_append, List.nil_append]
            rw [this]; exact s1
          refine store_mid (ttOk.get 30 _ rfl) rfl s2 hA0 y.1 fun V4 s3 g2 z2 => ?_
          refine ⟨(a + u : Nat), (wrap_i64 (by omega)).trans (by omega), ?_⟩
          refine ⟨u, ⟨.cons rfl (.cons rfl (.cons rfl (.cons rfl (.cons rfl (.cons rfl (.cons rfl .nil)))))), rfl⟩, ⟨by omega, by omega, ?_, grown_trans hgV1 (grown_trans (grown_of_below (Below.refl _ V1).drew) (grown_trans g1 g2))⟩, by dsimp only; omega⟩
          have : A ++ fsts (l.take u) ++ y.1 :: (fsts (l.drop u) ++ B) = (A ++ fsts (l.take u)) ++ y.1 :: (l[u].1 :: (fsts (l.drop (u + 1)) ++ B)) := by
            rw [show l.drop u = l[u] :: l.drop (u + 1) from List.drop_eq_getElem_cons hul]; rfl
          rw [this]; exact s3
        · have h4 : ¬ ((a + q : Nat) : Int) < (a + t : Nat) := of_decide_eq_false h4
          have hte : t = q := by omega
          subst hte
          refine And.intro ⟨_, rfl⟩ (And.intro ⟨l.take t ++ y :: l.drop t, hfin.1, hfin.2, ?_⟩ hgV1)
          have : A ++ fsts (l.take t ++ y :: l.drop t) ++ B = A ++ fsts (l.take t) ++ y.1 :: (fsts (l.drop t) ++ B) := by
            simp only [fsts, List.map_append, List.map_cons, List.append_assoc, List.cons_append]
          rw [this]; exact hrV1
      refine ⟨Nat × Nat, fun s => ⟨[(0, .slice (some ⟨g, 0, none⟩) L cap), (1, .int .i64 a), (2, .int .i64 m), (3, .int .i64 b), (4, .func (.func 23) #[] cp), (14, .int .i64 (a + s.1 : Nat)), (15, .int .i64 (a + s.2 : Nat))], []⟩,
        fun s V => s.1 ≤ s.2 ∧ s.2 ≤ l.length ∧ (s.1 = 0 ∨ ∃ z, l[s.1 - 1]? = some z ∧ O.lt y.1 z.1 = false) ∧ (s.2 = l.length ∨ ∃ z, l[s.2]? = some z ∧ O.lt y.1 z.1 = true) ∧ RowM V g sp (A ++ fsts l ++ fsts [y] ++ B) ∧ w.grownBy V (some g),
        fun s => s.2 - s.1, (0, l.length), ⟨.cons rfl (.cons rfl (.cons rfl (.cons rfl (.cons rfl (.cons rfl (.cons (by dsimp only; rw [← ha, hm]; rfl) .nil)))))), rfl⟩, ⟨Nat.zero_le _, Nat.le_refl _, .inl rfl, .inl rfl, hr, grown_refl _ _⟩, ?_⟩
      rintro ⟨p, q⟩ V ⟨hpq, hqr, hp, hq, hrV, hgV⟩
      dsimp only at hpq hqr hp hq
      have hmm : m = a + l.length := by omega
      have hLL : a + l.length + 1 ≤ L := by simp at hL2; omega
      refine And.intro (fun h2 => ?_) (fun h2 => ?_)
      · have h2 : ((a + p : Nat) : Int) < (a + q : Nat) := of_decide_eq_true h2
        have hh : (a + p + (a + q)) / 2 = a + ((a + p + (a + q)) / 2 - a) := by omega
        obtain ⟨c, hc⟩ : ∃ c, c = (a + p + (a + q)) / 2 - a := ⟨_, rfl⟩
        rw [← hc] at hh
        have hc1 : p ≤ c := by omega
        have hc2 : c < q := by omega
        refine ⟨(a + p + (a + q) : Nat), (wrap_i64 (by dsimp only; omega)).trans (by dsimp only; omega), ?_⟩
        refine ⟨(a + p + (a + q) : Nat), wrap_u64 (by omega), ?_⟩
        refine And.intro (by decide) ⟨(a + c : Nat), (half_u64 _).trans (by rw [hh]), ?_⟩
        refine ⟨(a + c : Nat), wrap_i64 (by omega), ?_⟩
        refine DrawE.ord [] [0, 1, 2, 3, 4, 5, 6, 7, 8, 9, 10, 11] (by kernel_rfl) ?_
        have hgl : g < V.drew.heap.size := hrV.lt
        have hrc : c < l.length := by omega
        have g1 : Cells V.drew ⟨g, 0 + (a + c) * 11, none⟩ l[c].1.enc := RowM.get hrV (by rw [← ha]; exact row_l A B l [y] hrc)
        have g2 : Cells V.drew ⟨g, 0 + m * 11, none⟩ y.1.enc := RowM.get hrV hyl
        refine ⟨m, rfl, by omega, ?_⟩
        refine ⟨_, rfl, g2, hgl, ?_⟩
        refine ⟨a + c, rfl, by omega, ?_⟩
        refine ⟨_, rfl, g1, hgl, ?_⟩
        refine Calls.mono (hC.run V.drew (hC.keep _ _ (hC.keep _ _ hG hgV) (grown_of_below (Below.refl _ V).drew)) y.1 l[c].1) ?_
        rintro e V2 ⟨v, rfl, hv, hbV⟩
        refine ⟨hbV, ?_⟩
        have hgV2 : w.grownBy V2 (some g) := grown_trans hgV (grown_trans (grown_of_below (Below.refl _ V).drew) (grown_of_below hbV))
        have hrV2 : RowM V2 g sp (A ++ fsts l ++ fsts [y] ++ B) := RowS.below (w := V.drew) hrV hbV
        refine And.intro (fun h3 => ?_) (fun h3 => ?_)
        · have h3 : O.lt y.1 l[c].1 = false := by rw [← hv]; simpa using h3
          refine ⟨(a + (c + 1) : Nat), (wrap_i64 (by omega)).trans (by omega), ?_⟩
          exact ⟨(c + 1, q), ⟨.cons rfl (.cons rfl (.cons rfl (.cons rfl (.cons rfl (.cons rfl (.cons rfl .nil)))))), rfl⟩, ⟨hc2, hqr, .inr ⟨l[c], by simp [hrc], h3⟩, hq, hrV2, hgV2⟩, by dsimp only; omega⟩
        · have h3 : O.lt y.1 l[c].1 = true := by rw [← hv]; simpa using h3
          exact ⟨(p, c), ⟨.cons rfl (.cons rfl (.cons rfl (.cons rfl (.cons rfl (.cons rfl (.cons rfl .nil)))))), rfl⟩, ⟨hc1, by dsimp only; omega, hp, .inr ⟨l[c], by simp [hrc], h3⟩, hrV2, hgV2⟩, by dsimp only; omega⟩
      · have h2 : ¬ ((a + p : Nat) : Int) < (a + q : Nat) := of_decide_eq_false h2
        have hpe : q = p := by omega
        subst hpe
        exact ⟨q, ⟨.cons rfl (.cons rfl (.cons rfl (.cons rfl (.cons rfl (.cons rfl .nil))))), rfl⟩, hqr, hp, hq, hrV, hgV⟩
    · exact absurd (of_decide_eq_false h2) (by omega)
  refine ⟨(l.length : Nat), (wrap_i64 (by omega)).trans (by omega), ?_⟩
  refine And.intro (fun h => absurd (of_decide_eq_true h) (by omega)) (fun _ => ?_)
  exact ⟨(), ⟨.cons rfl (.cons rfl (.cons rfl (.cons rfl (.cons rfl .nil)))), rfl⟩, rfl⟩
end Go.Proofs.YtflljnnndmkfkaaDoor
