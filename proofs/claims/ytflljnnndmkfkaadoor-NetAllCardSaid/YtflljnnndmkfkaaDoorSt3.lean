/- Contracts: symMerge of the stable sort, at messages: one element on the left. -/
import Derived.Test.YtflljnnndmkfkaaDoorSt2
import Derived.Test.YtflljnnndmkfkaaDoorVcJ
namespace Go.Proofs.YtflljnnndmkfkaaDoor
open Go.Vc Go.RowKit Go.Sei

theorem RowM.get {w : World} {g : Nat} {sp : List Value} {l : List Msg} (h : RowM w g sp l) {i : Nat} {v : Msg} (hv : l[i]? = some v) : Cells w ⟨g, 0 + i * 11, none⟩ v.enc := by
  obtain ⟨hi, e⟩ := List.getElem?_eq_some_iff.1 hv
  subst e
  exact h.at hi

theorem row_r (A B : List Msg) (l r : List (Tg Msg)) {k : Nat} (hk : k < r.length) : (A ++ fsts l ++ fsts r ++ B)[A.length + l.length + k]? = some r[k].1 := by
  have h : (A ++ fsts l).length = A.length + l.length := by simp
  rw [List.append_assoc (A ++ fsts l), List.getElem?_append_right (by omega), h, Nat.add_sub_cancel_left, List.getElem?_append_left (by simpa using hk)]
  simp [hk]
theorem row_l (A B : List Msg) (l r : List (Tg Msg)) {k : Nat} (hk : k < l.length) : (A ++ fsts l ++ fsts r ++ B)[A.length + k]? = some l[k].1 := by
  rw [List.append_assoc, List.append_assoc, List.getElem?_append_right (by omega), Nat.add_sub_cancel_left, List.getElem?_append_left (by simpa using hk)]
  simp [hk]

def SymGoal (cp : Array Value) (O : MOrd Msg) (Good : World → Prop) (g cap L : Nat) (sp : List Value) (N : Nat) : Prop :=
  ∀ (a m b : Nat) (A B : List Msg) (l r : List (Tg Msg)) (w : World), l.length + r.length ≤ N → 0 < l.length → 0 < r.length → Good w → RowM w g sp (A ++ fsts l ++ fsts r ++ B) → Srt O l → Srt O r → (∀ x ∈ l, ∀ y ∈ r, x.2 < y.2) →
    A.length = a → A.length + l.length = m → A.length + l.length + r.length = b → L = (A ++ fsts l ++ fsts r ++ B).length →
    Calls Tryd.prog 34 #[.slice (some ⟨g, 0, none⟩) L cap, .int .i64 a, .int .i64 m, .int .i64 b, .func (.func 23) #[] cp] w
      fun e w' => (∃ v, e = .returned v) ∧ (∃ ys, Srt O ys ∧ ys.Perm (l ++ r) ∧ RowM w' g sp (A ++ fsts ys ++ B)) ∧ w.grownBy w' (some g)

theorem sym_l (cp : Array Value) (O : MOrd Msg) (Good : World → Prop) (g cap L : Nat) (sp : List Value) (hC : CmpOk cp O g Good) (hl : L ≤ 1000000000)
    (a m b : Nat) (A B : List Msg) (l r : List (Tg Msg)) (w : World) (hone : l.length = 1) (hl0 : 0 < l.length) (hr0 : 0 < r.length) (hG : Good w) (hr : RowM w g sp (A ++ fsts l ++ fsts r ++ B)) (hSl : Srt O l) (hSr : Srt O r) (hX : ∀ x ∈ l, ∀ y ∈ r, x.2 < y.2)
    (ha : A.length = a) (hm : A.length + l.length = m) (hb : A.length + l.length + r.length = b) (hL : L = (A ++ fsts l ++ fsts r ++ B).length) :
    Calls Tryd.prog 34 #[.slice (some ⟨g, 0, none⟩) L cap, .int .i64 a, .int .i64 m, .int .i64 b, .func (.func 23) #[] cp] w
      fun e w' => (∃ v, e = .returned v) ∧ (∃ ys, Srt O ys ∧ ys.Perm (l ++ r) ∧ RowM w' g sp (A ++ fsts ys ++ B)) ∧ w.grownBy w' (some g) := by
  have hL2 : L = A.length + l.length + r.length + B.length := by rw [hL]; simp; omega
  refine calls_of_E (S := sg 220) (sgOk _) (args := [.slice (some ⟨g, 0, none⟩) L cap, .int .i64 a, .int .i64 m, .int .i64 b, .func (.func 23) #[] cp]) Tryd.func34 rfl rfl (Nat.le_of_ble_eq_true rfl) rfl ?_
  refine ⟨(l.length : Nat), (wrap_i64 (by omega)).trans (by omega), ?_⟩
  refine And.intro (fun h => ?_) (fun h1 => ?_)
  · have h : (l.length : Int) = 1 := of_decide_eq_true h
    obtain ⟨x, rfl⟩ : ∃ x, l = [x] := List.length_eq_one_iff.1 (by omega)
    have hXx : ∀ y ∈ r, x.2 < y.2 := fun y hy => hX x (by simp) y hy
    refine ⟨Nat × Nat, fun s => ⟨[(0, .slice (some ⟨g, 0, none⟩) L cap), (1, .int .i64 a), (2, .int .i64 m), (3, .int .i64 b), (4, .func (.func 23) #[] cp), (10, .int .i64 (m + s.1 : Nat)), (11, .int .i64 (m + s.2 : Nat))], []⟩,
      fun s V => s.1 ≤ s.2 ∧ s.2 ≤ r.length ∧ (s.1 = 0 ∨ ∃ y, r[s.1 - 1]? = some y ∧ O.lt y.1 x.1 = true) ∧ (s.2 = r.length ∨ ∃ y, r[s.2]? = some y ∧ O.lt y.1 x.1 = false) ∧ RowM V g sp (A ++ fsts [x] ++ fsts r ++ B) ∧ w.grownBy V (some g),
      fun s => s.2 - s.1, (0, r.length), ⟨.cons rfl (.cons rfl (.cons rfl (.cons rfl (.cons rfl (.cons rfl (.cons (by dsimp only; rw [← hb, ← hm]; rfl) .nil)))))), rfl⟩, ⟨Nat.zero_le _, Nat.le_refl _, .inl rfl, .inl rfl, hr, grown_refl _ _⟩, ?_⟩
    rintro ⟨p, q⟩ V ⟨hpq, hqr, hp, hq, hrV, hgV⟩
    dsimp only at hpq hqr hp hq
    refine And.intro (fun h2 => ?_) (fun h2 => ?_)
    · have h2 : ((m + p : Nat) : Int) < (m + q : Nat) := of_decide_eq_true h2
      have hh : (m + p + (m + q)) / 2 = m + ((m + p + (m + q)) / 2 - m) := by omega
      obtain ⟨c, hc⟩ : ∃ c, c = (m + p + (m + q)) / 2 - m := ⟨_, rfl⟩
      rw [← hc] at hh
      have hc1 : p ≤ c := by omega
      have hc2 : c < q := by omega
      refine ⟨(m + p + (m + q) : Nat), (wrap_i64 (by dsimp only; omega)).trans (by dsimp only; omega), ?_⟩
      refine ⟨(m + p + (m + q) : Nat), wrap_u64 (by omega), ?_⟩
      refine And.intro (by decide) ⟨(m + c : Nat), (half_u64 _).trans (by rw [hh]), ?_⟩
      refine ⟨(m + c : Nat), wrap_i64 (by omega), ?_⟩
      refine DrawE.ord [] [0, 1, 2, 3, 4, 5, 6, 7, 8, 9, 10] (by kernel_rfl) ?_
      have hgl : g < V.drew.heap.size := hrV.lt
      have hrc : c < r.length := by omega
      have g1 : Cells V.drew ⟨g, 0 + (m + c) * 11, none⟩ r[c].1.enc := RowM.get hrV (by rw [← hm]; exact row_r A B [x] r hrc)
      have g2 : Cells V.drew ⟨g, 0 + a * 11, none⟩ x.1.enc := RowM.get hrV (by rw [← ha]; exact row_l A B [x] r (k := 0) (by simp))
      refine ⟨m + c, rfl, by omega, ?_⟩
      refine ⟨_, rfl, g1, hgl, ?_⟩
      refine ⟨a, rfl, by omega, ?_⟩
      refine ⟨_, rfl, g2, hgl, ?_⟩
      refine Calls.mono (hC.run V.drew (hC.keep _ _ (hC.keep _ _ hG hgV) (grown_of_below (Below.refl _ V).drew)) r[c].1 x.1) ?_
      rintro e V2 ⟨v, rfl, hv, hbV⟩
      refine ⟨hbV, ?_⟩
      have hgV2 : w.grownBy V2 (some g) := grown_trans hgV (grown_trans (grown_of_below (Below.refl _ V).drew) (grown_of_below hbV))
      have hrV2 : RowM V2 g sp (A ++ fsts [x] ++ fsts r ++ B) := RowS.below (w := V.drew) hrV hbV
      refine And.intro (fun h3 => ?_) (fun h3 => ?_)
      · rw [hv] at h3
        refine ⟨(m + (c + 1) : Nat), (wrap_i64 (by omega)).trans (by omega), ?_⟩
        exact ⟨(c + 1, q), ⟨.cons rfl (.cons rfl (.cons rfl (.cons rfl (.cons rfl (.cons rfl (.cons rfl .nil)))))), rfl⟩, ⟨hc2, hqr, .inr ⟨r[c], by simp [hrc], h3⟩, hq, hrV2, hgV2⟩, by dsimp only; omega⟩
      · rw [hv] at h3
        exact ⟨(p, c), ⟨.cons rfl (.cons rfl (.cons rfl (.cons rfl (.cons rfl (.cons rfl (.cons rfl .nil)))))), rfl⟩, ⟨hc1, by dsimp only; omega, hp, .inr ⟨r[c], by simp [hrc], h3⟩, hrV2, hgV2⟩, by dsimp only; omega⟩
    · have h2 : ¬ ((m + p : Nat) : Int) < (m + q : Nat) := of_decide_eq_false h2
      have hpe : q = p := by omega
      subst hpe
      have hfin : Srt O (r.take q ++ x :: r.drop q) ∧ (r.take q ++ x :: r.drop q).Perm ([x] ++ r) := by
        have hrs : Srt O (r.take q ++ r.drop q) := by rw [List.take_append_drop]; exact hSr
        have c1 : ∀ y ∈ r.take q, lt2 O y x := fun y hy => by
          refine ends_lt (List.pairwise_append.1 hrs).1 (List.pairwise_singleton _ x) (fun z u hz hu => ?_) y hy x (by simp)
          simp at hu; subst hu
          rcases hp with rfl | ⟨y', hy', hlt⟩
          · simp at hz
          · have hq0 : 0 < q := by
              rcases Nat.eq_zero_or_pos q with e | e
              · subst e; simp at hz
              · exact e
            rw [List.getLast?_eq_getElem?, List.length_take, Nat.min_eq_left hqr, List.getElem?_take, if_pos (by omega), hy'] at hz
            cases hz; exact .inl hlt
        have c2 : ∀ y ∈ r.drop q, lt2 O x y := fun y hy => by
          refine ends_lt (List.pairwise_singleton _ x) (List.pairwise_append.1 hrs).2.1 (fun z u hz hu => ?_) x (by simp) y hy
          simp at hz; subst hz
          rcases hq with e | ⟨y', hy', hlt⟩
          · rw [List.head?_drop, e] at hu; simp at hu
          · rw [List.head?_drop, hy'] at hu
            have hu : y' = u := by simpa using hu
            subst hu
            exact .inr ⟨hlt, hXx y' (List.mem_of_getElem? hy')⟩
        refine ⟨List.pairwise_append.2 ⟨(List.pairwise_append.1 hrs).1, List.pairwise_cons.2 ⟨c2, (List.pairwise_append.1 hrs).2.1⟩, fun u hu v hv => ?_⟩, ?_⟩
        · rcases List.mem_cons.1 hv with rfl | hv
          · exact c1 u hu
          · exact (List.pairwise_append.1 hrs).2.2 u hu v hv
        · refine List.perm_middle.trans ?_
          rw [List.take_append_drop]; exact .refl _
      refine ⟨Nat, fun t => ⟨[(0, .slice (some ⟨g, 0, none⟩) L cap), (1, .int .i64 a), (2, .int .i64 m), (3, .int .i64 b), (4, .func (.func 23) #[] cp), (10, .int .i64 (m + q : Nat)), (13, .int .i64 (a + t : Nat))], []⟩,
        fun t V => t ≤ q ∧ RowM V g sp (A ++ fsts (r.take t) ++ x.1 :: (fsts (r.drop t) ++ B)) ∧ w.grownBy V (some g),
        fun t => q - t, 0, ⟨.cons rfl (.cons rfl (.cons rfl (.cons rfl (.cons rfl (.cons rfl (.cons rfl .nil)))))), rfl⟩, ⟨Nat.zero_le _, by simpa using hrV, hgV⟩, ?_⟩
      rintro t V1 ⟨htq, hrV1, hgV1⟩
      refine ⟨(a + q : Nat), (wrap_i64 (by first | omega | (simp at hm; omega))).trans (by first | omega | (simp at hm; omega)), ?_⟩
      refine And.intro (fun h4 => ?_) (fun h4 => ?_)
      · have h4 : ((a + t : Nat) : Int) < (a + q : Nat) := of_decide_eq_true h4
        have htr : t < r.length := by omega
        have hmm : m = a + 1 := by rw [← hm, ← ha]; rfl
        have hLL : a + 1 + r.length ≤ L := by simp at hL2; omega
        have hd : r.drop t = r[t] :: r.drop (t + 1) := List.drop_eq_getElem_cons htr
        have hA0 : (A ++ fsts (r.take t)).length = a + t := by simp; omega
        have hA1 : ((A ++ fsts (r.take t)) ++ [x.1]).length = a + t + 1 := by simp; omega
        have hA2 : ((A ++ fsts (r.take t)) ++ [r[t].1]).length = a + t + 1 := by simp; omega
        have q0 : RowM V1.drew g sp ((A ++ fsts (r.take t)) ++ x.1 :: (r[t].1 :: (fsts (r.drop (t + 1)) ++ B))) := by
          rw [hd] at hrV1; exact hrV1
        have q1 : RowM V1.drew g sp (((A ++ fsts (r.take t)) ++ [x.1]) ++ r[t].1 :: (fsts (r.drop (t + 1)) ++ B)) := by
          have : ((A ++ fsts (r.take t)) ++ [x.1]) ++ r[t].1 :: (fsts (r.drop (t + 1)) ++ B) = (A ++ fsts (r.take t)) ++ x.1 :: (r[t].1 :: (fsts (r.drop (t + 1)) ++ B)) := by
            simp only [List.append_assoc, List.cons_append, List.nil_append]
          rw [this]; exact q0
        have hgl := q0.lt
        refine DrawE.ord [15, 17] [0, 1, 2, 3, 4, 5, 6, 7, 8, 9, 10, 11, 12, 13, 14, 15, 16, 17] (by kernel_rfl) ?_
        refine ⟨(a + t + 1 : Nat), (wrap_i64 (by omega)).trans (by omega), ?_⟩
        refine ⟨(a + t + 1 : Nat), (wrap_i64 (by omega)).trans (by omega), ?_⟩
        refine ⟨a + t + 1, rfl, by omega, ?_⟩
        refine ⟨r[t].1.enc, rfl, q1.mid hA1, hgl, ?_⟩
        refine ⟨a + t, rfl, by omega, ?_⟩
        refine ⟨x.1.enc, rfl, q0.mid hA0, hgl, ?_⟩
        refine ⟨a + t, rfl, by omega, ?_⟩
        refine store_mid (ttOk.get 30 _ rfl) rfl q0 hA0 r[t].1 fun V3 s1 g1 z1 => ?_
        refine ⟨a + t + 1, rfl, by omega, ?_⟩
        have s2 : RowM V3 g sp (((A ++ fsts (r.take t)) ++ [r[t].1]) ++ r[t].1 :: (fsts (r.drop (t + 1)) ++ B)) := by
          have : ((A ++ fsts (r.take t)) ++ [r[t].1]) ++ r[t].1 :: (fsts (r.drop (t + 1)) ++ B) = (A ++ fsts (r.take t)) ++ r[t].1 :: (r[t].1 :: (fsts (r.drop (t + 1)) ++ B)) := by
            simp only [List.append_assoc, List.cons_append, List.nil_append]
          rw [this]; exact s1
        refine store_mid (ttOk.get 30 _ rfl) rfl s2 hA2 x.1 fun V4 s3 g2 z2 => ?_
        refine ⟨(a + (t + 1) : Nat), (wrap_i64 (by omega)).trans (by omega), ?_⟩
        refine ⟨t + 1, ⟨.cons rfl (.cons rfl (.cons rfl (.cons rfl (.cons rfl (.cons rfl (.cons rfl .nil)))))), rfl⟩, ⟨by omega, ?_, grown_trans hgV1 (grown_trans (grown_of_below (Below.refl _ V1).drew) (grown_trans g1 g2))⟩, by dsimp only; omega⟩
        have : A ++ fsts (r.take (t + 1)) ++ x.1 :: (fsts (r.drop (t + 1)) ++ B) = ((A ++ fsts (r.take t)) ++ [r[t].1]) ++ x.1 :: (fsts (r.drop (t + 1)) ++ B) := by
          rw [List.take_succ_eq_append_getElem htr]
          simp only [fsts, List.map_append, List.map_cons, List.map_nil, List.append_assoc]
        rw [this]; exact s3
      · have h4 : ¬ ((a + t : Nat) : Int) < (a + q : Nat) := of_decide_eq_false h4
        have hte : t = q := by omega
        subst hte
        refine And.intro ⟨_, rfl⟩ (And.intro ⟨r.take t ++ x :: r.drop t, hfin.1, hfin.2, ?_⟩ hgV1)
        have : A ++ fsts (r.take t ++ x :: r.drop t) ++ B = A ++ fsts (r.take t) ++ x.1 :: (fsts (r.drop t) ++ B) := by
          simp only [fsts, List.map_append, List.map_cons, List.append_assoc, List.cons_append]
        rw [this]; exact hrV1
  · exact absurd (of_decide_eq_false h1) (by omega)
end Go.Proofs.YtflljnnndmkfkaaDoor
