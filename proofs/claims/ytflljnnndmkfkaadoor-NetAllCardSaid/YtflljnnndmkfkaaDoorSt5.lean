/- Contracts: symMerge of the stable sort, at messages: more than one element on either side. -/
import Derived.Test.YtflljnnndmkfkaaDoorSt4
namespace Go.Proofs.YtflljnnndmkfkaaDoor
open Go.Vc Go.RowKit Go.Sei

abbrev symEnv (cp : Array Value) (g cap L a m b : Nat) : VEnv := [(0, .slice (some ⟨g, 0, none⟩) L cap), (1, .int .i64 a), (2, .int .i64 m), (3, .int .i64 b), (4, .func (.func 23) #[] cp)]

theorem sym_m (cp : Array Value) (O : MOrd Msg) (Good : World → Prop) (g cap L : Nat) (sp : List Value) (hC : CmpOk cp O g Good) (hl : L ≤ 1000000000) (N : Nat) (ih : SymGoal cp O Good g cap L sp N)
    (a m b : Nat) (A B : List Msg) (l r : List (Tg Msg)) (w : World) (hN : l.length + r.length ≤ N + 1) (hn1 : l.length ≠ 1) (hn2 : r.length ≠ 1) (hl0 : 0 < l.length) (hr0 : 0 < r.length) (hG : Good w) (hr : RowM w g sp (A ++ fsts l ++ fsts r ++ B)) (hSl : Srt O l) (hSr : Srt O r) (hX : ∀ x ∈ l, ∀ y ∈ r, x.2 < y.2)
    (ha : A.length = a) (hm : A.length + l.length = m) (hb : A.length + l.length + r.length = b) (hL : L = (A ++ fsts l ++ fsts r ++ B).length) :
    Calls Tryd.prog 34 #[.slice (some ⟨g, 0, none⟩) L cap, .int .i64 a, .int .i64 m, .int .i64 b, .func (.func 23) #[] cp] w
      fun e w' => (∃ v, e = .returned v) ∧ (∃ ys, Srt O ys ∧ ys.Perm (l ++ r) ∧ RowM w' g sp (A ++ fsts ys ++ B)) ∧ w.grownBy w' (some g) := by
  have hL2 : L = A.length + l.length + r.length + B.length := by rw [hL]; simp; omega
  refine calls_of_M (S := sg 220) (sgOk _) (args := [.slice (some ⟨g, 0, none⟩) L cap, .int .i64 a, .int .i64 m, .int .i64 b, .func (.func 23) #[] cp]) (.c .p (.c .p (.s .p (.s .p (.s .p (.c .p (.s .p (.s .p (.s .p (.c .p (.c .p .p))))))))))) Tryd.func34 rfl rfl (Nat.le_of_ble_eq_true rfl) rfl ?_
  refine ⟨Unit, fun _ => ⟨symEnv cp g cap L a m b, []⟩, fun _ V => w = V, ?_, ?_⟩
  · refine ⟨(l.length : Nat), (wrap_i64 (by omega)).trans (by omega), ?_⟩
    refine And.intro (fun h => absurd (of_decide_eq_true h) (by omega)) (fun _ => ?_)
    exact ⟨(), ⟨.cons rfl (.cons rfl (.cons rfl (.cons rfl (.cons rfl .nil)))), rfl⟩, rfl⟩
  rintro _ _ rfl
  refine ⟨Unit, fun _ => ⟨symEnv cp g cap L a m b, []⟩, fun _ V => w = V, ?_, ?_⟩
  · refine ⟨(r.length : Nat), (wrap_i64 (by omega)).trans (by omega), ?_⟩
    refine And.intro (fun h => absurd (of_decide_eq_true h) (by omega)) (fun _ => ?_)
    exact ⟨(), ⟨.cons rfl (.cons rfl (.cons rfl (.cons rfl (.cons rfl .nil)))), rfl⟩, rfl⟩
  rintro _ _ rfl
  obtain ⟨mid, hmid⟩ : ∃ mid, mid = (a + b) / 2 := ⟨_, rfl⟩
  obtain ⟨n, hn⟩ : ∃ n, n = mid + m := ⟨_, rfl⟩
  refine ⟨(a + b : Nat), (wrap_i64 (by omega)).trans (by omega), ?_⟩
  refine ⟨(a + b : Nat), wrap_u64 (by omega), ?_⟩
  refine And.intro (by decide) ⟨(mid : Nat), (half_u64 _).trans (by rw [hmid]), ?_⟩
  refine ⟨(mid : Nat), wrap_i64 (by omega), ?_⟩
  refine ⟨(n : Nat), (wrap_i64 (by omega)).trans (by omega), ?_⟩
  refine ⟨Nat × Nat, fun s => ⟨symEnv cp g cap L a m b ++ [(18, .int .i64 mid), (19, .int .i64 n), (20, .int .i64 s.1), (21, .int .i64 s.2)], []⟩,
    fun s V => a ≤ s.1 ∧ s.1 ≤ s.2 ∧ s.2 ≤ m ∧ s.2 ≤ mid ∧ n ≤ b + s.1 ∧ (s.1 = a ∨ n = b + s.1) ∧ (s.2 = m ∨ s.2 = mid) ∧ w = V, ?_, ?_⟩
  · refine And.intro (fun h => ?_) (fun h => ?_)
    · have h : (mid : Int) < m := of_decide_eq_true h
      refine ⟨(n - b : Nat), (wrap_i64 (by omega)).trans (by omega), ?_⟩
      exact ⟨(n - b, mid), ⟨.cons rfl (.cons rfl (.cons rfl (.cons rfl (.cons rfl (.cons rfl (.cons rfl (.cons rfl (.cons rfl .nil)))))))), rfl⟩, by dsimp only; omega, by dsimp only; omega, by dsimp only; omega, by dsimp only; omega, by dsimp only; omega, .inr (by dsimp only; omega), .inr rfl, rfl⟩
    · have h : ¬ (mid : Int) < m := of_decide_eq_false h
      exact ⟨(a, m), ⟨.cons rfl (.cons rfl (.cons rfl (.cons rfl (.cons rfl (.cons rfl (.cons rfl (.cons rfl (.cons rfl .nil)))))))), rfl⟩, by dsimp only; omega, by dsimp only; omega, by dsimp only; omega, by dsimp only; omega, by dsimp only; omega, .inl rfl, .inl rfl, rfl⟩
  rintro ⟨s0, r0⟩ _ ⟨i1, i2, i3, i4, i5, i6, i7, rfl⟩
  dsimp only at i1 i2 i3 i4 i5 i6 i7
  refine ⟨(n - 1 : Nat), (wrap_i64 (by omega)).trans (by omega), ?_⟩
  refine ⟨Nat × Nat, fun s => ⟨symEnv cp g cap L a m b ++ [(18, .int .i64 mid), (19, .int .i64 n), (20, .int .i64 s.1), (21, .int .i64 s.2), (22, .int .i64 (n - 1 : Nat))], []⟩,
    fun s V => a ≤ s.1 ∧ s.1 ≤ s.2 ∧ s.2 ≤ m ∧ s.2 ≤ mid ∧ n ≤ b + s.1 ∧ (s.1 = a ∨ n = b + s.1 ∨ (a < s.1 ∧ ∃ x y, l[s.1 - 1 - a]? = some x ∧ r[mid - s.1]? = some y ∧ O.lt y.1 x.1 = false)) ∧
      (s.2 = m ∨ s.2 = mid ∨ (s.2 < mid ∧ ∃ x y, l[s.2 - a]? = some x ∧ r[mid - 1 - s.2]? = some y ∧ O.lt y.1 x.1 = true)) ∧ RowM V g sp (A ++ fsts l ++ fsts r ++ B) ∧ w.grownBy V (some g),
    fun s => s.2 - s.1, (s0, r0), ⟨.cons rfl (.cons rfl (.cons rfl (.cons rfl (.cons rfl (.cons rfl (.cons rfl (.cons rfl (.cons rfl (.cons rfl .nil))))))))), rfl⟩,
    ⟨i1, i2, i3, i4, i5, by rcases i6 with h | h; exact .inl h; exact .inr (.inl h), by rcases i7 with h | h; exact .inl h; exact .inr (.inl h), hr, grown_refl _ _⟩, ?_⟩
  clear i1 i2 i3 i4 i5 i6 i7 s0 r0
  rintro ⟨s, t⟩ V ⟨i1, i2, i3, i4, i5, i6, i7, hrV, hgV⟩
  dsimp only at i1 i2 i3 i4 i5 i6 i7
  refine And.intro (fun h => ?_) (fun h => ?_)
  · have h : (s : Int) < t := of_decide_eq_true h
    obtain ⟨c, hc⟩ : ∃ c, c = (s + t) / 2 := ⟨_, rfl⟩
    have hc1 : s ≤ c := by omega
    have hc2 : c < t := by omega
    refine ⟨(s + t : Nat), (wrap_i64 (by dsimp only; omega)).trans (by dsimp only; omega), ?_⟩
    refine ⟨(s + t : Nat), wrap_u64 (by omega), ?_⟩
    refine And.intro (by decide) ⟨(c : Nat), (half_u64 _).trans (by rw [hc]), ?_⟩
    refine ⟨(c : Nat), wrap_i64 (by omega), ?_⟩
    refine DrawE.ord [] [0, 1, 2, 3, 4, 5, 6, 7, 8, 9, 10, 11, 12, 13] (by kernel_rfl) ?_
    have hgl : g < V.drew.heap.size := hrV.lt
    obtain ⟨j, hj⟩ : ∃ j, c = A.length + j := ⟨c - a, by omega⟩
    obtain ⟨k, hk⟩ : ∃ k, n - 1 - c = A.length + l.length + k := ⟨n - 1 - c - m, by omega⟩
    have hjl : j < l.length := by omega
    have hkr : k < r.length := by omega
    have g1 : Cells V.drew ⟨g, 0 + (n - 1 - c) * 11, none⟩ r[k].1.enc := RowM.get hrV (by rw [hk]; exact row_r A B l r hkr)
    have g2 : Cells V.drew ⟨g, 0 + c * 11, none⟩ l[j].1.enc := RowM.get hrV (by rw [hj]; exact row_l A B l r hjl)
    refine ⟨(n - 1 - c : Nat), (wrap_i64 (by omega)).trans (by omega), ?_⟩
    refine ⟨n - 1 - c, rfl, by omega, ?_⟩
    refine ⟨_, rfl, g1, hgl, ?_⟩
    refine ⟨c, rfl, by omega, ?_⟩
    refine ⟨_, rfl, g2, hgl, ?_⟩
    refine Calls.mono (hC.run V.drew (hC.keep _ _ (hC.keep _ _ hG hgV) (grown_of_below (Below.refl _ V).drew)) r[k].1 l[j].1) ?_
    rintro e V2 ⟨v, rfl, hv, hbV⟩
    refine ⟨hbV, ?_⟩
    have hgV2 : w.grownBy V2 (some g) := grown_trans hgV (grown_trans (grown_of_below (Below.refl _ V).drew) (grown_of_below hbV))
    have hrV2 : RowM V2 g sp (A ++ fsts l ++ fsts r ++ B) := RowS.below (w := V.drew) hrV hbV
    refine And.intro (fun h3 => ?_) (fun h3 => ?_)
    · have h3 : O.lt r[k].1 l[j].1 = false := by rw [← hv]; simpa using h3
      refine ⟨(c + 1 : Nat), (wrap_i64 (by omega)).trans (by omega), ?_⟩
      refine ⟨(c + 1, t), ⟨.cons rfl (.cons rfl (.cons rfl (.cons rfl (.cons rfl (.cons rfl (.cons rfl (.cons rfl (.cons rfl (.cons rfl .nil))))))))), rfl⟩, ⟨by dsimp only; omega, hc2, i3, i4, by dsimp only; omega, .inr (.inr ⟨by dsimp only; omega, l[j], r[k], ?_, ?_, h3⟩), i7, hrV2, hgV2⟩, by dsimp only; omega⟩
      · have : c + 1 - 1 - a = j := by omega
        dsimp only; rw [this]; exact List.getElem?_eq_getElem hjl
      · have : mid - (c + 1) = k := by omega
        dsimp only; rw [this]; exact List.getElem?_eq_getElem hkr
    · have h3 : O.lt r[k].1 l[j].1 = true := by rw [← hv]; simpa using h3
      refine ⟨(s, c), ⟨.cons rfl (.cons rfl (.cons rfl (.cons rfl (.cons rfl (.cons rfl (.cons rfl (.cons rfl (.cons rfl (.cons rfl .nil))))))))), rfl⟩, ⟨i1, hc1, by dsimp only; omega, by dsimp only; omega, i5, i6, .inr (.inr ⟨by dsimp only; omega, l[j], r[k], ?_, ?_, h3⟩), hrV2, hgV2⟩, by dsimp only; omega⟩
      · have : c - a = j := by omega
        dsimp only; rw [this]; exact List.getElem?_eq_getElem hjl
      · have : mid - 1 - c = k := by omega
        dsimp only; rw [this]; exact List.getElem?_eq_getElem hkr
  have h : ¬ (s : Int) < t := of_decide_eq_false h
  have hst : t = s := by omega
  subst hst
  obtain ⟨L1, hL1⟩ : ∃ L1, L1 = l.take (t - a) := ⟨_, rfl⟩
  obtain ⟨L2, hL2'⟩ : ∃ L2, L2 = l.drop (t - a) := ⟨_, rfl⟩
  obtain ⟨R1, hR1⟩ : ∃ R1, R1 = r.take (mid - t) := ⟨_, rfl⟩
  obtain ⟨R2, hR2⟩ : ∃ R2, R2 = r.drop (mid - t) := ⟨_, rfl⟩
  have el : L1 ++ L2 = l := by rw [hL1, hL2']; exact List.take_append_drop _ _
  have er : R1 ++ R2 = r := by rw [hR1, hR2]; exact List.take_append_drop _ _
  have zl1 : L1.length = t - a := by rw [hL1, List.length_take]; omega
  have zl2 : L2.length = m - t := by rw [hL2', List.length_drop]; omega
  have zr1 : R1.length = mid - t := by rw [hR1, List.length_take]; omega
  have zr2 : R2.length = b + t - n := by rw [hR2, List.length_drop]; omega
  have sl : Srt O (L1 ++ L2) := by rw [el]; exact hSl
  have sr : Srt O (R1 ++ R2) := by rw [er]; exact hSr
  have hX11 : ∀ x ∈ L1, ∀ y ∈ R1, x.2 < y.2 := fun x hx y hy => hX x (el ▸ List.mem_append_left _ hx) y (er ▸ List.mem_append_left _ hy)
  have hX22 : ∀ x ∈ L2, ∀ y ∈ R2, x.2 < y.2 := fun x hx y hy => hX x (el ▸ List.mem_append_right _ hx) y (er ▸ List.mem_append_right _ hy)
  have h12 : ∀ x ∈ L1, ∀ y ∈ R2, lt2 O x y := by
    refine ends_lt (List.pairwise_append.1 sl).1 (List.pairwise_append.1 sr).2.1 fun z u hz hu => ?_
    have hzu : z.2 < u.2 := hX z (el ▸ List.mem_append_left _ (List.mem_of_getLast? hz)) u (er ▸ List.mem_append_right _ (List.mem_of_head? hu))
    rcases i6 with e | e | ⟨e, x, y, hx, hy, hlt⟩
    · have : L1 = [] := List.eq_nil_of_length_eq_zero (by omega)
      rw [this] at hz; cases hz
    · have : R2 = [] := List.eq_nil_of_length_eq_zero (by omega)
      rw [this] at hu; cases hu
    · rw [hL1, List.getLast?_eq_getElem?, List.length_take, Nat.min_eq_left (by omega), List.getElem?_take, if_pos (by omega)] at hz
      have e1 : t - a - 1 = t - 1 - a := by omega
      rw [e1, hx] at hz
      rw [hR2, List.head?_drop, hy] at hu
      cases hz; cases hu
      exact .inr ⟨hlt, hzu⟩
  have h21 : ∀ y ∈ R1, ∀ x ∈ L2, lt2 O y x := by
    refine ends_lt (List.pairwise_append.1 sr).1 (List.pairwise_append.1 sl).2.1 fun z u hz hu => ?_
    rcases i7 with e | e | ⟨e, x, y, hx, hy, hlt⟩
    · have : L2 = [] := List.eq_nil_of_length_eq_zero (by omega)
      rw [this] at hu; cases hu
    · have : R1 = [] := List.eq_nil_of_length_eq_zero (by omega)
      rw [this] at hz; cases hz
    · rw [hR1, List.getLast?_eq_getElem?, List.length_take, Nat.min_eq_left (by omega), List.getElem?_take, if_pos (by omega)] at hz
      have e1 : mid - t - 1 = mid - 1 - t := by omega
      rw [e1, hy] at hz
      rw [hL2', List.head?_drop, hx] at hu
      cases hz; cases hu
      exact .inl hlt
  have hrow0 : A ++ fsts l ++ fsts r ++ B = (A ++ fsts L1) ++ fsts L2 ++ fsts R1 ++ (fsts R2 ++ B) := by
    rw [← el, ← er]; simp only [fsts, List.map_append, List.append_assoc]
  have hAL1 : (A ++ fsts L1).length = t := by simp; omega
  rw [hrow0] at hrV
  refine ⟨(n - t : Nat), (wrap_i64 (by omega)).trans (by omega), ?_⟩
  refine ⟨Unit, fun _ => ⟨symEnv cp g cap L a m b ++ [(18, .int .i64 mid), (20, .int .i64 t), (24, .int .i64 (n - t : Nat))], []⟩,
    fun _ V => RowM V g sp ((A ++ fsts L1) ++ fsts R1 ++ fsts L2 ++ (fsts R2 ++ B)) ∧ w.grownBy V (some g), ?_, ?_⟩
  · refine And.intro (fun h1 => ?_) (fun h1 => ?_)
    · have h1 : (t : Int) < m := of_decide_eq_true h1
      refine And.intro (fun h2 => ?_) (fun h2 => ?_)
      · have h2 : (m : Int) < (n - t : Nat) := of_decide_eq_true h2
        refine Calls.mono (rotate_c g cap t m (n - t) L sp (A ++ fsts L1) (fsts L2) (fsts R1) (fsts R2 ++ B) _ V hrV (List.ne_nil_of_length_pos (by simp; omega)) (List.ne_nil_of_length_pos (by simp; omega)) hAL1 (by rw [hAL1]; simp; omega) (by rw [hAL1]; simp; omega) (by rw [← hrow0]; exact hL) hl) ?_
        rintro e V2 ⟨⟨v, rfl⟩, hrV2, hgV2⟩
        exact ⟨(), ⟨.cons rfl (.cons rfl (.cons rfl (.cons rfl (.cons rfl (.cons rfl (.cons rfl (.cons rfl .nil))))))), rfl⟩, hrV2, grown_trans hgV hgV2⟩
      · have h2 : ¬ (m : Int) < (n - t : Nat) := of_decide_eq_false h2
        have e1 : R1 = [] := List.eq_nil_of_length_eq_zero (by omega)
        refine ⟨(), ⟨.cons rfl (.cons rfl (.cons rfl (.cons rfl (.cons rfl (.cons rfl (.cons rfl (.cons rfl .nil))))))), rfl⟩, ?_, hgV⟩
        rw [e1] at hrV ⊢; simpa using hrV
    · have h1 : ¬ (t : Int) < m := of_decide_eq_false h1
      have e1 : L2 = [] := List.eq_nil_of_length_eq_zero (by omega)
      refine And.intro (fun h => by cases h) (fun _ => ?_)
      refine ⟨(), ⟨.cons rfl (.cons rfl (.cons rfl (.cons rfl (.cons rfl (.cons rfl (.cons rfl (.cons rfl .nil))))))), rfl⟩, ?_, hgV⟩
      rw [e1] at hrV ⊢; simpa using hrV
  clear hrV hgV V
  rintro _ V ⟨hrV, hgV⟩
  refine ⟨List (Tg Msg), fun _ => ⟨symEnv cp g cap L a m b ++ [(18, .int .i64 mid), (24, .int .i64 (n - t : Nat))], []⟩,
    fun S1 V => Srt O S1 ∧ S1.Perm (L1 ++ R1) ∧ RowM V g sp ((A ++ fsts S1) ++ fsts L2 ++ fsts R2 ++ B) ∧ w.grownBy V (some g), ?_, ?_⟩
  · have hrV' : RowM V g sp (A ++ fsts L1 ++ fsts R1 ++ (fsts L2 ++ (fsts R2 ++ B))) := by simpa using hrV
    have hno : L1 = [] ∨ R1 = [] → Srt O (L1 ++ R1) ∧ RowM V g sp ((A ++ fsts (L1 ++ R1)) ++ fsts L2 ++ fsts R2 ++ B) := fun h => by
      refine ⟨?_, by simpa [fsts] using hrV⟩
      rcases h with h | h
      · rw [h]; exact (List.pairwise_append.1 sr).1
      · rw [h, List.append_nil]; exact (List.pairwise_append.1 sl).1
    refine And.intro (fun h1 => ?_) (fun h1 => ?_)
    · have h1 : (a : Int) < t := of_decide_eq_true h1
      refine And.intro (fun h2 => ?_) (fun h2 => ?_)
      · have h2 : (t : Int) < mid := of_decide_eq_true h2
        refine Calls.mono (ih a t mid A (fsts L2 ++ (fsts R2 ++ B)) L1 R1 V (by omega) (by omega) (by omega) (hC.keep _ _ hG hgV) hrV' (List.pairwise_append.1 sl).1 (List.pairwise_append.1 sr).1 hX11 ha (by omega) (by omega) (by rw [hL, hrow0]; simp; omega)) ?_
        rintro e V2 ⟨⟨v, rfl⟩, ⟨S1, q1, q2, q3⟩, hgV2⟩
        exact ⟨S1, ⟨.cons rfl (.cons rfl (.cons rfl (.cons rfl (.cons rfl (.cons rfl (.cons rfl .nil)))))), rfl⟩, q1, q2, by simpa using q3, grown_trans hgV hgV2⟩
      · have h2 : ¬ (t : Int) < mid := of_decide_eq_false h2
        obtain ⟨n1, n2⟩ := hno (.inr (List.eq_nil_of_length_eq_zero (by omega)))
        exact ⟨L1 ++ R1, ⟨.cons rfl (.cons rfl (.cons rfl (.cons rfl (.cons rfl (.cons rfl (.cons rfl .nil)))))), rfl⟩, n1, .refl _, n2, hgV⟩
    · have h1 : ¬ (a : Int) < t := of_decide_eq_false h1
      refine And.intro (fun h => by cases h) (fun _ => ?_)
      obtain ⟨n1, n2⟩ := hno (.inl (List.eq_nil_of_length_eq_zero (by omega)))
      exact ⟨L1 ++ R1, ⟨.cons rfl (.cons rfl (.cons rfl (.cons rfl (.cons rfl (.cons rfl (.cons rfl .nil)))))), rfl⟩, n1, .refl _, n2, hgV⟩
  clear hrV hgV V
  rintro S1 V ⟨q1, q2, hrV, hgV⟩
  have zs : S1.length = mid - a := by rw [q2.length_eq, List.length_append]; omega
  have fin : ∀ S2 Z, Srt O S2 → S2.Perm (L2 ++ R2) → RowM Z g sp ((A ++ fsts S1) ++ fsts S2 ++ B) → w.grownBy Z (some g) →
      (∃ ys, Srt O ys ∧ ys.Perm (l ++ r) ∧ RowM Z g sp (A ++ fsts ys ++ B)) ∧ w.grownBy Z (some g) := fun S2 Z c1 c2 c3 c4 => by
    obtain ⟨m1, m2⟩ := mrg_combine sl sr h12 h21 q1 q2 c1 c2
    rw [el, er] at m2
    exact ⟨⟨S1 ++ S2, m1, m2, by simpa [fsts] using c3⟩, c4⟩
  have hno : L2 = [] ∨ R2 = [] → Srt O (L2 ++ R2) ∧ RowM V g sp ((A ++ fsts S1) ++ fsts (L2 ++ R2) ++ B) := fun h => by
    refine ⟨?_, by simpa [fsts] using hrV⟩
    rcases h with h | h
    · rw [h]; exact (List.pairwise_append.1 sr).2.1
    · rw [h, List.append_nil]; exact (List.pairwise_append.1 sl).2.1
  refine And.intro (fun h1 => ?_) (fun h1 => ?_)
  · have h1 : (mid : Int) < (n - t : Nat) := of_decide_eq_true h1
    refine And.intro (fun h2 => ?_) (fun h2 => ?_)
    · have h2 : ((n - t : Nat) : Int) < b := of_decide_eq_true h2
      refine Calls.mono (ih mid (n - t) b (A ++ fsts S1) B L2 R2 V (by omega) (by omega) (by omega) (hC.keep _ _ hG hgV) hrV (List.pairwise_append.1 sl).2.1 (List.pairwise_append.1 sr).2.1 hX22 (by simp; omega) (by simp; omega) (by simp; omega) (by rw [hL, hrow0]; simp; omega)) ?_
      rintro e V2 ⟨⟨v, rfl⟩, ⟨S2, c1, c2, c3⟩, hgV2⟩
      exact And.intro ⟨_, rfl⟩ (fin S2 V2 c1 c2 c3 (grown_trans hgV hgV2))
    · have h2 : ¬ ((n - t : Nat) : Int) < b := of_decide_eq_false h2
      obtain ⟨n1, n2⟩ := hno (.inr (List.eq_nil_of_length_eq_zero (by omega)))
      exact And.intro ⟨_, rfl⟩ (fin _ V n1 (.refl _) n2 hgV)
  · have h1 : ¬ (mid : Int) < (n - t : Nat) := of_decide_eq_false h1
    refine And.intro (fun h => by cases h) (fun _ => ?_)
    obtain ⟨n1, n2⟩ := hno (.inl (List.eq_nil_of_length_eq_zero (by omega)))
    exact And.intro ⟨_, rfl⟩ (fin _ V n1 (.refl _) n2 hgV)

theorem sym_c (cp : Array Value) (O : MOrd Msg) (Good : World → Prop) (g cap L : Nat) (sp : List Value) (hC : CmpOk cp O g Good) (hl : L ≤ 1000000000) : ∀ N, SymGoal cp O Good g cap L sp N := by
  intro N
  induction N with
  | zero => exact fun _ _ _ _ _ l r _ h1 h2 _ => absurd h2 (by omega)
  | succ N ih =>
    intro a m b A B l r w hN hl0 hr0 hG hr hSl hSr hX ha hm hb hL
    by_cases h1 : l.length = 1
    · exact sym_l cp O Good g cap L sp hC hl a m b A B l r w h1 hl0 hr0 hG hr hSl hSr hX ha hm hb hL
    · by_cases h2 : r.length = 1
      · exact sym_r cp O Good g cap L sp hC hl a m b A B l r w h1 h2 hl0 hr0 hG hr hSl hSr hX ha hm hb hL
      · exact sym_m cp O Good g cap L sp hC hl N ih a m b A B l r w hN h1 h2 hl0 hr0 hG hr hSl hSr hX ha hm hb hL
end Go.Proofs.YtflljnnndmkfkaaDoor
