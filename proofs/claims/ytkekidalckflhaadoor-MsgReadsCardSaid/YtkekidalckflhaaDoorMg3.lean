/- Law17: msg.Text. -/
import Derived.Test.YtkekidalckflhaaDoorMg2
import Derived.Lib.ItoaLen
namespace Go.Proofs.YtkekidalckflhaaDoor
open Go.Vc Go.RowKit Go.Sei

theorem dig_len (n : UInt8) : (dig n).length ≤ 21 := Lib.itoa_length_le _ (by omega) (by have := u8_lt n; omega)
theorem join_len : ∀ (xs : List (List UInt8)), (∀ x ∈ xs, x.length ≤ 60) → (Lib.join xs [32]).length ≤ xs.length * 61
  | [], _ => by simp [Lib.join_nil]
  | x :: r, h => by
    rw [Lib.join_cons, List.length_append]
    have h1 := h x (by simp)
    have h2 : ∀ (r : List (List UInt8)), (∀ x ∈ r, x.length ≤ 60) → (Lib.joinTail [32] r).length ≤ r.length * 61 := by
      intro r
      induction r with
      | nil => intro _; simp [Lib.joinTail]
      | cons y t ih =>
        intro hr
        have h3 := hr y (by simp)
        have h4 := ih fun x hx => hr x (by simp [hx])
        simp only [Lib.joinTail, List.map_cons, List.flatten_cons, List.length_append, List.length_cons, List.length_nil] at h4 ⊢
        omega
    have h3 := h2 r fun x hx => h x (by simp [hx])
    simp only [List.length_cons]; omega
theorem w_word (m : Msg) : ∀ x ∈ w5 m, x.length ≤ 60 := by
  have hd := fun n => dig_len n
  have hk : (kindNames.getD m.kind.toNat []).length ≤ 60 := by
    rw [List.getD_eq_getElem?_getD]
    cases h : kindNames[m.kind.toNat]? with
    | none => simp
    | some l =>
      have hm := List.mem_of_getElem? h
      have : ∀ l ∈ kindNames, l.length ≤ 60 := by decide
      exact this l hm
  intro x hx
  simp only [w5, w4, w3, w2, w1, w0, List.mem_append] at hx
  have d := hd m.from_; have d1 := hd m.to
  rcases hx with ((((( hx | hx) | hx) | hx) | hx) | hx)
  · split at hx
    · simp only [List.mem_cons, List.not_mem_nil, or_false] at hx
      rcases hx with rfl | rfl
      · decide
      · have := hd m.kind; omega
    · simp only [List.mem_cons, List.not_mem_nil, or_false] at hx; subst hx; exact hk
  · simp only [List.mem_cons, List.not_mem_nil, or_false] at hx
    rcases hx with rfl | rfl | rfl
    · simp; omega
    · decide
    · have := hd m.line; omega
  · split at hx
    · cases hx
    · simp only [List.mem_cons, List.not_mem_nil, or_false] at hx
      rcases hx with rfl | rfl
      · decide
      · have := hd m.asker; omega
  · split at hx
    · cases hx
    · simp only [List.mem_cons, List.not_mem_nil, or_false] at hx
      rcases hx with rfl | rfl
      · decide
      · have := hd m.acks; omega
  · split at hx
    · simp only [List.mem_cons, List.not_mem_nil, or_false] at hx; subst hx; decide
    · cases hx
  · split at hx
    · cases hx
    · simp only [List.mem_cons, List.not_mem_nil, or_false] at hx
      rcases hx with rfl | rfl | rfl | rfl | rfl
      · decide
      · have := hd m.d0; omega
      · have := hd m.d1; omega
      · have := hd m.d2; omega
      · have := hd m.d3; omega

theorem nqf {a b : Int} (h : (!decide (a = b)) = false) : a = b := by simpa using h
theorem nqt {a b : Int} (h : (!decide (a = b)) = true) : ¬ a = b := by simpa using h
theorem TxS.drew {w V : World} {m : Msg} {p : Option Addr} {cap : Nat} {ws : List (List UInt8)} (h : TxS w m p cap ws V) : TxS w m p cap ws V.drew := h.below (Below.refl _ V).drew

abbrev txEnv (w : World) (p : Option Addr) (n cap : Nat) : VEnv := [(1, .pointer (some ⟨w.heap.size, 0, none⟩)), (3, .slice p n cap), (4, .func (.func 26) #[] #[])]

theorem Text_c (m : Msg) (w : World) (hg : GlobM w) : Calls Tryd.prog 11 #[m.val] w fun e w' => e = .returned (strV (textOf m)) ∧ Below w.heap.size w w' := by
  obtain ⟨l0, l1, l2, l3, l4, l5⟩ := w_len m
  refine calls_of_M (S := sg 88) (sgOk _) (args := [m.val]) (.s .p (.s .p (.s .p (.c .p (.c .p (.c .p (.c .p (.c .p (.c (.s .p (.d (.s .p (.s .p .p)) .p)) .p))))))))) Tryd.func11 rfl rfl (Nat.le_of_ble_eq_true rfl) rfl ?_
  have hb1 : Below w.heap.size w (w.alloc (.cells m.val.cells 30)) := (Below.refl _ _).alloc (Nat.le_refl _) _
  have f1 := hnew w (.cells m.val.cells 30)
  have T0 : TxS w m none 0 [] (w.alloc (.cells m.val.cells 30)) := ⟨f1, .nil, hb1⟩
  refine ⟨Option Addr × Nat, fun s => ⟨txEnv w s.1 (w0 m).length s.2, []⟩, fun s V => TxS w m s.1 s.2 (w0 m) V, ?_, ?_⟩
  · refine ⟨_, cells_at (cells_block f1) (i := 0) rfl, ?_⟩
    refine Calls.mono (Class_c m.kind _ (hg.below hb1)) ?_
    rintro e _ ⟨rfl, rfl⟩
    refine And.intro (fun h => ?_) (fun h => ?_)
    · have hc : classOf m.kind ≠ 0 := fun e => by rw [e] at h; simp at h
      have hkl : m.kind.toNat < 13 := by
        by_cases h13 : m.kind.toNat < 13
        · exact h13
        · exact absurd (by unfold classOf; rw [List.getD_eq_getElem?_getD, List.getElem?_eq_none (by simp only [classes, List.length_cons, List.length_nil]; omega)]; rfl) hc
      have hw0 : w0 m = [kindNames.getD m.kind.toNat []] := by unfold w0; rw [if_neg hc]
      refine ⟨_, cells_at (cells_block f1) (i := 0) rfl, ?_⟩
      refine ⟨m.kind.toNat, rfl, hkl, ?_⟩
      have hk : (kindNames.map strV)[m.kind.toNat]? = some (strV (kindNames.getD m.kind.toNat [])) := by
        have : m.kind.toNat < kindNames.length := hkl
        rw [List.getElem?_map, List.getElem?_eq_getElem this, List.getD_eq_getElem?_getD, List.getElem?_eq_getElem this]; rfl
      refine ⟨_, by rw [Nat.mul_one]; exact cells_at (hg.below hb1).nms hk, ?_⟩
      refine ⟨⟨by decide, by decide, rfl⟩, [strV (kindNames.getD m.kind.toNat [])], rfl, ?_⟩
      refine app_words (ws := []) [kindNames.getD m.kind.toNat []] T0 rfl (Nat.le_of_ble_eq_true rfl) fun p' cap' W hW => ?_
      exact ⟨(p', cap'), ⟨.cons rfl (.cons (by dsimp only; rw [hw0]; rfl) (.cons rfl .nil)), rfl⟩, by dsimp only; rw [hw0]; exact hW⟩
    · have hc : classOf m.kind = 0 := u8_eq.1 (nqf h)
      have hw0 : w0 m = [[107, 105, 110, 100], dig m.kind] := by unfold w0; rw [if_pos hc]
      refine ⟨_, cells_at (cells_block f1) (i := 0) rfl, ?_⟩
      refine Calls.mono (number_c m.kind _ (hg.below hb1)) ?_
      rintro e V ⟨rfl, hbV⟩
      refine ⟨⟨by decide, by decide, rfl⟩, [strV [107, 105, 110, 100], strV (dig m.kind)], rfl, ?_⟩
      refine app_words (ws := []) [[107, 105, 110, 100], dig m.kind] (T0.below hbV) rfl (Nat.le_of_ble_eq_true rfl) fun p' cap' W hW => ?_
      exact ⟨(p', cap'), ⟨.cons rfl (.cons (by dsimp only; rw [hw0]; rfl) (.cons rfl .nil)), rfl⟩, by dsimp only; rw [hw0]; exact hW⟩
  rintro ⟨p, cap⟩ V T
  refine ⟨Option Addr × Nat, fun s => ⟨txEnv w s.1 (w1 m).length s.2, []⟩, fun s V => TxS w m s.1 s.2 (w1 m) V, ?_, ?_⟩
  · refine DrawE.ord [16] [0, 1, 2, 3, 6, 7, 8, 11, 12, 13, 4, 5, 9, 10, 14, 15, 16, 17] (by kernel_rfl) ?_
    have Ta := T.drew
    refine ⟨_, cells_at (cells_block Ta.box) (i := 1) rfl, ?_⟩
    refine ⟨_, cells_at (cells_block Ta.box) (i := 2) rfl, ?_⟩
    refine ⟨_, cells_at (cells_block Ta.box) (i := 3) rfl, ?_⟩
    refine Calls.mono (number_c m.from_ _ (hg.below Ta.bel)) ?_
    rintro e V1 ⟨rfl, hbV1⟩
    refine ⟨hbV1, ?_⟩
    have Tb := Ta.below hbV1
    have d1 := dig_len m.from_
    have d2 := dig_len m.to
    refine ⟨_, fun w => add_str _ _ (dig m.from_) [62] (by simp; omega) w, ?_⟩
    refine Calls.mono (number_c m.to _ (hg.below Tb.bel)) ?_
    rintro e V2 ⟨rfl, hbV2⟩
    refine ⟨hbV2, ?_⟩
    have Tc := Tb.below hbV2
    refine ⟨_, fun w => add_str _ _ (dig m.from_ ++ [62]) (dig m.to) (by simp; omega) w, ?_⟩
    refine Calls.mono (number_c m.line _ (hg.below Tc.bel)) ?_
    rintro e V3 ⟨rfl, hbV3⟩
    refine ⟨hbV3, ?_⟩
    have Td := Tc.below hbV3
    refine ⟨⟨by decide, by decide, rfl⟩, [strV (dig m.from_ ++ [62] ++ dig m.to), strV [108, 105, 110, 101], strV (dig m.line)], rfl, ?_⟩
    refine ⟨(Below.refl _ _).alloc (Nat.le_refl _) _, ?_⟩
    refine app_words [dig m.from_ ++ [62] ++ dig m.to, [108, 105, 110, 101], dig m.line] Td rfl (by simp only [List.length_cons, List.length_nil]; omega) fun p' cap' W hW => ?_
    have hw : w1 m = w0 m ++ [dig m.from_ ++ [62] ++ dig m.to, [108, 105, 110, 101], dig m.line] := rfl
    exact ⟨(p', cap'), ⟨.cons rfl (.cons rfl (.cons rfl .nil)), rfl⟩, hW⟩
  clear T p cap V
  rintro ⟨p, cap⟩ V T
  refine ⟨Option Addr × Nat, fun s => ⟨txEnv w s.1 (w2 m).length s.2, []⟩, fun s V => TxS w m s.1 s.2 (w2 m) V, ?_, ?_⟩
  · refine ⟨_, cells_at (cells_block T.box) (i := 4) rfl, ?_⟩
    refine And.intro (fun h => ?_) (fun h => ?_)
    · have hc : ¬ m.asker = 0 := fun e => nqt h (by rw [e]; rfl)
      have hw : w2 m = w1 m ++ [[97, 115, 107, 101, 114], dig m.asker] := by unfold w2; rw [if_neg hc]
      refine ⟨_, cells_at (cells_block T.box) (i := 4) rfl, ?_⟩
      refine Calls.mono (number_c m.asker _ (hg.below T.bel)) ?_
      rintro e V1 ⟨rfl, hbV1⟩
      refine ⟨⟨by decide, by decide, rfl⟩, [strV [97, 115, 107, 101, 114], strV (dig m.asker)], rfl, ?_⟩
      refine app_words [[97, 115, 107, 101, 114], dig m.asker] (T.below hbV1) rfl (by simp only [List.length_cons, List.length_nil]; omega) fun p' cap' W hW => ?_
      exact ⟨(p', cap'), ⟨.cons rfl (.cons (by dsimp only; rw [hw]; rfl) (.cons rfl .nil)), rfl⟩, by dsimp only; rw [hw]; exact hW⟩
    · have hc : m.asker = 0 := u8_eq.1 (nqf h)
      have hw : w2 m = w1 m := by unfold w2; rw [if_pos hc, List.append_nil]
      exact ⟨(p, cap), ⟨.cons rfl (.cons (by dsimp only; rw [hw]; rfl) (.cons rfl .nil)), rfl⟩, by dsimp only; rw [hw]; exact T⟩
  clear T p cap V
  rintro ⟨p, cap⟩ V T
  refine ⟨Option Addr × Nat, fun s => ⟨txEnv w s.1 (w3 m).length s.2, []⟩, fun s V => TxS w m s.1 s.2 (w3 m) V, ?_, ?_⟩
  · refine ⟨_, cells_at (cells_block T.box) (i := 5) rfl, ?_⟩
    refine And.intro (fun h => ?_) (fun h => ?_)
    · have hc : ¬ m.acks = 0 := fun e => nqt h (by rw [e]; rfl)
      have hw : w3 m = w2 m ++ [[97, 99, 107, 115], dig m.acks] := by unfold w3; rw [if_neg hc]
      refine ⟨_, cells_at (cells_block T.box) (i := 5) rfl, ?_⟩
      refine Calls.mono (number_c m.acks _ (hg.below T.bel)) ?_
      rintro e V1 ⟨rfl, hbV1⟩
      refine ⟨⟨by decide, by decide, rfl⟩, [strV [97, 99, 107, 115], strV (dig m.acks)], rfl, ?_⟩
      refine app_words [[97, 99, 107, 115], dig m.acks] (T.below hbV1) rfl (by simp only [List.length_cons, List.length_nil]; omega) fun p' cap' W hW => ?_
      exact ⟨(p', cap'), ⟨.cons rfl (.cons (by dsimp only; rw [hw]; rfl) (.cons rfl .nil)), rfl⟩, by dsimp only; rw [hw]; exact hW⟩
    · have hc : m.acks = 0 := u8_eq.1 (nqf h)
      have hw : w3 m = w2 m := by unfold w3; rw [if_pos hc, List.append_nil]
      exact ⟨(p, cap), ⟨.cons rfl (.cons (by dsimp only; rw [hw]; rfl) (.cons rfl .nil)), rfl⟩, by dsimp only; rw [hw]; exact T⟩
  clear T p cap V
  rintro ⟨p, cap⟩ V T
  refine ⟨Option Addr × Nat, fun s => ⟨txEnv w s.1 (w4 m).length s.2, []⟩, fun s V => TxS w m s.1 s.2 (w4 m) V, ?_, ?_⟩
  · refine ⟨_, cells_at (cells_block T.box) (i := 6) rfl, ?_⟩
    refine And.intro (fun h => ?_) (fun h => ?_)
    · have hw : w4 m = w3 m ++ [[97, 108, 111, 110, 101]] := by unfold w4; rw [if_pos h]
      refine ⟨⟨by decide, by decide, rfl⟩, [strV [97, 108, 111, 110, 101]], rfl, ?_⟩
      refine app_words [[97, 108, 111, 110, 101]] T rfl (by simp only [List.length_cons, List.length_nil]; omega) fun p' cap' W hW => ?_
      exact ⟨(p', cap'), ⟨.cons rfl (.cons (by dsimp only; rw [hw]; rfl) (.cons rfl .nil)), rfl⟩, by dsimp only; rw [hw]; exact hW⟩
    · have hw : w4 m = w3 m := by unfold w4; rw [if_neg (by rw [h]; decide), List.append_nil]
      exact ⟨(p, cap), ⟨.cons rfl (.cons (by dsimp only; rw [hw]; rfl) (.cons rfl .nil)), rfl⟩, by dsimp only; rw [hw]; exact T⟩
  clear T p cap V
  rintro ⟨p, cap⟩ V T
  refine ⟨Option Addr × Nat, fun s => ⟨txEnv w s.1 (w5 m).length s.2, []⟩, fun s V => TxS w m s.1 s.2 (w5 m) V, ?_, ?_⟩
  · refine ⟨dcells m.d0 m.d1 m.d2 m.d3, rfl, cells_sub (n := 7) (m := 4) (cells_block T.box), hlt T.box, ?_⟩
    refine ⟨dcells 0 0 0 0, rfl, ?_⟩
    refine ⟨_, fun w => neq_data _ _ _ _ _ _ _ _ _ _ w, ?_⟩
    refine And.intro (fun h => ?_) (fun h => ?_)
    · have hc : ¬ (m.d0 = 0 ∧ m.d1 = 0 ∧ m.d2 = 0 ∧ m.d3 = 0) := fun ⟨a, b, c, d⟩ => by rw [a, b, c, d] at h; simp at h
      have hw : w5 m = w4 m ++ [[100, 97, 116, 97]] ++ [m.d0, m.d1, m.d2, m.d3].map dig := by unfold w5; rw [if_neg hc, List.append_assoc]; rfl
      refine ⟨⟨by decide, by decide, rfl⟩, [strV [100, 97, 116, 97]], rfl, ?_⟩
      refine app_words [[100, 97, 116, 97]] T rfl (by simp only [List.length_cons, List.length_nil]; omega) fun p1 cap1 W hW => ?_
      refine ⟨dcells m.d0 m.d1 m.d2 m.d3, rfl, cells_sub (n := 7) (m := 4) (cells_block hW.box), hlt hW.box, ?_⟩
      refine ⟨Nat × Option Addr × Nat, fun s => ⟨txEnv w s.2.1 (w4 m ++ [[100, 97, 116, 97]] ++ ([m.d0, m.d1, m.d2, m.d3].take s.1).map dig).length s.2.2 ++ [(75, .agg (dcells m.d0 m.d1 m.d2 m.d3).toArray), (76, .int .i64 s.1)], []⟩,
        fun s V => s.1 ≤ 4 ∧ TxS w m s.2.1 s.2.2 (w4 m ++ [[100, 97, 116, 97]] ++ ([m.d0, m.d1, m.d2, m.d3].take s.1).map dig) V, fun s => 4 - s.1, (0, p1, cap1),
        ⟨.cons rfl (.cons (by dsimp only [List.take, List.map]; rw [List.append_nil]; rfl) (.cons rfl (.cons rfl (.cons rfl .nil)))), rfl⟩, ⟨by dsimp only; omega, by dsimp only [List.take, List.map]; rw [List.append_nil]; exact hW⟩, ?_⟩
      rintro ⟨k, q, qc⟩ X ⟨hk, hX⟩
      dsimp only at hk hX
      refine And.intro (fun h => ?_) (fun h => ?_)
      · have h : (k : Int) < 4 := of_decide_eq_true h
        refine ⟨k, rfl, by omega, ?_⟩
        have hk4 : k = 0 ∨ k = 1 ∨ k = 2 ∨ k = 3 := by omega
        rcases hk4 with rfl | rfl | rfl | rfl
        · refine Calls.mono (number_c m.d0 _ (hg.below hX.bel)) ?_
          rintro e X1 ⟨rfl, hbX1⟩
          refine ⟨⟨by decide, by decide, rfl⟩, [strV (dig m.d0)], rfl, ?_⟩
          refine app_words [dig m.d0] (hX.below hbX1) rfl (by simp; omega) fun p' cap' W hW => ?_
          refine ⟨1, (wrap_i64 (by omega)).trans (by omega), ?_⟩
          rw [List.append_assoc (w4 m ++ [[100, 97, 116, 97]])] at hW ⊢
          exact ⟨(1, p', cap'), ⟨.cons rfl (.cons rfl (.cons rfl (.cons rfl (.cons rfl .nil)))), rfl⟩, ⟨by dsimp only; omega, hW⟩, by dsimp only; omega⟩
        · refine Calls.mono (number_c m.d1 _ (hg.below hX.bel)) ?_
          rintro e X1 ⟨rfl, hbX1⟩
          refine ⟨⟨by decide, by decide, rfl⟩, [strV (dig m.d1)], rfl, ?_⟩
          refine app_words [dig m.d1] (hX.below hbX1) rfl (by simp; omega) fun p' cap' W hW => ?_
          refine ⟨2, (wrap_i64 (by omega)).trans (by omega), ?_⟩
          rw [List.append_assoc (w4 m ++ [[100, 97, 116, 97]])] at hW ⊢
          exact ⟨(2, p', cap'), ⟨.cons rfl (.cons rfl (.cons rfl (.cons rfl (.cons rfl .nil)))), rfl⟩, ⟨by dsimp only; omega, hW⟩, by dsimp only; omega⟩
        · refine Calls.mono (number_c m.d2 _ (hg.below hX.bel)) ?_
          rintro e X1 ⟨rfl, hbX1⟩
          refine ⟨⟨by decide, by decide, rfl⟩, [strV (dig m.d2)], rfl, ?_⟩
          refine app_words [dig m.d2] (hX.below hbX1) rfl (by simp; omega) fun p' cap' W hW => ?_
          refine ⟨3, (wrap_i64 (by omega)).trans (by omega), ?_⟩
          rw [List.append_assoc (w4 m ++ [[100, 97, 116, 97]])] at hW ⊢
          exact ⟨(3, p', cap'), ⟨.cons rfl (.cons rfl (.cons rfl (.cons rfl (.cons rfl .nil)))), rfl⟩, ⟨by dsimp only; omega, hW⟩, by dsimp only; omega⟩
        · refine Calls.mono (number_c m.d3 _ (hg.below hX.bel)) ?_
          rintro e X1 ⟨rfl, hbX1⟩
          refine ⟨⟨by decide, by decide, rfl⟩, [strV (dig m.d3)], rfl, ?_⟩
          refine app_words [dig m.d3] (hX.below hbX1) rfl (by simp; omega) fun p' cap' W hW => ?_
          refine ⟨4, (wrap_i64 (by omega)).trans (by omega), ?_⟩
          rw [List.append_assoc (w4 m ++ [[100, 97, 116, 97]])] at hW ⊢
          exact ⟨(4, p', cap'), ⟨.cons rfl (.cons rfl (.cons rfl (.cons rfl (.cons rfl .nil)))), rfl⟩, ⟨by dsimp only; omega, hW⟩, by dsimp only; omega⟩
      · have h : ¬ (k : Int) < 4 := of_decide_eq_false h
        have hk4 : k = 4 := by omega
        subst hk4
        exact ⟨(q, qc), ⟨.cons rfl (.cons (by dsimp only; rw [hw]; rfl) (.cons rfl .nil)), rfl⟩, by dsimp only; rw [hw]; exact hX⟩
    · have hc : m.d0 = 0 ∧ m.d1 = 0 ∧ m.d2 = 0 ∧ m.d3 = 0 := by
        have h : (decide (m.d0 = 0) && decide (m.d1 = 0) && decide (m.d2 = 0) && decide (m.d3 = 0)) = true := by simpa using h
        simp only [Bool.and_eq_true, decide_eq_true_eq] at h
        exact ⟨h.1.1.1, h.1.1.2, h.1.2, h.2⟩
      have hw : w5 m = w4 m := by unfold w5; rw [if_pos hc, List.append_nil]
      exact ⟨(p, cap), ⟨.cons rfl (.cons (by dsimp only; rw [hw]; rfl) (.cons rfl .nil)), rfl⟩, by dsimp only; rw [hw]; exact T⟩
  clear T p cap V
  rintro ⟨p, cap⟩ V T
  have hne : 0 < (w5 m).length := by unfold w5 w4 w3 w2 w1; simp; omega
  rcases T.own.inv with ⟨_, _, e3⟩ | ⟨g, cur, e1, _, hgr, hlc, _, _, htk⟩
  · rw [e3] at hne; cases hne
  dsimp only at e1 hlc
  subst e1
  have hrow := T.own.row
  obtain ⟨bk, o, he, hbk, hc⟩ := hrow.at hne
  cases he
  have hmm : ((w5 m).map bs).map (fun x => x.data.toList) = w5 m := by rw [List.map_map]; exact List.map_id _
  have hjl := join_len (w5 m) (w_word m)
  have hJ := Tryd.strings_Join g 0 cap ((w5 m).map bs) (bs [32]) V (fun j x hx => by
      rw [List.getElem?_map, Option.map_eq_some_iff] at hx
      obtain ⟨a, ha, rfl⟩ := hx
      obtain ⟨hj, rfl⟩ := List.getElem?_eq_some_iff.1 ha
      have := cells_head (hc j hj)
      rwa [show strE.sz = 1 from rfl, Nat.mul_one] at this) hbk (by rw [List.length_map]; omega) (by rw [List.length_map]; exact hlc) (by rw [hmm]; show (Lib.join (w5 m) [32]).length ≤ _; omega)
  rw [List.length_map, hmm] at hJ
  refine Calls.mono hJ ?_
  rintro e W ⟨rfl, hbW⟩
  exact And.intro rfl (T.bel.trans (hbW.mono T.bel.size))
end Go.Proofs.YtkekidalckflhaaDoor
