/- Contracts: swapRange and rotate of the stable sort, at messages. -/
import Derived.Test.YtflljnnndmkfkaaDoorVcS
import Derived.Test.YtflljnnndmkfkaaDoorSl1
namespace Go.Proofs.YtflljnnndmkfkaaDoor
open Go.Vc Go.RowKit Go.Sei

abbrev RowM (w : World) (g : Nat) (sp : List Value) (l : List Msg) : Prop := RowS Msg.E 30 w g sp l

theorem swap_c (g cap a b n L : Nat) (sp : List Value) (P X M Y Q : List Msg) (cmp : Value) (w : World) (hr : RowM w g sp (P ++ X ++ M ++ Y ++ Q)) (hX : X.length = n) (hY : Y.length = n)
    (ha : P.length = a) (hb : b = P.length + X.length + M.length) (hL : L = (P ++ X ++ M ++ Y ++ Q).length) (hl : L ≤ 1000000000) :
    Calls Tryd.prog 37 #[.slice (some ⟨g, 0, none⟩) L cap, .int .i64 a, .int .i64 b, .int .i64 n, cmp] w
      fun e w' => (∃ v, e = .returned v) ∧ RowM w' g sp (P ++ Y ++ M ++ X ++ Q) ∧ w.grownBy w' (some g) := by
  subst ha
  have hL2 : L = b + n + Q.length := by rw [hL, hb]; simp; omega
  refine calls_of_E (S := sg 38) (sgOk _) (args := [.slice (some ⟨g, 0, none⟩) L cap, .int .i64 P.length, .int .i64 b, .int .i64 n, cmp]) Tryd.func37 rfl rfl (Nat.le_of_ble_eq_true rfl) rfl ?_
  refine ⟨Nat, fun k => ⟨[(0, .slice (some ⟨g, 0, none⟩) L cap), (1, .int .i64 P.length), (2, .int .i64 b), (3, .int .i64 n), (10, .int .i64 (k : Nat))], []⟩,
    fun k W => k ≤ n ∧ RowM W g sp (P ++ Y.take k ++ X.drop k ++ M ++ X.take k ++ Y.drop k ++ Q) ∧ w.grownBy W (some g), fun k => n - k, 0,
    ⟨.cons rfl (.cons rfl (.cons rfl (.cons rfl (.cons rfl .nil)))), rfl⟩, ⟨Nat.zero_le _, by simpa using hr, grown_refl _ _⟩, ?_⟩
  rintro k W ⟨hk, hrW, hgW⟩
  refine And.intro (fun h => ?_) (fun h => ?_)
  · have h := of_decide_eq_true h
    have hkn : k < n := by omega
    have hx : X.drop k = X[k] :: X.drop (k + 1) := List.drop_eq_getElem_cons (by omega)
    have hy : Y.drop k = Y[k] :: Y.drop (k + 1) := List.drop_eq_getElem_cons (by omega)
    have e0 : P ++ Y.take k ++ X.drop k ++ M ++ X.take k ++ Y.drop k ++ Q = (P ++ Y.take k) ++ X[k] :: (X.drop (k + 1) ++ M ++ X.take k ++ Y[k] :: (Y.drop (k + 1) ++ Q)) := by rw [hx, hy]; simp only [List.append_assoc, List.cons_append]
    have hA : (P ++ Y.take k).length = P.length + k := by simp; omega
    have hB : ∀ z : Msg, ((P ++ Y.take k) ++ z :: (X.drop (k + 1) ++ M ++ X.take k)).length = b + k := fun z => by simp [hb]; omega
    have r0 : RowM W.drew g sp ((P ++ Y.take k) ++ X[k] :: (X.drop (k + 1) ++ M ++ X.take k ++ Y[k] :: (Y.drop (k + 1) ++ Q))) := e0 ▸ hrW
    have r1 : RowM W.drew g sp (((P ++ Y.take k) ++ X[k] :: (X.drop (k + 1) ++ M ++ X.take k)) ++ Y[k] :: (Y.drop (k + 1) ++ Q)) := by
      have : ((P ++ Y.take k) ++ X[k] :: (X.drop (k + 1) ++ M ++ X.take k)) ++ Y[k] :: (Y.drop (k + 1) ++ Q) = (P ++ Y.take k) ++ X[k] :: (X.drop (k + 1) ++ M ++ X.take k ++ Y[k] :: (Y.drop (k + 1) ++ Q)) := by simp
      rw [this]; exact r0
    have hgl := r0.lt
    refine DrawE.ord [21, 23] [0, 1, 2, 3, 4, 5, 6, 7, 8, 9, 10, 11, 12, 13, 14, 15, 16, 17, 18, 19, 20, 21, 22, 23] (by kernel_rfl) ?_
    refine ⟨(P.length + k : Nat), (wrap_i64 (by omega)).trans (by omega), ?_⟩
    refine ⟨(b + k : Nat), (wrap_i64 (by omega)).trans (by omega), ?_⟩
    refine ⟨(b + k : Nat), (wrap_i64 (by omega)).trans (by omega), ?_⟩
    refine ⟨b + k, rfl, by omega, ?_⟩
    refine ⟨Y[k].enc, rfl, r1.mid (hB _), hgl, ?_⟩
    refine ⟨(P.length + k : Nat), (wrap_i64 (by omega)).trans (by omega), ?_⟩
    refine ⟨P.length + k, rfl, by omega, ?_⟩
    refine ⟨X[k].enc, rfl, r0.mid hA, hgl, ?_⟩
    refine ⟨P.length + k, rfl, by omega, ?_⟩
    refine store_mid (ttOk.get 30 _ rfl) rfl r0 hA Y[k] fun V1 s1 g1 z1 => ?_
    refine ⟨b + k, rfl, by omega, ?_⟩
    have s2 : RowM V1 g sp (((P ++ Y.take k) ++ Y[k] :: (X.drop (k + 1) ++ M ++ X.take k)) ++ Y[k] :: (Y.drop (k + 1) ++ Q)) := by
      have : ((P ++ Y.take k) ++ Y[k] :: (X.drop (k + 1) ++ M ++ X.take k)) ++ Y[k] :: (Y.drop (k + 1) ++ Q) = (P ++ Y.take k) ++ Y[k] :: (X.drop (k + 1) ++ M ++ X.take k ++ Y[k] :: (Y.drop (k + 1) ++ Q)) := by simp
      rw [this]; exact s1
    refine store_mid (ttOk.get 30 _ rfl) rfl s2 (hB _) X[k] fun V2 s3 g2 z2 => ?_
    refine ⟨(k + 1 : Nat), (wrap_i64 (by omega)).trans (by omega), ?_⟩
    refine ⟨k + 1, ⟨.cons rfl (.cons rfl (.cons rfl (.cons rfl (.cons rfl .nil)))), rfl⟩, ⟨hkn, ?_, grown_trans hgW (grown_trans (grown_of_below (Below.refl _ W).drew) (grown_trans g1 g2))⟩, by dsimp only; omega⟩
    have : P ++ Y.take (k + 1) ++ X.drop (k + 1) ++ M ++ X.take (k + 1) ++ Y.drop (k + 1) ++ Q = ((P ++ Y.take k) ++ Y[k] :: (X.drop (k + 1) ++ M ++ X.take k)) ++ X[k] :: (Y.drop (k + 1) ++ Q) := by
      rw [List.take_succ_eq_append_getElem (by omega), List.take_succ_eq_append_getElem (by omega)]; simp only [List.append_assoc, List.cons_append, List.nil_append]
    rw [this]; exact s3
  · have h := of_decide_eq_false h
    have hkn : k = n := by omega
    subst hkn
    refine And.intro ⟨_, rfl⟩ (And.intro ?_ hgW)
    rw [List.take_of_length_le (by omega), List.take_of_length_le (by omega), List.drop_of_length_le (by omega), List.drop_of_length_le (by omega)] at hrW
    simpa using hrW

theorem rotate_c (g cap a m b L : Nat) (sp : List Value) (A X Y B : List Msg) (cmp : Value) (w : World) (hr : RowM w g sp (A ++ X ++ Y ++ B)) (hX : X ≠ []) (hY : Y ≠ [])
    (ha : A.length = a) (hm : A.length + X.length = m) (hb : A.length + X.length + Y.length = b) (hL : L = (A ++ X ++ Y ++ B).length) (hl : L ≤ 1000000000) :
    Calls Tryd.prog 36 #[.slice (some ⟨g, 0, none⟩) L cap, .int .i64 a, .int .i64 m, .int .i64 b, cmp] w
      fun e w' => (∃ v, e = .returned v) ∧ RowM w' g sp (A ++ Y ++ X ++ B) ∧ w.grownBy w' (some g) := by
  have hX0 : 0 < X.length := List.length_pos_iff.2 hX
  have hY0 : 0 < Y.length := List.length_pos_iff.2 hY
  have hL2 : L = A.length + X.length + Y.length + B.length := by rw [hL]; simp; omega
  refine calls_of_E (S := sg 58) (sgOk _) (args := [.slice (some ⟨g, 0, none⟩) L cap, .int .i64 a, .int .i64 m, .int .i64 b, cmp]) Tryd.func36 rfl rfl (Nat.le_of_ble_eq_true rfl) rfl ?_
  refine ⟨(X.length : Nat), (wrap_i64 (by first | omega | (dsimp only; omega))).trans (by first | omega | (dsimp only; omega)), ?_⟩
  refine ⟨(Y.length : Nat), (wrap_i64 (by first | omega | (dsimp only; omega))).trans (by first | omega | (dsimp only; omega)), ?_⟩
  refine ⟨List Msg × List Msg × List Msg × List Msg, fun s => ⟨[(0, .slice (some ⟨g, 0, none⟩) L cap), (1, .int .i64 a), (2, .int .i64 m), (3, .int .i64 b), (4, cmp), (10, .int .i64 s.2.1.length), (11, .int .i64 s.2.2.1.length)], []⟩,
    fun s W => RowM W g sp (s.1 ++ s.2.1 ++ s.2.2.1 ++ s.2.2.2) ∧ s.1.length + s.2.1.length = m ∧ s.2.1 ≠ [] ∧ s.2.2.1 ≠ [] ∧ s.1 ++ s.2.2.1 ++ s.2.1 ++ s.2.2.2 = A ++ Y ++ X ++ B ∧ w.grownBy W (some g),
    fun s => s.2.1.length + s.2.2.1.length, (A, X, Y, B), ⟨.cons rfl (.cons rfl (.cons rfl (.cons rfl (.cons rfl (.cons rfl (.cons rfl .nil)))))), rfl⟩, ⟨hr, hm, hX, hY, rfl, grown_refl _ _⟩, ?_⟩
  rintro ⟨P, X', Y', Q⟩ W ⟨hrW, hmW, hX', hY', ht, hgW⟩
  dsimp only at hrW hmW hX' hY' ht
  have hX1 : 0 < X'.length := List.length_pos_iff.2 hX'
  have hY1 : 0 < Y'.length := List.length_pos_iff.2 hY'
  have htl : P.length + Y'.length + X'.length + Q.length = L := by
    have := congrArg List.length ht
    simp at this; omega
  refine And.intro (fun h => ?_) (fun h => ?_)
  · have h : ¬ (X'.length : Int) = Y'.length := by simpa using h
    refine And.intro (fun h2 => ?_) (fun h2 => ?_)
    · have h2 : (Y'.length : Int) < X'.length := of_decide_eq_true h2
      have e : X' = X'.take Y'.length ++ X'.drop Y'.length := (List.take_append_drop _ _).symm
      have hl1 : (X'.take Y'.length).length = Y'.length := by rw [List.length_take]; omega
      have hl2 : (X'.drop Y'.length).length = X'.length - Y'.length := by simp
      obtain ⟨X1, hX1e⟩ : ∃ X1, X1 = X'.take Y'.length := ⟨_, rfl⟩
      obtain ⟨X2, hX2e⟩ : ∃ X2, X2 = X'.drop Y'.length := ⟨_, rfl⟩
      rw [← hX1e, ← hX2e] at e
      rw [← hX1e] at hl1
      rw [← hX2e] at hl2
      refine ⟨(P.length : Nat), (wrap_i64 (by first | omega | (dsimp only; omega))).trans (by first | omega | (dsimp only; omega)), ?_⟩
      refine Calls.mono (swap_c g cap P.length m Y'.length L sp P X1 X2 Y' Q cmp W (by rw [e] at hrW; simpa using hrW) hl1 rfl rfl (by omega) (by simp; omega) hl) ?_
      rintro e2 V ⟨⟨v, rfl⟩, hrV, hgV⟩
      refine ⟨(X2.length : Nat), (wrap_i64 (by first | omega | (dsimp only; omega))).trans (by first | omega | (dsimp only; omega)), ?_⟩
      refine ⟨(P ++ Y', X2, X1, Q), ⟨.cons rfl (.cons rfl (.cons rfl (.cons rfl (.cons rfl (.cons rfl (.cons (by rw [hl1]; rfl) .nil)))))), rfl⟩, ⟨by simpa using hrV, by simp; omega, ?_, ?_, ?_, grown_trans hgW hgV⟩, by dsimp only; omega⟩
      · exact List.ne_nil_of_length_pos (by dsimp only; omega)
      · exact List.ne_nil_of_length_pos (by dsimp only; omega)
      · rw [← ht, e]; simp
    · have h2 : ¬ (Y'.length : Int) < X'.length := of_decide_eq_false h2
      have e : Y' = Y'.take (Y'.length - X'.length) ++ Y'.drop (Y'.length - X'.length) := (List.take_append_drop _ _).symm
      have hl1 : (Y'.take (Y'.length - X'.length)).length = Y'.length - X'.length := by rw [List.length_take]; omega
      have hl2 : (Y'.drop (Y'.length - X'.length)).length = X'.length := by simp; omega
      obtain ⟨Y1, hY1e⟩ : ∃ Y1, Y1 = Y'.take (Y'.length - X'.length) := ⟨_, rfl⟩
      obtain ⟨Y2, hY2e⟩ : ∃ Y2, Y2 = Y'.drop (Y'.length - X'.length) := ⟨_, rfl⟩
      rw [← hY1e, ← hY2e] at e
      rw [← hY1e] at hl1
      rw [← hY2e] at hl2
      refine ⟨(P.length : Nat), (wrap_i64 (by first | omega | (dsimp only; omega))).trans (by first | omega | (dsimp only; omega)), ?_⟩
      refine ⟨(m + Y'.length : Nat), (wrap_i64 (by first | omega | (dsimp only; omega))).trans (by first | omega | (dsimp only; omega)), ?_⟩
      refine ⟨(m + Y'.length - X'.length : Nat), (wrap_i64 (by first | omega | (dsimp only; omega))).trans (by first | omega | (dsimp only; omega)), ?_⟩
      refine Calls.mono (swap_c g cap P.length (m + Y'.length - X'.length) X'.length L sp P X' Y1 Y2 Q cmp W (by rw [e] at hrW; simpa using hrW) rfl hl2 rfl (by omega) (by simp; omega) hl) ?_
      rintro e2 V ⟨⟨v, rfl⟩, hrV, hgV⟩
      refine ⟨(Y1.length : Nat), (wrap_i64 (by first | omega | (dsimp only; omega))).trans (by first | omega | (dsimp only; omega)), ?_⟩
      refine ⟨(P, Y2, Y1, X' ++ Q), ⟨.cons rfl (.cons rfl (.cons rfl (.cons rfl (.cons rfl (.cons (by rw [hl2]; rfl) (.cons rfl .nil)))))), rfl⟩, ⟨by simpa using hrV, by dsimp only; omega, ?_, ?_, ?_, grown_trans hgW hgV⟩, by dsimp only; omega⟩
      · exact List.ne_nil_of_length_pos (by dsimp only; omega)
      · exact List.ne_nil_of_length_pos (by dsimp only; omega)
      · rw [← ht, e]; simp
  · have h : (X'.length : Int) = Y'.length := by simpa using h
    refine ⟨(P.length : Nat), (wrap_i64 (by first | omega | (dsimp only; omega))).trans (by first | omega | (dsimp only; omega)), ?_⟩
    refine Calls.mono (swap_c g cap P.length m X'.length L sp P X' [] Y' Q cmp W (by simpa using hrW) rfl (by omega) rfl (by simp; omega) (by simp; omega) hl) ?_
    rintro e2 V ⟨⟨v, rfl⟩, hrV, hgV⟩
    refine And.intro ⟨_, rfl⟩ (And.intro ?_ (grown_trans hgW hgV))
    rw [← ht]; simpa using hrV
end Go.Proofs.YtflljnnndmkfkaaDoor
