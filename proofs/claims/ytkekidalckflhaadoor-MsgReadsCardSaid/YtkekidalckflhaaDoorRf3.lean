/- Law17: contracts of the reference: words, Text. -/
import Derived.Test.YtkekidalckflhaaDoorRf2
namespace Go.Proofs.YtkekidalckflhaaDoor
open Go.Vc Go.RowKit Go.Sei

theorem sp_len : ∀ (s w : List UInt8), (sp w s).length ≤ s.length + 1
  | [], _ => Nat.le_refl _
  | c :: r, w => by
    unfold sp
    split
    · rw [List.length_cons]; have := sp_len r []; simp only [List.length_cons]; omega
    · have := sp_len r (w ++ [c]); simp only [List.length_cons]; omega
theorem sp_ne (s w : List UInt8) : sp w s ≠ [] := by
  cases s with
  | nil => simp [sp]
  | cons c r => 
    unfold sp
    split
    · simp
    · exact sp_ne r _
theorem extract_one {s : List UInt8} {i : Nat} (h : i < s.length) : (bs s).extract i (i + 1) = bs [s[i]] := by
  apply ByteArray.ext
  simp only [bs, ByteArray.data_extract]
  apply Array.ext'
  simp only [Array.toList_extract, List.extract_eq_take_drop]
  rw [List.drop_eq_getElem_cons h, Nat.add_sub_cancel_left]
  rfl

theorem add_one (x y : Operand) {s : List UInt8} {i : Nat} (h : i < s.length) (a : List UInt8) (ha : a.length ≤ 1000000) (w : World) :
    (do eqGuard .add 9 x y (strV a) (.string ((bs s).extract i (i + 1))); binOp .add 9 (strV a) (.string ((bs s).extract i (i + 1)))).run Tryd.prog w = .ok (strV (a ++ [s[i]])) w := by
  rw [extract_one h]
  exact add_str x y a [s[i]] (by simp; omega) w
theorem words_c (s : List UInt8) (hs : s.length ≤ 1000) (w : World) : Calls Tryd.prog 29 #[strV s] w fun e w' => ∃ p cap, e = .returned (.slice p (sp [] s).length cap) ∧ SlR strE w' p (sp [] s) ∧ (sp [] s).length ≤ cap ∧ Below w.heap.size w w' := by
  refine calls_of_M (S := sg 41) (sgOk _) (args := [strV s]) (.s .p (.s .p (.s .p .p))) Tryd.func29 rfl rfl (Nat.le_of_ble_eq_true rfl) rfl ?_
  refine ⟨Nat × Option Addr × Nat × List (List UInt8) × List UInt8, fun t => ⟨[(0, strV s), (3, .slice t.2.1 t.2.2.2.1.length t.2.2.1), (4, strV t.2.2.2.2), (5, .int .i64 (t.1 : Nat))], []⟩,
    fun t V => t.1 ≤ s.length ∧ OwnS strE 9 w.heap.size V t.2.1 t.2.2.1 t.2.2.2.1 ∧ sp [] s = t.2.2.2.1 ++ sp t.2.2.2.2 (s.drop t.1) ∧ t.2.2.2.1.length ≤ t.1 ∧ t.2.2.2.2.length ≤ t.1 ∧ Below w.heap.size w V, fun t => s.length - t.1, (0, none, 0, [], []),
    ⟨.cons rfl (.cons rfl (.cons rfl (.cons rfl .nil))), rfl⟩, ⟨Nat.zero_le _, .nil, rfl, Nat.le_refl _, Nat.le_refl _, Below.refl _ _⟩, ?_⟩
  rintro ⟨i, p, cap, dn, cur⟩ V ⟨hi, ho, hsp, hdl, hcl, hb⟩
  dsimp only at hi ho hsp hdl hcl
  have es : (bs s).size = s.length := rfl
  have put : ∀ (X : World), OwnS strE 9 w.heap.size X p cap dn → Below w.heap.size w X → ∀ {K : Value → World → Prop}, (∀ p' cap' W, OwnS strE 9 w.heap.size W p' cap' (dn ++ [cur]) → Below w.heap.size w W → K (.slice p' (dn ++ [cur]).length cap') W) →
      SatR ((Builtin.append_ #[46, 46] 46 #[.slice p dn.length cap, .slice (some ⟨X.heap.size, 0, none⟩) 1 1]).run Tryd.prog (X.alloc (.cells [strV cur].toArray 9))) K := by
    intro X hoX hbX K k
    refine app_own (E := strE) (news := [cur]) (B := w.heap.size) Tryd.underlying46 (ttOk.get 9 _ rfl) rfl rfl rfl (hoX.alloc _) rfl (by rw [strE_flat]; exact cells_new) (by simp; have := hbX.size; omega) (by show dn.length + 1 ≤ _; omega) (by show (dn.length + 1) * 16 ≤ _; omega) ?_
    intro p' cap' W ho' _ hb' _
    exact k p' cap' W ho' ((hbX.alloc hbX.size _).trans hb')
  refine And.intro (fun h => ?_) (fun h => ?_)
  · have h : (i : Int) < ((bs s).size : Nat) := of_decide_eq_true h
    have hl : i < s.length := by omega
    have hdrop : s.drop i = s[i] :: s.drop (i + 1) := List.drop_eq_getElem_cons hl
    refine And.intro (fun _ => ?_) (fun h3 => absurd (of_decide_eq_false h3) (by omega))
    refine ⟨i, rfl, hl, s[i], List.getElem?_eq_getElem hl, ?_⟩
    refine And.intro (fun h1 => ?_) (fun h1 => ?_)
    · have h1 : s[i] = 32 := (u8_eq (y := 32)).1 (of_decide_eq_true h1)
      have hsp2 : sp [] s = (dn ++ [cur]) ++ sp [] (s.drop (i + 1)) := by
        rw [hsp, hdrop, sp, if_pos (.inl h1), List.append_assoc]; rfl
      refine And.intro (fun _ => ?_) (fun h => by cases h)
      refine ⟨⟨by decide, by decide, rfl⟩, [strV cur], rfl, ?_⟩
      refine put V ho hb fun p' cap' W ho' hb' => ?_
      refine ⟨((i + 1 : Nat) : Int), (wrap_i64 (by omega)).trans (by omega), ?_⟩
      exact ⟨(i + 1, p', cap', dn ++ [cur], []), ⟨.cons rfl (.cons rfl (.cons rfl (.cons rfl .nil))), rfl⟩, ⟨hl, ho', hsp2, by simp; omega, by simp, hb'⟩, by dsimp only; omega⟩
    · have h1 : s[i] ≠ 32 := fun e => absurd ((u8_eq (y := 32)).2 e) (of_decide_eq_false h1)
      refine ⟨i, rfl, hl, s[i], List.getElem?_eq_getElem hl, ?_⟩
      refine And.intro (fun h2 => ?_) (fun h2 => ?_)
      · have h2 : s[i] = 62 := (u8_eq (y := 62)).1 (of_decide_eq_true h2)
        have hsp2 : sp [] s = (dn ++ [cur]) ++ sp [] (s.drop (i + 1)) := by
          rw [hsp, hdrop, sp, if_pos (.inr h2), List.append_assoc]; rfl
        refine ⟨⟨by decide, by decide, rfl⟩, [strV cur], rfl, ?_⟩
        refine put V ho hb fun p' cap' W ho' hb' => ?_
        refine ⟨((i + 1 : Nat) : Int), (wrap_i64 (by omega)).trans (by omega), ?_⟩
        exact ⟨(i + 1, p', cap', dn ++ [cur], []), ⟨.cons rfl (.cons rfl (.cons rfl (.cons rfl .nil))), rfl⟩, ⟨hl, ho', hsp2, by simp; omega, by simp, hb'⟩, by dsimp only; omega⟩
      · have h2 : s[i] ≠ 62 := fun e => absurd ((u8_eq (y := 62)).2 e) (of_decide_eq_false h2)
        have hsp2 : sp [] s = dn ++ sp (cur ++ [s[i]]) (s.drop (i + 1)) := by
          rw [hsp, hdrop, sp, if_neg (by rintro (e | e); exact h1 e; exact h2 e)]
        refine ⟨((i + 1 : Nat) : Int), (wrap_i64 (by omega)).trans (by omega), ?_⟩
        refine ⟨i + 1, rfl, by omega, ?_⟩
        refine ⟨i, rfl, by omega, ?_⟩
        refine ⟨_, fun w => add_one _ _ hl cur (by omega) w, ?_⟩
        refine ⟨((i + 1 : Nat) : Int), (wrap_i64 (by omega)).trans (by omega), ?_⟩
        exact ⟨(i + 1, p, cap, dn, cur ++ [s[i]]), ⟨.cons rfl (.cons rfl (.cons rfl (.cons rfl .nil))), rfl⟩, ⟨hl, ho, hsp2, by dsimp only; omega, by simp; omega, hb⟩, by dsimp only; omega⟩
  · have h : ¬ (i : Int) < ((bs s).size : Nat) := of_decide_eq_false h
    have hsp2 : sp [] s = dn ++ [cur] := by
      rw [hsp, List.drop_eq_nil_of_le (by omega)]; rfl
    refine And.intro (fun h => by cases h) (fun _ => ?_)
    refine ⟨⟨by decide, by decide, rfl⟩, [strV cur], rfl, ?_⟩
    refine put V ho hb fun p' cap' W ho' hb' => ?_
    rw [hsp2]
    refine ⟨p', cap', rfl, ho'.row, ?_, hb'⟩
    rcases ho'.inv with ⟨_, _, h0⟩ | ⟨_, _, _, _, _, h0, _⟩
    · simp at h0
    · exact h0
end Go.Proofs.YtkekidalckflhaaDoor
