/- Law17: contracts of the reference: value, Bytes, Class, Less, Read. -/
import Derived.Test.YtkekidalckflhaaDoorRf1
import Derived.Test.YtkekidalckflhaaDoorMb0
namespace Go.Proofs.YtkekidalckflhaaDoor
open Go.Vc Go.RowKit Go.Sei

/-! ### value -/
theorem valN_snoc (c : UInt8) : ∀ (l : List UInt8) (n : Nat), valN (l ++ [c]) n = 10 * valN l n + (c - 48).toNat
  | [], _ => rfl
  | x :: l, n => by show valN (l ++ [c]) _ = 10 * valN l _ + _; exact valN_snoc c l _
theorem sub48 (c : UInt8) : IntKind.u8.wrap ((c.toNat : Int) - 48) = ((c - 48).toNat : Int) := by
  have h : ((List.range 256).all fun k => decide (IntKind.u8.wrap ((k : Int) - 48) = ((UInt8.ofNat k - 48).toNat : Int))) = true := by kernel_rfl
  have := of_decide_eq_true (List.all_eq_true.1 h c.toNat (List.mem_range.2 c.toNat_lt))
  rw [UInt8.ofNat_toNat] at this
  exact this
def vb : Nat → Nat
  | 0 => 0
  | 1 => 255
  | 2 => 2805
  | _ => 28305
theorem valueR_c (s : List UInt8) (hs : s.length ≤ 1000000000) (w : World) : Calls Tryd.prog 30 #[strV s] w fun e w' => e = .returned (u8 (valR s)) ∧ w = w' := by
  refine calls_of_M (S := sg 25) (sgOk _) (args := [strV s]) (.s .p (.s .p .p)) Tryd.func30 rfl rfl (Nat.le_of_ble_eq_true rfl) rfl ?_
  refine ⟨Nat, fun i => ⟨[(0, strV s), (3, .int .i64 (valN (s.take i) 0 : Nat)), (4, .int .i64 (i : Nat))], []⟩, fun i X => i ≤ 3 ∧ i ≤ s.length ∧ valN (s.take i) 0 ≤ vb i ∧ w = X, fun i => 3 - i, 0, ⟨.cons rfl (.cons rfl (.cons rfl .nil)), rfl⟩, ⟨by decide, by omega, Nat.le_refl _, rfl⟩, ?_⟩
  rintro i _ ⟨hi3, hil, hvb, rfl⟩
  have hend : ¬ (i < s.length ∧ i < 3) → u8 (valR s) = .int .u8 (((UInt8.ofNat (valN (s.take i) 0)).toNat : Nat) : Int) := fun h => by
    have : s.take i = s.take 3 := by
      rcases Nat.lt_or_ge i s.length with h1 | h1
      · have : i = 3 := by omega
        rw [this]
      · rw [List.take_of_length_le (by omega), List.take_of_length_le (by omega)]
    rw [this]; rfl
  have hstep : ∀ (hl : i < s.length), i < 3 → valN (s.take (i + 1)) 0 = 10 * valN (s.take i) 0 + (s[i] - 48).toNat ∧ valN (s.take (i + 1)) 0 ≤ vb (i + 1) := fun hl h3 => by
    have e : s.take (i + 1) = s.take i ++ [s[i]] := List.take_succ_eq_append_getElem hl
    have e2 := valN_snoc s[i] (s.take i) 0
    rw [e, e2]
    refine ⟨rfl, ?_⟩
    have hc := (s[i] - 48).toNat_lt
    have h3 : i = 0 ∨ i = 1 ∨ i = 2 := by omega
    rcases h3 with rfl | rfl | rfl <;> (simp only [vb] at hvb ⊢; omega)
  have hv3 : valN (s.take i) 0 ≤ 28305 := by
    have h3 : i = 0 ∨ i = 1 ∨ i = 2 ∨ i = 3 := by omega
    rcases h3 with rfl | rfl | rfl | rfl <;> (simp only [vb] at hvb; omega)
  refine And.intro (fun h => ?_) (fun h => ?_)
  · have h : (i : Int) < ((bs s).size : Nat) := of_decide_eq_true h
    have es : (bs s).size = s.length := rfl
    have hl : i < s.length := by omega
    refine And.intro (fun h3 => ?_) (fun h3 => ?_)
    · have h3 : (i : Int) < 3 := of_decide_eq_true h3
      obtain ⟨e1, e2⟩ := hstep hl (by omega)
      refine ⟨((10 * valN (s.take i) 0 : Nat) : Int), (wrap_i64 (by omega)).trans (by omega), ?_⟩
      refine ⟨i, rfl, hl, s[i], List.getElem?_eq_getElem hl, ?_⟩
      refine ⟨((s[i] - 48).toNat : Int), sub48 _, ?_⟩
      refine ⟨((s[i] - 48).toNat : Int), wrap_u8_i64 _, ?_⟩
      have hc := (s[i] - 48).toNat_lt
      refine ⟨((valN (s.take (i + 1)) 0 : Nat) : Int), by rw [e1]; exact (wrap_i64 (by omega)).trans (by omega), ?_⟩
      refine ⟨((i + 1 : Nat) : Int), (wrap_i64 (by omega)).trans (by omega), ?_⟩
      exact ⟨i + 1, ⟨.cons rfl (.cons rfl (.cons rfl .nil)), rfl⟩, ⟨by omega, hl, e2, rfl⟩, by dsimp only; omega⟩
    · have h3 : ¬ (i : Int) < 3 := of_decide_eq_false h3
      refine ⟨_, wrap_u8_nat _, ?_⟩
      exact And.intro (by rw [hend (by omega)]; rfl) rfl
  · have h : ¬ (i : Int) < ((bs s).size : Nat) := of_decide_eq_false h
    have es : (bs s).size = s.length := rfl
    refine And.intro (fun h => by cases h) (fun _ => ?_)
    refine ⟨_, wrap_u8_nat _, ?_⟩
    exact And.intro (by rw [hend (by omega)]; rfl) rfl

/-! ### Bytes -/
theorem BytesR_c (m : Msg) (w : World) : Calls Tryd.prog 20 #[m.val] w fun e w' => ∃ g, e = .returned (.slice (some ⟨g, 0, none⟩) 11 11) ∧ w'.heap[g]? = some (.cells ((codeOf m).map u8).toArray 5 (0, 0)) ∧ w.heap.size ≤ g ∧ Below w.heap.size w w' := by
  refine calls_of_M (S := sg 32) (sgOk _) (args := [m.val]) (.s .p (.s .p (.c .p .p))) Tryd.func20 rfl rfl (Nat.le_of_ble_eq_true rfl) rfl ?_
  have hb0 : Below w.heap.size w (w.alloc (.cells m.val.cells 30)) := (Below.refl _ _).alloc (Nat.le_refl _) _
  have f0 := hnew w (.cells m.val.cells 30)
  have c0 := cells_block f0
  refine ⟨Unit, fun _ => ⟨[(1, .pointer (some ⟨w.heap.size, 0, none⟩)), (3, u8 (if m.alone then 1 else 0))], []⟩, fun _ V => V = w.alloc (.cells m.val.cells 30), ?_, ?_⟩
  · refine ⟨_, cells_at c0 (i := 6) rfl, ?_⟩
    refine And.intro (fun h => ?_) (fun h => ?_)
    · exact ⟨(), ⟨.cons rfl (.cons (by rw [h]; rfl) .nil), rfl⟩, rfl⟩
    · exact ⟨(), ⟨.cons rfl (.cons (by rw [h]; rfl) .nil), rfl⟩, rfl⟩
  rintro _ _ rfl
  refine ⟨_, cells_at c0 (i := 0) rfl, ?_⟩
  refine ⟨_, cells_at c0 (i := 1) rfl, ?_⟩
  refine ⟨_, cells_at c0 (i := 2) rfl, ?_⟩
  refine ⟨_, cells_at c0 (i := 3) rfl, ?_⟩
  refine ⟨_, cells_at c0 (i := 4) rfl, ?_⟩
  refine ⟨_, cells_at c0 (i := 5) rfl, ?_⟩
  refine ⟨0, rfl, by decide, ?_⟩
  refine ⟨_, cells_at c0 (i := 7) rfl, ?_⟩
  refine ⟨1, rfl, by decide, ?_⟩
  refine ⟨_, cells_at c0 (i := 8) rfl, ?_⟩
  refine ⟨2, rfl, by decide, ?_⟩
  refine ⟨_, cells_at c0 (i := 9) rfl, ?_⟩
  refine ⟨3, rfl, by decide, ?_⟩
  refine ⟨_, cells_at c0 (i := 10) rfl, ?_⟩
  refine ⟨⟨by decide, by decide, rfl⟩, (codeOf m).map u8, by kernel_rfl, ?_⟩
  exact ⟨_, rfl, hnew _ _, hb0.size, hb0.alloc hb0.size _⟩

/-! ### Class -/
def clsR (k : UInt8) : UInt8 := classOf k
theorem ClassR_c (k : UInt8) (w : World) : Calls Tryd.prog 19 #[u8 k] w fun e w' => e = .returned (u8 (classOf k)) ∧ w = w' := by
  have tab : ∀ n : Nat, n < 256 → classes.getD n 0 = if n = 1 ∨ n = 2 ∨ n = 3 then 1 else if n = 6 ∨ n = 7 ∨ n = 8 ∨ n = 9 then 2 else if n = 4 ∨ n = 5 ∨ n = 10 ∨ n = 11 ∨ n = 12 then 3 else 0 := by
    intro n hn
    have h : ((List.range 256).all fun n => decide (classes.getD n 0 = if n = 1 ∨ n = 2 ∨ n = 3 then 1 else if n = 6 ∨ n = 7 ∨ n = 8 ∨ n = 9 then 2 else if n = 4 ∨ n = 5 ∨ n = 10 ∨ n = 11 ∨ n = 12 then 3 else 0)) = true := by kernel_rfl
    exact of_decide_eq_true (List.all_eq_true.1 h n (List.mem_range.2 hn))
  have hc : classOf k = _ := tab k.toNat k.toNat_lt
  refine calls_of_E (S := sg 20) (sgOk _) (args := [u8 k]) Tryd.func19 rfl rfl (Nat.le_of_ble_eq_true rfl) rfl ?_
  refine ⟨_, wrap_u8_i64 k, ?_⟩
  have h13 : k.toNat = 0 ∨ k.toNat = 1 ∨ k.toNat = 2 ∨ k.toNat = 3 ∨ k.toNat = 4 ∨ k.toNat = 5 ∨ k.toNat = 6 ∨ k.toNat = 7 ∨ k.toNat = 8 ∨ k.toNat = 9 ∨ k.toNat = 10 ∨ k.toNat = 11 ∨ k.toNat = 12 ∨ 13 ≤ k.toNat := by omega
  rcases h13 with hk | hk | hk | hk | hk | hk | hk | hk | hk | hk | hk | hk | hk | hk
  all_goals
    repeat first
      | exact And.intro (by rw [hc]; simp [hk]; rfl) rfl
      | exact And.intro (by rw [hc, if_neg (by omega), if_neg (by omega), if_neg (by omega)]; rfl) rfl
      | refine And.intro (fun h => absurd (of_decide_eq_true h) (by omega)) (fun _ => ?_)
      | refine And.intro (fun _ => ?_) (fun h => absurd (of_decide_eq_false h) (by omega))

/-! ### Less -/
theorem cmpL_at : ∀ (a b : List UInt8) (i : Nat), a.length = b.length → (∀ j, j < i → a[j]? = b[j]?) → ∀ (h : i < a.length) (h2 : i < b.length), a[i] ≠ b[i] → (decide (cmpL a b < 0) = decide (a[i].toNat < b[i].toNat))
  | x :: r, y :: s, 0, _, _, _, _, hne => by
    have hne : x ≠ y := hne
    rw [decide_eq_decide, cmpL_lt_cons]
    exact ⟨fun h => h.elim id (fun h => absurd h.1 hne), .inl⟩
  | x :: r, y :: s, i + 1, hl, he, h, h2, hne => by
    have h0 : x = y := by simpa using he 0 (by omega)
    subst h0
    have ih := cmpL_at r s i (by simpa using hl) (fun j hj => by simpa using he (j + 1) (by omega)) (by simpa using h) (by simpa using h2) (by simpa using hne)
    have e : cmpL (x :: r) (x :: s) = cmpL r s := by rw [cmpL, if_pos rfl]
    rw [e, ih]; rfl
  | [], _, _, _, _, h, _, _ => absurd h (by simp)
  | _ :: _, [], _, _, _, _, h2, _ => absurd h2 (by simp)
theorem codeOf_len (m : Msg) : (codeOf m).length = 11 := rfl
theorem LessR_c (a b : Msg) (w : World) : Calls Tryd.prog 9 #[a.val, b.val] w fun e w' => e = .returned (.bool (les a b)) ∧ Below w.heap.size w w' := by
  refine calls_of_M (S := sg 34) (sgOk _) (args := [a.val, b.val]) (.s .p (.s .p (.c .p .p))) Tryd.func9 rfl rfl (Nat.le_of_ble_eq_true rfl) rfl ?_
  have hb0 : Below w.heap.size w ((w.alloc (.cells a.val.cells 30)).alloc (.cells b.val.cells 30)) := ((Below.refl _ _).alloc (Nat.le_refl _) _).alloc (by simp) _
  have fa := hold (.cells b.val.cells 30) (hnew w (.cells a.val.cells 30))
  have fb := hnew (w.alloc (.cells a.val.cells 30)) (.cells b.val.cells 30)
  refine ⟨a.enc, rfl, cells_block fa, hlt fa, ?_⟩
  refine Calls.mono (BytesR_c a _) ?_
  rintro e V ⟨g1, rfl, k1, _, hb1⟩
  have hw1 := hb0.trans (hb1.mono hb0.size)
  have fb1 := block_below hb1 fb
  refine ⟨Nat × Nat, fun g => ⟨[(5, .slice (some ⟨g.1, 0, none⟩) 11 11), (6, .slice (some ⟨g.2, 0, none⟩) 11 11)], []⟩, fun g X => X.heap[g.1]? = some (.cells ((codeOf a).map u8).toArray 5 (0, 0)) ∧ X.heap[g.2]? = some (.cells ((codeOf b).map u8).toArray 5 (0, 0)) ∧ Below w.heap.size w X, ?_, ?_⟩
  · refine ⟨b.enc, rfl, cells_block fb1, hlt fb1, ?_⟩
    refine Calls.mono (BytesR_c b _) ?_
    rintro e X ⟨g2, rfl, k2, _, hb2⟩
    exact ⟨(_, _), ⟨.cons rfl (.cons rfl .nil), rfl⟩, block_below hb2 k1, k2, hw1.trans (hb2.mono hw1.size)⟩
  clear hb1 hw1 fb1 k1
  rintro ⟨g1, g2⟩ X ⟨k1, k2, hb⟩
  dsimp only at k1 k2
  refine ⟨Nat, fun i => ⟨[(5, .slice (some ⟨g1, 0, none⟩) 11 11), (6, .slice (some ⟨g2, 0, none⟩) 11 11), (7, .int .i64 (i : Nat))], []⟩, fun i Y => i ≤ 11 ∧ (∀ j, j < i → (codeOf a)[j]? = (codeOf b)[j]?) ∧
    Y.heap[g1]? = some (.cells ((codeOf a).map u8).toArray 5 (0, 0)) ∧ Y.heap[g2]? = some (.cells ((codeOf b).map u8).toArray 5 (0, 0)) ∧ Below w.heap.size w Y, fun i => 11 - i, 0, ⟨.cons rfl (.cons rfl (.cons rfl .nil)), rfl⟩, ⟨by decide, fun _ h => absurd h (by omega), k1, k2, hb⟩, ?_⟩
  clear k1 k2 hb X
  rintro i X ⟨hi, heq, k1, k2, hb⟩
  refine And.intro (fun h => ?_) (fun h => ?_)
  · have h : (i : Int) < 11 := of_decide_eq_true h
    have ha : i < (codeOf a).length := by rw [codeOf_len]; omega
    have hb' : i < (codeOf b).length := by rw [codeOf_len]; omega
    have ca : ∀ {Y : World}, Y.heap[g1]? = some (.cells ((codeOf a).map u8).toArray 5 (0, 0)) → Y.cell? ⟨g1, 0 + i * 1, none⟩ = some (u8 ((codeOf a)[i]'ha)) := fun h => by
      rw [Nat.mul_one]; exact cells_at (cells_block h) (by simp [ha])
    have cb : ∀ {Y : World}, Y.heap[g2]? = some (.cells ((codeOf b).map u8).toArray 5 (0, 0)) → Y.cell? ⟨g2, 0 + i * 1, none⟩ = some (u8 ((codeOf b)[i]'hb')) := fun h => by
      rw [Nat.mul_one]; exact cells_at (cells_block h) (by simp [hb'])
    refine DrawE.ord [] [0, 1, 2, 3, 4, 5, 6, 7, 8] (by kernel_rfl) ?_
    refine ⟨i, rfl, by omega, ?_⟩
    refine ⟨_, ca (hdr k1), ?_⟩
    refine ⟨i, rfl, by omega, ?_⟩
    refine ⟨_, cb (hdr k2), ?_⟩
    refine And.intro (fun h1 => ?_) (fun h1 => ?_)
    · have h1 : ¬ (((codeOf a)[i]'ha).toNat : Int) = (((codeOf b)[i]'hb').toNat : Int) := by
        have : (!decide ((((codeOf a)[i]'ha).toNat : Int) = (((codeOf b)[i]'hb').toNat : Int))) = true := h1
        simpa using this
      refine DrawE.ord [] [0, 1, 2, 3, 4, 5, 6, 7, 8, 9] (by kernel_rfl) ?_
      refine ⟨i, rfl, by omega, ?_⟩
      refine ⟨_, ca (hdr (hdr k1)), ?_⟩
      refine ⟨i, rfl, by omega, ?_⟩
      refine ⟨_, cb (hdr (hdr k2)), ?_⟩
      refine And.intro (rb ?_) hb.drew.drew
      have := cmpL_at (codeOf a) (codeOf b) i rfl heq ha hb' (fun e => h1 (u8_eq.2 e))
      unfold les
      rw [this, decide_eq_decide]
      exact Int.ofNat_lt
    · have h1 : (((codeOf a)[i]'ha).toNat : Int) = (((codeOf b)[i]'hb').toNat : Int) := by
        have : (!decide ((((codeOf a)[i]'ha).toNat : Int) = (((codeOf b)[i]'hb').toNat : Int))) = false := h1
        simpa using this
      have h1 := u8_eq.1 h1
      refine ⟨((i + 1 : Nat) : Int), (wrap_i64 (by omega)).trans (by omega), ?_⟩
      refine ⟨i + 1, ⟨.cons rfl (.cons rfl (.cons rfl .nil)), rfl⟩, ⟨by omega, fun j hj => ?_, hdr k1, hdr k2, hb.drew⟩, by dsimp only; omega⟩
      by_cases e : j = i
      · subst e; rw [List.getElem?_eq_getElem ha, List.getElem?_eq_getElem hb', h1]
      · exact heq j (by omega)
  · have h : ¬ (i : Int) < 11 := of_decide_eq_false h
    refine And.intro (rb ?_) hb
    have : codeOf a = codeOf b := List.ext_getElem? fun j => by
      by_cases hj : j < 11
      · exact heq j (by omega)
      · rw [List.getElem?_eq_none (by rw [codeOf_len]; omega), List.getElem?_eq_none (by rw [codeOf_len]; omega)]
    unfold les; rw [this, cmpL_self]; rfl

/-! ### Read -/
theorem ReadR_c (p : Option Addr) (cap : Nat) (l : List UInt8) (w : World) (hl : SlR byteE w p l) (hc : l.length ≤ cap) :
    Calls Tryd.prog 14 #[.slice p l.length cap] w fun e w' => e = .returned (.tuple #[(readL l).1.val, .bool (readL l).2]) ∧ Below w.heap.size w w' := by
  refine calls_of_E (S := sg 50) (sgOk _) (args := [.slice p l.length cap]) Tryd.func14 rfl rfl (Nat.le_of_ble_eq_true rfl) rfl ?_
  have hb0 : Below w.heap.size w (w.alloc (.cells zeroM.val.cells 30)) := (Below.refl _ _).alloc (Nat.le_refl _) _
  have f0 := hnew w (.cells zeroM.val.cells 30)
  have hl0 := hl.below hb0
  refine And.intro (fun h => ?_) (fun h => ?_)
  · have h : ¬ (l.length : Int) = 11 := by simpa using h
    have hr := readL_len (l := l) (fun e => h (by omega))
    refine And.intro (fun _ => ?_) (fun h => by cases h)
    refine ⟨zeroM.enc, rfl, ?_⟩
    refine store_box (v := zeroM.val) (ttOk.get 30 _ rfl) f0 (by rfl) rfl (by rfl) ?_
    refine ⟨zeroM.enc, rfl, cells_block (setRow_new f0), ?_⟩
    rw [hr]
    exact And.intro rfl (below_setRow hb0 (Nat.le_refl _) _)
  have h : (l.length : Int) = 11 := by simpa using h
  have hlen : l.length = 11 := by omega
  match l, hlen with
  | [b0, b1, b2, b3, b4, b5, b6, b7, b8, b9, b10], _ =>
    obtain ⟨b, o, hp, hbk, hcl⟩ := hl0.at (i := 0) (by simp)
    subst hp
    refine ⟨6, rfl, by simp, ?_⟩
    refine ⟨_, cells_head (hcl 6 (by simp)), ?_⟩
    refine And.intro (fun h1 => ?_) (fun h1 => ?_)
    · have h1 : (1 : Int) < b6.toNat := of_decide_eq_true h1
      have hr : readL [b0, b1, b2, b3, b4, b5, b6, b7, b8, b9, b10] = (zeroM, false) := by show (if b6.toNat ≤ 1 then _ else _) = _; rw [if_neg (by omega)]
      refine ⟨zeroM.enc, rfl, ?_⟩
      refine store_box (v := zeroM.val) (ttOk.get 30 _ rfl) f0 (by rfl) rfl (by rfl) ?_
      refine ⟨zeroM.enc, rfl, cells_block (setRow_new f0), ?_⟩
      rw [hr]
      exact And.intro rfl (below_setRow hb0 (Nat.le_refl _) _)
    · have h1 : ¬ (1 : Int) < b6.toNat := of_decide_eq_false h1
      have hr : readL [b0, b1, b2, b3, b4, b5, b6, b7, b8, b9, b10] = (⟨b0, b1, b2, b3, b4, b5, decide (b6 = 1), b7, b8, b9, b10⟩, true) := by show (if b6.toNat ≤ 1 then _ else _) = _; rw [if_pos (by omega)]
      have hl1 : ∀ (i : Nat) (hi : i < 11), Cells (w.alloc (.cells zeroM.val.cells 30)).drew ⟨b, o + i * 1, none⟩ [u8 ([b0, b1, b2, b3, b4, b5, b6, b7, b8, b9, b10][i]'hi)] := fun i hi => hcl i hi
      refine DrawE.ord [36] [0, 1, 2, 3, 4, 5, 6, 7, 8, 9, 10, 11, 12, 13, 14, 15, 16, 17, 18, 19, 20, 21, 22, 23, 24, 25, 26, 27, 28, 29, 30, 31, 32, 33, 34, 35, 36, 37] (by kernel_rfl) ?_
      refine ⟨0, rfl, by simp, ?_⟩
      refine ⟨_, cells_head (hl1 0 (by decide)), ?_⟩
      refine ⟨1, rfl, by simp, ?_⟩
      refine ⟨_, cells_head (hl1 1 (by decide)), ?_⟩
      refine ⟨2, rfl, by simp, ?_⟩
      refine ⟨_, cells_head (hl1 2 (by decide)), ?_⟩
      refine ⟨3, rfl, by simp, ?_⟩
      refine ⟨_, cells_head (hl1 3 (by decide)), ?_⟩
      refine ⟨4, rfl, by simp, ?_⟩
      refine ⟨_, cells_head (hl1 4 (by decide)), ?_⟩
      refine ⟨5, rfl, by simp, ?_⟩
      refine ⟨_, cells_head (hl1 5 (by decide)), ?_⟩
      refine ⟨6, rfl, by simp, ?_⟩
      refine ⟨_, cells_head (hl1 6 (by decide)), ?_⟩
      refine ⟨7, rfl, by simp, ?_⟩
      refine ⟨_, cells_head (hl1 7 (by decide)), ?_⟩
      refine ⟨8, rfl, by simp, ?_⟩
      refine ⟨_, cells_head (hl1 8 (by decide)), ?_⟩
      refine ⟨9, rfl, by simp, ?_⟩
      refine ⟨_, cells_head (hl1 9 (by decide)), ?_⟩
      refine ⟨10, rfl, by simp, ?_⟩
      refine ⟨_, cells_head (hl1 10 (by decide)), ?_⟩
      refine ⟨dcells b7 b8 b9 b10, rfl, ?_⟩
      obtain ⟨M1, hM1⟩ : ∃ M1 : Msg, M1 = ⟨b0, b1, b2, b3, b4, b5, decide ((b6.toNat : Int) = 1), b7, b8, b9, b10⟩ := ⟨_, rfl⟩
      refine ⟨M1.enc, by rw [hM1]; rfl, ?_⟩
      refine store_box (v := M1.val) (ttOk.get 30 _ rfl) (hdr f0) (by rfl) rfl (by rfl) ?_
      refine ⟨M1.enc, rfl, cells_block (setRow_new (hdr f0)), ?_⟩
      have hd : decide ((b6.toNat : Int) = 1) = decide (b6 = 1) := by rw [decide_eq_decide]; exact u8_eq (y := 1)
      rw [hr, hM1, hd]
      exact And.intro rfl (below_setRow hb0.drew (Nat.le_refl _) _)
end Go.Proofs.YtkekidalckflhaaDoor
