/- Law17: contracts of the reference: Text. -/
import Derived.Test.YtkekidalckflhaaDoorRf3
namespace Go.Proofs.YtkekidalckflhaaDoor
open Go.Vc Go.RowKit Go.Sei

theorem join_app (c : UInt8) : ∀ (xs ys : List (List UInt8)), xs ≠ [] → ys ≠ [] → Lib.join (xs ++ ys) [c] = Lib.join xs [c] ++ c :: Lib.join ys [c]
  | [], _, h, _ => absurd rfl h
  | [x], y :: ys, _, _ => by rw [Lib.join_one]; exact join_cons2 x y ys c
  | [x], [], _, h => absurd rfl h
  | x :: y :: xs, ys, _, h => by
    have ih := join_app c (y :: xs) ys (by simp) h
    show Lib.join (x :: y :: (xs ++ ys)) [c] = _
    rw [join_cons2, join_cons2]
    have : Lib.join (y :: (xs ++ ys)) [c] = Lib.join (y :: xs) [c] ++ c :: Lib.join ys [c] := ih
    rw [this]; simp
/-- The text of the words, stage by stage. -/
def t0 (m : Msg) : List UInt8 := if classOf m.kind = 0 then [107, 105, 110, 100, 32] ++ dig m.kind else kindNames.getD m.kind.toNat []
def t1 (m : Msg) : List UInt8 := ((((((t0 m ++ [32]) ++ dig m.from_) ++ [62]) ++ dig m.to) ++ [32, 108, 105, 110, 101, 32]) ++ dig m.line)
def t2 (m : Msg) : List UInt8 := if m.asker = 0 then t1 m else (t1 m ++ [32, 97, 115, 107, 101, 114, 32]) ++ dig m.asker
def t3 (m : Msg) : List UInt8 := if m.acks = 0 then t2 m else (t2 m ++ [32, 97, 99, 107, 115, 32]) ++ dig m.acks
def t4 (m : Msg) : List UInt8 := if m.alone then t3 m ++ [32, 97, 108, 111, 110, 101] else t3 m
def dOf (m : Msg) : List UInt8 := [m.d0, m.d1, m.d2, m.d3]
def t5 (m : Msg) : Nat → List UInt8
  | 0 => t4 m ++ [32, 100, 97, 116, 97]
  | k + 1 => (t5 m k ++ [32]) ++ dig ((dOf m).getD k 0)
theorem t0_join (m : Msg) : t0 m = Lib.join (w0 m) [32] := by
  unfold t0 w0
  split
  · rw [join_cons2, Lib.join_one]; rfl
  · rw [Lib.join_one]
theorem w_ne (m : Msg) : w0 m ≠ [] ∧ w1 m ≠ [] ∧ w2 m ≠ [] ∧ w3 m ≠ [] ∧ w4 m ≠ [] := by
  have h0 : w0 m ≠ [] := by unfold w0; split <;> simp
  have h1 : w1 m ≠ [] := by unfold w1; simp
  have h2 : w2 m ≠ [] := by unfold w2; simp [h1]
  have h3 : w3 m ≠ [] := by unfold w3; simp [h2]
  exact ⟨h0, h1, h2, h3, by unfold w4; simp [h3]⟩
theorem t1_join (m : Msg) : t1 m = Lib.join (w1 m) [32] := by
  unfold t1 w1
  rw [join_app 32 _ _ (w_ne m).1 (by simp), join_cons2, join_cons2, Lib.join_one, t0_join]
  simp
theorem t2_join (m : Msg) : t2 m = Lib.join (w2 m) [32] := by
  unfold t2 w2
  split
  · rw [List.append_nil, t1_join]
  · rw [join_app 32 _ _ (w_ne m).2.1 (by simp), join_cons2, Lib.join_one, t1_join]; simp
theorem t3_join (m : Msg) : t3 m = Lib.join (w3 m) [32] := by
  unfold t3 w3
  split
  · rw [List.append_nil, t2_join]
  · rw [join_app 32 _ _ (w_ne m).2.2.1 (by simp), join_cons2, Lib.join_one, t2_join]; simp
theorem t4_join (m : Msg) : t4 m = Lib.join (w4 m) [32] := by
  unfold t4 w4
  split
  · rw [join_app 32 _ _ (w_ne m).2.2.2.1 (by simp), Lib.join_one, t3_join]
  · rw [List.append_nil, t3_join]
theorem t5_text (m : Msg) : textOf m = if m.d0 = 0 ∧ m.d1 = 0 ∧ m.d2 = 0 ∧ m.d3 = 0 then t4 m else t5 m 4 := by
  unfold textOf w5
  split
  · rw [List.append_nil, t4_join]
  · rw [join_app 32 _ _ (w_ne m).2.2.2.2 (by simp), join_cons2, join_cons2, join_cons2, join_cons2, Lib.join_one]
    show _ = (((((((t4 m ++ [32, 100, 97, 116, 97]) ++ [32]) ++ dig m.d0) ++ [32]) ++ dig m.d1) ++ [32]) ++ dig m.d2 ++ [32]) ++ dig m.d3
    rw [t4_join]; simp
theorem t_len (m : Msg) : (t0 m).length ≤ 60 ∧ (t1 m).length ≤ 200 ∧ (t2 m).length ≤ 260 ∧ (t3 m).length ≤ 320 ∧ (t4 m).length ≤ 340 ∧ ∀ k, k ≤ 4 → (t5 m k).length ≤ 350 + 30 * k := by
  have hd := fun n => dig_len n
  have hk : ((List.range 256).all fun k => Nat.ble (kindNames.getD k []).length 60) = true := by kernel_rfl
  have h0 : (t0 m).length ≤ 60 := by
    unfold t0
    split
    · have := hd m.kind; simp; omega
    · exact Nat.le_of_ble_eq_true (List.all_eq_true.1 hk m.kind.toNat (List.mem_range.2 m.kind.toNat_lt))
  have h1 : (t1 m).length ≤ 200 := by
    have a := hd m.from_; have b := hd m.to; have c := hd m.line
    unfold t1; simp; omega
  have h2 : (t2 m).length ≤ 260 := by
    have a := hd m.asker
    unfold t2; split
    · omega
    · simp; omega
  have h3 : (t3 m).length ≤ 320 := by
    have a := hd m.acks
    unfold t3; split
    · omega
    · simp; omega
  have h4 : (t4 m).length ≤ 340 := by
    unfold t4; split
    · simp; omega
    · omega
  refine ⟨h0, h1, h2, h3, h4, fun k => ?_⟩
  induction k with
  | zero => intro _; show (t4 m ++ _).length ≤ _; simp; omega
  | succ k ih =>
    intro hk
    have := ih (by omega)
    have a := hd ((dOf m).getD k 0)
    show ((t5 m k ++ [32]) ++ dig ((dOf m).getD k 0)).length ≤ _
    simp only [List.length_append, List.length_cons, List.length_nil]; omega

theorem not_t0 {b : Bool} (h : (!b) = true) : b = false := by simpa using h
theorem not_f0 {b : Bool} (h : (!b) = false) : b = true := by simpa using h
theorem TextR_c (m : Msg) (w : World) : Calls Tryd.prog 21 #[m.val] w fun e w' => e = .returned (strV (textOf m)) ∧ Below w.heap.size w w' := by
  refine calls_of_M (S := sg 83) (sgOk _) (args := [m.val]) (.s .p (.s .p (.c .p (.c .p (.c .p (.c .p (.c .p (.c .p .p)))))))) Tryd.func21 rfl rfl (Nat.le_of_ble_eq_true rfl) rfl ?_
  obtain ⟨l0, l1, l2, l3, l4, l5⟩ := t_len m
  have hd := fun n => dig_len n
  have hb0 : Below w.heap.size w (w.alloc (.cells m.val.cells 30)) := (Below.refl _ _).alloc (Nat.le_refl _) _
  have f0 := hnew w (.cells m.val.cells 30)
  refine ⟨_, cells_at (cells_block f0) (i := 0) rfl, ?_⟩
  refine Calls.mono (numberR_c m.kind _) ?_
  rintro e V ⟨rfl, hb⟩
  have hw := hb0.trans (hb.mono hb0.size)
  have f := block_below hb f0
  refine ⟨_, fun w => add_str _ _ [107, 105, 110, 100, 32] (dig m.kind) (by have := hd m.kind; simp; omega) w, ?_⟩
  obtain ⟨env, henv⟩ : ∃ env : List UInt8 → Env, env = fun t => ⟨[(1, .pointer (some ⟨w.heap.size, 0, none⟩)), (3, strV t)], []⟩ := ⟨_, rfl⟩
  obtain ⟨inv, hinv⟩ : ∃ inv : World → Prop, inv = fun V => V.heap[w.heap.size]? = some (.cells m.val.cells 30 (0, 0)) ∧ Below w.heap.size w V := ⟨_, rfl⟩
  refine ⟨Unit, fun _ => env (t0 m), fun _ V => inv V, ?_, ?_⟩
  · rw [henv, hinv]
    have tab : ((List.range 256).all fun k => decide (classes.getD k 0 = 0) == !(Nat.ble 1 k && Nat.ble k 12)) = true := by kernel_rfl
    have tk := List.all_eq_true.1 tab m.kind.toNat (List.mem_range.2 m.kind.toNat_lt)
    have tk : decide (classOf m.kind = 0) = !(Nat.ble 1 m.kind.toNat && Nat.ble m.kind.toNat 12) := eq_of_beq tk
    refine DrawE.ord [] [0, 1, 2, 3, 4, 5, 6, 7, 8, 9, 10] (by kernel_rfl) ?_
    refine ⟨_, cells_at (cells_block (hdr f)) (i := 0) rfl, ?_⟩
    refine And.intro (fun h1 => ?_) (fun h1 => ?_)
    · have h1 : (1 : Int) ≤ m.kind.toNat := of_decide_eq_true h1
      refine ⟨_, cells_at (cells_block (hdr f)) (i := 0) rfl, ?_⟩
      refine ⟨_, wrap_u8_i64 m.kind, ?_⟩
      refine Calls.mono (NamesR_c V.drew) ?_
      rintro e V1 ⟨rfl, hV1⟩
      have hb1 : Below V.drew.heap.size V.drew V1 := by rw [hV1]; exact (Below.refl _ _).alloc (Nat.le_refl _) _
      refine ⟨hb1, ?_⟩
      have hw1 := hw.drew.trans (hb1.mono hw.drew.size)
      have f1 := block_below hb1 (hdr f)
      refine And.intro (fun h2 => ?_) (fun h2 => ?_)
      · have h2 : (m.kind.toNat : Int) ≤ 12 := of_decide_eq_true h2
        have hc : ¬ classOf m.kind = 0 := by
          have : decide (classOf m.kind = 0) = false := by
            rw [tk, Nat.ble_eq_true_of_le (by omega), Nat.ble_eq_true_of_le (by omega)]; rfl
          exact of_decide_eq_false this
        refine DrawE.ord [] [1, 2, 3, 0, 4, 5, 6] (by kernel_rfl) ?_
        refine ⟨_, cells_at (cells_block (hdr f1)) (i := 0) rfl, ?_⟩
        refine ⟨((m.kind.toNat - 1 : Nat) : Int), (wrap_u8 (by have := m.kind.toNat_lt; omega)).trans (by omega), ?_⟩
        refine Calls.mono (NamesR_c V1.drew) ?_
        rintro e V2 ⟨rfl, hV2⟩
        have hb2 : Below V1.drew.heap.size V1.drew V2 := by rw [hV2]; exact (Below.refl _ _).alloc (Nat.le_refl _) _
        refine ⟨hb2, ?_⟩
        refine ⟨m.kind.toNat - 1, rfl, by omega, ?_⟩
        refine ⟨_, names_at (by rw [hV2]; exact Below.refl _ _) (show m.kind.toNat - 1 < 12 by omega), ?_⟩
        have e0 : t0 m = namesR.getD (m.kind.toNat - 1) [] := by
          have tn : ((List.range 13).all fun k => Nat.beq k 0 || decide (kindNames.getD k [] = namesR.getD (k - 1) [])) = true := by kernel_rfl
          have := List.all_eq_true.1 tn m.kind.toNat (List.mem_range.2 (by omega))
          have hz : Nat.beq m.kind.toNat 0 = false := by
            cases hh : Nat.beq m.kind.toNat 0 with
            | false => rfl
            | true => have := Nat.eq_of_beq_eq_true hh; omega
          rw [hz, Bool.false_or] at this
          unfold t0; rw [if_neg hc]; exact of_decide_eq_true this
        rw [e0]
        exact ⟨(), ⟨.cons rfl (.cons rfl .nil), rfl⟩, block_below hb2 (hdr f1), hw1.drew.trans (hb2.mono hw1.drew.size)⟩
      · have h2 : ¬ (m.kind.toNat : Int) ≤ 12 := of_decide_eq_false h2
        have hc : classOf m.kind = 0 := by
          have hf : Nat.ble m.kind.toNat 12 = false := by
            cases hh : Nat.ble m.kind.toNat 12 with
            | false => rfl
            | true => have := Nat.le_of_ble_eq_true hh; omega
          have : decide (classOf m.kind = 0) = true := by
            rw [tk, hf, Bool.and_false]; rfl
          exact of_decide_eq_true this
        have e0 : t0 m = [107, 105, 110, 100, 32] ++ dig m.kind := by unfold t0; rw [if_pos hc]
        rw [e0]
        exact ⟨(), ⟨.cons rfl (.cons rfl .nil), rfl⟩, f1, hw1⟩
    · have h1 : ¬ (1 : Int) ≤ m.kind.toNat := of_decide_eq_false h1
      have hc : classOf m.kind = 0 := by
        have hf : Nat.ble 1 m.kind.toNat = false := by
          cases hh : Nat.ble 1 m.kind.toNat with
          | false => rfl
          | true => have := Nat.le_of_ble_eq_true hh; omega
        have : decide (classOf m.kind = 0) = true := by
          rw [tk, hf]; rfl
        exact of_decide_eq_true this
      have e0 : t0 m = [107, 105, 110, 100, 32] ++ dig m.kind := by unfold t0; rw [if_pos hc]
      refine And.intro (fun h => by cases h) (fun _ => ?_)
      rw [e0]
      exact ⟨(), ⟨.cons rfl (.cons rfl .nil), rfl⟩, hdr f, hw.drew⟩
  clear hb hw f V
  rintro _ V hV
  refine ⟨Unit, fun _ => env (t1 m), fun _ V => inv V, ?_, ?_⟩
  · rw [hinv] at hV
    obtain ⟨f, hb⟩ := hV
    rw [henv, hinv]
    have q := hdr f
    refine DrawE.ord [] [0, 1, 2, 3, 7, 8, 12, 13, 4, 5, 6, 9, 10, 11, 14, 15, 16] (by kernel_rfl) ?_
    refine ⟨_, fun w => add_str _ _ (t0 m) [32] (by simp; omega) w, ?_⟩
    refine ⟨_, cells_at (cells_block q) (i := 1) rfl, ?_⟩
    refine ⟨_, cells_at (cells_block q) (i := 2) rfl, ?_⟩
    refine ⟨_, cells_at (cells_block q) (i := 3) rfl, ?_⟩
    refine Calls.mono (numberR_c m.from_ V.drew) ?_
    rintro e V1 ⟨rfl, hb1⟩
    refine ⟨hb1, ?_⟩
    have hw1 := hb.drew.trans (hb1.mono hb.drew.size)
    refine ⟨_, fun w => add_str _ _ (t0 m ++ [32]) (dig m.from_) (by have := hd m.from_; simp; omega) w, ?_⟩
    refine ⟨_, fun w => add_str _ _ ((t0 m ++ [32]) ++ dig m.from_) [62] (by have := hd m.from_; simp; omega) w, ?_⟩
    refine Calls.mono (numberR_c m.to V1) ?_
    rintro e V2 ⟨rfl, hb2⟩
    refine ⟨hb2, ?_⟩
    have hw2 := hw1.trans (hb2.mono hw1.size)
    refine ⟨_, fun w => add_str _ _ (((t0 m ++ [32]) ++ dig m.from_) ++ [62]) (dig m.to) (by have := hd m.from_; have := hd m.to; simp; omega) w, ?_⟩
    refine ⟨_, fun w => add_str _ _ ((((t0 m ++ [32]) ++ dig m.from_) ++ [62]) ++ dig m.to) [32, 108, 105, 110, 101, 32] (by have := hd m.from_; have := hd m.to; simp; omega) w, ?_⟩
    refine Calls.mono (numberR_c m.line V2) ?_
    rintro e V3 ⟨rfl, hb3⟩
    refine ⟨hb3, ?_⟩
    have hw3 := hw2.trans (hb3.mono hw2.size)
    refine ⟨_, fun w => add_str _ _ (((((t0 m ++ [32]) ++ dig m.from_) ++ [62]) ++ dig m.to) ++ [32, 108, 105, 110, 101, 32]) (dig m.line) (by have := hd m.from_; have := hd m.to; have := hd m.line; simp; omega) w, ?_⟩
    exact ⟨(), ⟨.cons rfl (.cons rfl .nil), rfl⟩, block_below hb3 (block_below hb2 (block_below hb1 q)), hw3⟩
  rintro _ V hV
  refine ⟨Unit, fun _ => env (t2 m), fun _ V => inv V, ?_, ?_⟩
  · have hV' := hV
    rw [hinv] at hV
    obtain ⟨f, hb⟩ := hV
    rw [henv]
    refine ⟨_, cells_at (cells_block f) (i := 4) rfl, ?_⟩
    refine And.intro (fun h => ?_) (fun h => ?_)
    · have h : ¬ (m.asker.toNat : Int) = ((0 : UInt8).toNat : Int) := of_decide_eq_false (not_t0 h)
      have e0 : t2 m = (t1 m ++ [32, 97, 115, 107, 101, 114, 32]) ++ dig m.asker := by unfold t2; rw [if_neg (fun e => h (u8_eq.2 e))]
      refine ⟨_, fun w => add_str _ _ (t1 m) [32, 97, 115, 107, 101, 114, 32] (by simp; omega) w, ?_⟩
      refine ⟨_, cells_at (cells_block f) (i := 4) rfl, ?_⟩
      refine Calls.mono (numberR_c m.asker V) ?_
      rintro e V1 ⟨rfl, hb1⟩
      refine ⟨_, fun w => add_str _ _ (t1 m ++ [32, 97, 115, 107, 101, 114, 32]) (dig m.asker) (by have := hd m.asker; simp; omega) w, ?_⟩
      rw [e0, hinv]
      exact ⟨(), ⟨.cons rfl (.cons rfl .nil), rfl⟩, block_below hb1 f, hb.trans (hb1.mono hb.size)⟩
    · have h : (m.asker.toNat : Int) = ((0 : UInt8).toNat : Int) := of_decide_eq_true (not_f0 h)
      have e0 : t2 m = t1 m := by unfold t2; rw [if_pos (u8_eq.1 h)]
      rw [e0]
      exact ⟨(), ⟨.cons rfl (.cons rfl .nil), rfl⟩, hV'⟩
  rintro _ V hV
  refine ⟨Unit, fun _ => env (t3 m), fun _ V => inv V, ?_, ?_⟩
  · have hV' := hV
    rw [hinv] at hV
    obtain ⟨f, hb⟩ := hV
    rw [henv]
    refine ⟨_, cells_at (cells_block f) (i := 5) rfl, ?_⟩
    refine And.intro (fun h => ?_) (fun h => ?_)
    · have h : ¬ (m.acks.toNat : Int) = ((0 : UInt8).toNat : Int) := of_decide_eq_false (not_t0 h)
      have e0 : t3 m = (t2 m ++ [32, 97, 99, 107, 115, 32]) ++ dig m.acks := by unfold t3; rw [if_neg (fun e => h (u8_eq.2 e))]
      refine ⟨_, fun w => add_str _ _ (t2 m) [32, 97, 99, 107, 115, 32] (by simp; omega) w, ?_⟩
      refine ⟨_, cells_at (cells_block f) (i := 5) rfl, ?_⟩
      refine Calls.mono (numberR_c m.acks V) ?_
      rintro e V1 ⟨rfl, hb1⟩
      refine ⟨_, fun w => add_str _ _ (t2 m ++ [32, 97, 99, 107, 115, 32]) (dig m.acks) (by have := hd m.acks; simp; omega) w, ?_⟩
      rw [e0, hinv]
      exact ⟨(), ⟨.cons rfl (.cons rfl .nil), rfl⟩, block_below hb1 f, hb.trans (hb1.mono hb.size)⟩
    · have h : (m.acks.toNat : Int) = ((0 : UInt8).toNat : Int) := of_decide_eq_true (not_f0 h)
      have e0 : t3 m = t2 m := by unfold t3; rw [if_pos (u8_eq.1 h)]
      rw [e0]
      exact ⟨(), ⟨.cons rfl (.cons rfl .nil), rfl⟩, hV'⟩
  rintro _ V hV
  refine ⟨Unit, fun _ => env (t4 m), fun _ V => inv V, ?_, ?_⟩
  · have hV' := hV
    rw [hinv] at hV
    obtain ⟨f, hb⟩ := hV
    rw [henv]
    refine ⟨_, cells_at (cells_block f) (i := 6) rfl, ?_⟩
    refine And.intro (fun h => ?_) (fun h => ?_)
    · have e0 : t4 m = t3 m ++ [32, 97, 108, 111, 110, 101] := by unfold t4; rw [if_pos h]
      refine ⟨_, fun w => add_str _ _ (t3 m) [32, 97, 108, 111, 110, 101] (by simp; omega) w, ?_⟩
      rw [e0]
      exact ⟨(), ⟨.cons rfl (.cons rfl .nil), rfl⟩, hV'⟩
    · have e0 : t4 m = t3 m := by unfold t4; rw [if_neg (by rw [h]; simp)]
      rw [e0]
      exact ⟨(), ⟨.cons rfl (.cons rfl .nil), rfl⟩, hV'⟩
  rintro _ V hV
  rw [t5_text]
  refine ⟨Unit, fun _ => env (if m.d0 = 0 ∧ m.d1 = 0 ∧ m.d2 = 0 ∧ m.d3 = 0 then t4 m else t5 m 4), fun _ V => inv V, ?_, ?_⟩
  · have hV' := hV
    rw [hinv] at hV
    obtain ⟨f, hb⟩ := hV
    rw [henv]
    have hdat : Cells V ⟨w.heap.size, 7, none⟩ (dcells m.d0 m.d1 m.d2 m.d3) := by
      refine cells_mk fun i v hv => ?_
      have hi : i < 4 := (List.getElem?_eq_some_iff.1 hv).1
      have : m.enc[7 + i]? = some v := by
        rw [← hv]
        have h4 : i = 0 ∨ i = 1 ∨ i = 2 ∨ i = 3 := by omega
        rcases h4 with rfl | rfl | rfl | rfl <;> rfl
      have hc : Cells V ⟨w.heap.size, 0, none⟩ m.enc := cells_block f
      have := cells_at hc this
      rw [Nat.zero_add] at this; exact this
    refine ⟨dcells m.d0 m.d1 m.d2 m.d3, rfl, hdat, hlt f, ?_⟩
    refine ⟨dcells 0 0 0 0, rfl, ?_⟩
    refine ⟨_, fun w => neq_data _ _ m.d0 m.d1 m.d2 m.d3 0 0 0 0 w, ?_⟩
    refine And.intro (fun h => ?_) (fun h => ?_)
    · have h : ¬ (m.d0 = 0 ∧ m.d1 = 0 ∧ m.d2 = 0 ∧ m.d3 = 0) := by
        rintro ⟨a, b, c, d⟩
        rw [a, b, c, d] at h; cases h
      rw [if_neg h]
      refine ⟨_, fun w => add_str _ _ (t4 m) [32, 100, 97, 116, 97] (by simp; omega) w, ?_⟩
      refine ⟨Nat, fun k => ⟨[(1, .pointer (some ⟨w.heap.size, 0, none⟩)), (3, strV (t5 m k)), (4, .int .i64 (k : Nat))], []⟩, fun k V => k ≤ 4 ∧ inv V, fun k => 4 - k, 0, ⟨.cons rfl (.cons rfl (.cons rfl .nil)), rfl⟩, ⟨by decide, hV'⟩, ?_⟩
      rintro k X ⟨hk, hX⟩
      have hX' := hX
      rw [hinv] at hX
      obtain ⟨fX, hbX⟩ := hX
      refine And.intro (fun h => ?_) (fun h => ?_)
      · have h : (k : Int) < 4 := of_decide_eq_true h
        have hk4 : k < 4 := by omega
        have lk := l5 k (by omega)
        refine ⟨_, fun w => add_str _ _ (t5 m k) [32] (by simp; omega) w, ?_⟩
        refine ⟨k, rfl, hk4, ?_⟩
        have hc : X.cell? ⟨w.heap.size, 0 + 7 + k * 1, none⟩ = some (u8 ((dOf m).getD k 0)) := by
          have h4 : k = 0 ∨ k = 1 ∨ k = 2 ∨ k = 3 := by omega
          rcases h4 with rfl | rfl | rfl | rfl
          · exact cells_at (cells_block fX) (i := 7) rfl
          · exact cells_at (cells_block fX) (i := 8) rfl
          · exact cells_at (cells_block fX) (i := 9) rfl
          · exact cells_at (cells_block fX) (i := 10) rfl
        refine ⟨_, hc, ?_⟩
        refine Calls.mono (numberR_c ((dOf m).getD k 0) X) ?_
        rintro e X1 ⟨rfl, hb1⟩
        refine ⟨_, fun w => add_str _ _ (t5 m k ++ [32]) (dig ((dOf m).getD k 0)) (by have := hd ((dOf m).getD k 0); simp only [List.length_append, List.length_cons, List.length_nil]; omega) w, ?_⟩
        refine ⟨((k + 1 : Nat) : Int), (wrap_i64 (by omega)).trans (by omega), ?_⟩
        refine ⟨k + 1, ⟨.cons rfl (.cons rfl (.cons rfl .nil)), rfl⟩, ⟨by omega, ?_⟩, by dsimp only; omega⟩
        rw [hinv]
        exact ⟨block_below hb1 fX, hbX.trans (hb1.mono hbX.size)⟩
      · have h : ¬ (k : Int) < 4 := of_decide_eq_false h
        have : k = 4 := by omega
        subst this
        exact ⟨(), ⟨.cons rfl (.cons rfl .nil), rfl⟩, hX'⟩
    · have h : m.d0 = 0 ∧ m.d1 = 0 ∧ m.d2 = 0 ∧ m.d3 = 0 := by
        simpa [and_assoc] using h
      rw [if_pos h]
      exact ⟨(), ⟨.cons rfl (.cons rfl .nil), rfl⟩, hV'⟩
  rintro _ V hV
  rw [hinv] at hV
  rw [henv]
  exact And.intro rfl hV.2
end Go.Proofs.YtkekidalckflhaaDoor
