/- The law MsgBack: what it computes. -/
import Derived.Test.YtoifcihikokpfaaDoorMb1
import Derived.Test.YtoifcihikokpfaaDoorMo1
namespace Go.Proofs.YtoifcihikokpfaaDoor
open Go.Vc Go.RowKit Go.Sei

theorem eq_bool (d : Nat) (a b : Bool) (w : World) : (Op.equalIn (d + 1) 4 (.bool a) (.bool b)).run Tryd.prog w = .ok (decide (a = b)) w := by
  simp only [Op.equalIn, Sem.run_bind, run_underlying Tryd.underlying4, Result.andThen_ok, Sem.run_pure]
  cases a <;> cases b <;> rfl
theorem eql_bool (x y : Operand) (a b : Bool) (w : World) : (do eqGuard .eql 4 x y (.bool a) (.bool b); binOp .eql 4 (.bool a) (.bool b)).run Tryd.prog w = .ok (.bool (decide (a = b))) w := by
  have h : (Op.equal 4 (.bool a) (.bool b)).run Tryd.prog w = .ok (decide (a = b)) w := eq_bool 9999 a b w
  have h1 : (eqGuard .eql 4 x y (.bool a) (.bool b)).run Tryd.prog w = .ok () w := rfl
  rw [Sem.run_bind, h1]
  simp only [Result.andThen_ok, binOp, Sem.run_bind, h, Sem.run_pure]
theorem bytesLess_cmp : ∀ (a b : List UInt8), Op.bytesLess a b = decide (cmpL a b < 0)
  | [], [] => rfl
  | _ :: _, [] => rfl
  | [], _ :: _ => rfl
  | x :: r, y :: s => by
    have ih := bytesLess_cmp r s
    unfold Op.bytesLess
    rw [ih]
    have h := @cmpL_lt_cons x y r s
    by_cases hxy : x < y
    · have : x.toNat < y.toNat := UInt8.lt_iff_toNat_lt.1 hxy
      rw [decide_eq_true (h.2 (.inl this))]; simp [hxy]
    · have hn : ¬ x.toNat < y.toNat := fun e => hxy (UInt8.lt_iff_toNat_lt.2 e)
      by_cases he : x = y
      · subst he
        by_cases hc : cmpL r s < 0
        · rw [decide_eq_true hc, decide_eq_true (h.2 (.inr ⟨rfl, hc⟩))]; simp
        · rw [decide_eq_false hc, decide_eq_false (fun e => (h.1 e).elim hn fun e => hc e.2)]; simp [hxy]
      · rw [decide_eq_false (fun e => (h.1 e).elim hn fun e => he e.1)]; simp [hxy, he]
theorem lss_str (x y : Operand) (a b : List UInt8) (w : World) : (do eqGuard .lss 9 x y (strV a) (strV b); binOp .lss 9 (strV a) (strV b)).run Tryd.prog w = .ok (.bool (decide (cmpL a b < 0))) w := by
  have h1 : (eqGuard .lss 9 x y (strV a) (strV b)).run Tryd.prog w = .ok () w := rfl
  rw [Sem.run_bind, h1, Result.andThen_ok]
  show (Op.stringOp .lss (bs a) (bs b)).run Tryd.prog w = _
  simp only [Op.stringOp, Sem.run_pure, ByteArray.toList_eq, bs_list, bytesLess_cmp]

theorem read_code (m : Msg) : readL (codeOf m) = (m, true) := by
  obtain ⟨_, _, _, _, _, _, al, _, _, _, _⟩ := m
  cases al <;> rfl
theorem read_own (m : Msg) (g : Nat) (t : TypeId) (w : World) (h : w.heap[g]? = some (.cells ((codeOf m).map u8).toArray t (0, 0))) :
    Calls Tryd.prog 8 #[.slice (some ⟨g, 0, none⟩) 11 11] w fun e w' => e = .returned (.tuple #[m.val, .bool true]) ∧ Below w.heap.size w w' := by
  have := Read_c (some ⟨g, 0, none⟩) 11 (codeOf m) w (bytes_row h) (Nat.le_refl _)
  rw [read_code] at this
  exact this
theorem text_short (m : Msg) : (textOf m).length ≤ 4294967280 := by
  have h := join_len (w5 m) (w_word m)
  have h2 := (w_len m).2.2.2.2.2
  have h3 : (textOf m).length = (Lib.join (w5 m) [32]).length := rfl
  omega
theorem parse_own (m : Msg) (w : World) (hg : GlobM w) : Calls Tryd.prog 9 #[strV (textOf m)] w fun e w' => e = .returned (.tuple #[m.val, .int .i64 0]) ∧ Below w.heap.size w w' := by
  have := Parse_c (textOf m) (text_short m) w hg
  rw [parse_text] at this
  exact this
theorem less_own (a b : Msg) (w : World) : Calls Tryd.prog 12 #[a.val, b.val] w fun e w' => e = .returned (.bool (les a b)) ∧ Below w.heap.size w w' := Less_c a b w
theorem les_self (m : Msg) : les m m = false := by unfold les; rw [cmpL_self]; rfl
theorem les_total {m o : Msg} (h : m ≠ o) : les m o = true ∨ les o m = true := by
  rcases cmpL_total (codeOf m) (codeOf o) with k | k | k
  · exact .inl (decide_eq_true k)
  · exact .inr (decide_eq_true k)
  · exact absurd (code_inj k) h

set_option maxRecDepth 20000 in
theorem msgBack_c (m o : Msg) (w : World) (hg : GlobM w) : Calls Tryd.prog 5 #[m.val, o.val] w fun e w' => e = .returned (.bool true) ∧ Below w.heap.size w w' := by
  refine calls_of_M (S := sg 104) (sgOk _) (args := [m.val, o.val]) (.s .p (.c .p (.s .p (.s .p (.c .p (.c .p .p)))))) Tryd.func5 rfl rfl (Nat.le_of_ble_eq_true rfl) rfl ?_
  refine ⟨Nat × Nat, fun g => ⟨[(2, .pointer (some ⟨g.1, 0, none⟩)), (3, .pointer (some ⟨g.2, 0, none⟩))], []⟩, fun g V => V.heap[g.1]? = some (.cells m.val.cells 27 (0, 0)) ∧ V.heap[g.2]? = some (.cells o.val.cells 27 (0, 0)) ∧ Below w.heap.size w V, ?_, ?_⟩
  · have hb0 : Below w.heap.size w ((w.alloc (.cells m.val.cells 27)).alloc (.cells o.val.cells 27)) := ((Below.refl _ _).alloc (Nat.le_refl _) _).alloc (by simp) _
    refine Calls.mono (awake_c _ (hg.below hb0)) ?_
    rintro e V ⟨rfl, hb⟩
    refine And.intro (fun h => by cases h) (fun _ => ?_)
    exact ⟨(_, _), ⟨.cons rfl (.cons rfl .nil), rfl⟩, block_below hb (hold _ (hnew w _)), block_below hb (hnew _ _), hb0.trans (hb.mono hb0.size)⟩
  rintro ⟨g2, g3⟩ V ⟨f2, f3, hb⟩
  dsimp only at f2 f3
  refine ⟨m.enc, rfl, cells_block f2, hlt f2, ?_⟩
  refine Calls.mono (Bytes_c m V) ?_
  rintro e V1 ⟨k, rfl, fk, _, hb1⟩
  have hw1 := hb.trans (hb1.mono hb.size)
  refine Calls.mono (read_own m k _ V1 fk) ?_
  rintro e V2 ⟨rfl, hb2⟩
  have hw2 := hw1.trans (hb2.mono hw1.size)
  refine store_new (X := V2) (v := m.val) (ttOk.get 27 _ rfl) (by rfl) rfl (by rfl) fun Y hbY fY sY => ?_
  have hwY := hw2.trans (hbY.mono hw2.size)
  have y2 := block_below hbY (block_below hb2 (block_below hb1 f2))
  have y3 := block_below hbY (block_below hb2 (block_below hb1 f3))
  refine ⟨m.enc, rfl, cells_block y2, hlt y2, ?_⟩
  refine Calls.mono (Text_c m Y (hg.below hwY)) ?_
  rintro e Y1 ⟨rfl, hb3⟩
  have hw3 := hwY.trans (hb3.mono hwY.size)
  refine Calls.mono (parse_own m Y1 (hg.below hw3)) ?_
  rintro e Y2 ⟨rfl, hb4⟩
  have hw4 := hw3.trans (hb4.mono hw3.size)
  refine store_new (X := Y2) (v := m.val) (ttOk.get 27 _ rfl) (by rfl) rfl (by rfl) fun Z hbZ fZ sZ => ?_
  have hwZ := hw4.trans (hbZ.mono hw4.size)
  have z2 := block_below hbZ (block_below hb4 (block_below hb3 y2))
  have z3 := block_below hbZ (block_below hb4 (block_below hb3 y3))
  have zY := block_below hbZ (block_below hb4 (block_below hb3 fY))
  refine ⟨Nat × Nat, fun g => ⟨[(2, .pointer (some ⟨g2, 0, none⟩)), (3, .pointer (some ⟨g3, 0, none⟩)), (5, .pointer (some ⟨g.1, 0, none⟩)), (6, .bool true), (7, .pointer (some ⟨g.2, 0, none⟩)), (8, .int .i64 0), (9, strV (codeOf m)), (10, strV (codeOf o))], []⟩,
    fun g V => V.heap[g2]? = some (.cells m.val.cells 27 (0, 0)) ∧ V.heap[g3]? = some (.cells o.val.cells 27 (0, 0)) ∧ V.heap[g.1]? = some (.cells m.val.cells 27 (0, 0)) ∧ V.heap[g.2]? = some (.cells m.val.cells 27 (0, 0)) ∧ Below w.heap.size w V, ?_, ?_⟩
  · refine DrawE.ord [] [0, 3, 1, 2, 4, 5, 6, 7] (by kernel_rfl) ?_
    refine ⟨m.enc, rfl, cells_block (hdr z2), hlt (hdr z2), ?_⟩
    refine ⟨o.enc, rfl, cells_block (hdr z3), hlt (hdr z3), ?_⟩
    refine Calls.mono (Bytes_c m Z.drew) ?_
    rintro e X ⟨k1, rfl, fk1, _, hb5⟩
    refine ⟨hb5, ?_⟩
    have hw5 := hwZ.drew.trans (hb5.mono hwZ.drew.size)
    refine ⟨_, fun w2 hb => conv_str (l := codeOf m) fk1 rfl w2 hb, ?_⟩
    refine Calls.mono (Bytes_c o X) ?_
    rintro e X1 ⟨k2, rfl, fk2, _, hb6⟩
    refine ⟨hb6, ?_⟩
    have hw6 := hw5.trans (hb6.mono hw5.size)
    refine ⟨_, fun w2 hb => conv_str (l := codeOf o) fk2 rfl w2 hb, ?_⟩
    have old : ∀ {j : Nat} {ob : Obj}, Z.heap[j]? = some ob → X1.heap[j]? = some ob := fun h => block_below hb6 (block_below hb5 (hdr h))
    exact ⟨(_, _), ⟨.cons rfl (.cons rfl (.cons rfl (.cons rfl (.cons rfl (.cons rfl (.cons rfl (.cons rfl .nil))))))), rfl⟩, old z2, old z3, old zY, old fZ, hw6⟩
  clear hb hb1 hw1 hb2 hw2 hbY fY sY hwY y2 y3 hb3 hw3 hb4 hw4 hbZ fZ sZ hwZ z2 z3 zY fk f2 f3
  rintro ⟨g5, g7⟩ X ⟨f2, f3, f5, f7, hb⟩
  dsimp only at f5 f7
  refine ⟨Unit, fun _ => ⟨[(2, .pointer (some ⟨g2, 0, none⟩)), (3, .pointer (some ⟨g3, 0, none⟩)), (9, strV (codeOf m)), (10, strV (codeOf o))], []⟩, fun _ V => X = V, ?_, ?_⟩
  · refine ⟨m.enc, rfl, cells_block f5, hlt f5, ?_⟩
    refine ⟨m.enc, rfl, cells_block f2, hlt f2, ?_⟩
    refine ⟨_, fun w => neq_msg _ _ m m w, ?_⟩
    rw [show (!decide (m = m)) = false by simp]
    refine And.intro (fun h => by cases h) (fun _ => ?_)
    refine And.intro (fun h => by cases h) (fun _ => ?_)
    refine ⟨m.enc, rfl, cells_block f7, hlt f7, ?_⟩
    refine ⟨m.enc, rfl, cells_block f2, hlt f2, ?_⟩
    refine ⟨_, fun w => neq_msg _ _ m m w, ?_⟩
    rw [show (!decide (m = m)) = false by simp]
    refine And.intro (fun h => by cases h) (fun _ => ?_)
    refine And.intro (fun h => by cases h) (fun _ => ?_)
    refine And.intro (fun h => by cases h) (fun _ => ?_)
    exact ⟨(), ⟨.cons rfl (.cons rfl (.cons rfl (.cons rfl .nil))), rfl⟩, rfl⟩
  rintro _ _ rfl
  refine DrawE.ord [] [0, 1, 2, 3, 4, 5, 6, 7, 8, 9, 10, 11, 13, 12, 14, 15, 16, 17, 18, 19, 20, 22, 23, 24, 21, 25, 26, 27, 28, 29, 36, 37, 38, 30, 31, 32, 33, 34, 35, 39, 40, 41, 42, 43, 44, 45, 46, 47, 48, 49, 50, 51, 52] (by kernel_rfl) ?_
  have q2 := hdr f2
  have q3 := hdr f3
  have hbd := hb.drew
  refine ⟨m.enc, rfl, cells_block q2, hlt q2, ?_⟩
  refine ⟨o.enc, rfl, cells_block q3, hlt q3, ?_⟩
  refine ⟨_, fun w => eql_msg _ _ m o w, ?_⟩
  refine ⟨_, fun w => eql_str _ _ (codeOf m) (codeOf o) w, ?_⟩
  refine ⟨_, fun w => eql_bool _ _ (decide (m = o)) (decide (codeOf m = codeOf o)) w, ?_⟩
  have e1 : decide (decide (m = o) = decide (codeOf m = codeOf o)) = true := by
    by_cases h : m = o
    · subst h; simp
    · have : ¬ codeOf m = codeOf o := fun e => h (code_inj e)
      simp [h, this]
  rw [e1]
  refine And.intro (fun _ => ?_) (fun h => by cases h)
  refine ⟨m.enc, rfl, cells_block q2, hlt q2, ?_⟩
  refine ⟨o.enc, rfl, cells_block q3, hlt q3, ?_⟩
  refine ⟨_, fun w => eql_msg _ _ m o w, ?_⟩
  refine ⟨m.enc, rfl, cells_block q2, hlt q2, ?_⟩
  refine ⟨o.enc, rfl, cells_block q3, hlt q3, ?_⟩
  refine Calls.mono (Text_c m _ (hg.below hbd)) ?_
  rintro e V1 ⟨rfl, hb1⟩
  refine ⟨hb1, ?_⟩
  have hw1 := hbd.trans (hb1.mono hbd.size)
  refine Calls.mono (Text_c o _ (hg.below hw1)) ?_
  rintro e V2 ⟨rfl, hb2⟩
  refine ⟨hb2, ?_⟩
  have hw2 := hw1.trans (hb2.mono hw1.size)
  refine ⟨_, fun w => eql_str _ _ (textOf m) (textOf o) w, ?_⟩
  refine ⟨_, fun w => eql_bool _ _ (decide (m = o)) (decide (textOf m = textOf o)) w, ?_⟩
  have e2 : decide (decide (m = o) = decide (textOf m = textOf o)) = true := by
    by_cases h : m = o
    · subst h; simp
    · have : ¬ textOf m = textOf o := fun e => h (text_inj e)
      simp [h, this]
  rw [e2]
  refine And.intro (fun _ => ?_) (fun h => by cases h)
  have r2 := block_below hb2 (block_below hb1 q2)
  have r3 := block_below hb2 (block_below hb1 q3)
  clear hb1 hw1 hb2 q2 q3 hbd f2 f3 f5 f7 hb
  refine ⟨m.enc, rfl, cells_block r2, hlt r2, ?_⟩
  refine ⟨o.enc, rfl, cells_block r3, hlt r3, ?_⟩
  refine ⟨_, fun w => lss_str _ _ (codeOf m) (codeOf o) w, ?_⟩
  refine Calls.mono (less_own m o V2) ?_
  rintro e V3 ⟨rfl, hb3⟩
  refine ⟨hb3, ?_⟩
  have hw3 := hw2.trans (hb3.mono hw2.size)
  refine ⟨_, fun w => eql_bool _ _ (les m o) (decide (cmpL (codeOf m) (codeOf o) < 0)) w, ?_⟩
  have e3 : decide (les m o = decide (cmpL (codeOf m) (codeOf o) < 0)) = true := decide_eq_true rfl
  rw [e3]
  refine And.intro (fun _ => ?_) (fun h => by cases h)
  have s2 := block_below hb3 r2
  have s3 := block_below hb3 r3
  clear r2 r3 hw2 hb3
  refine ⟨m.enc, rfl, cells_block s2, hlt s2, ?_⟩
  refine ⟨o.enc, rfl, cells_block s3, hlt s3, ?_⟩
  refine ⟨m.enc, rfl, cells_block s2, hlt s2, ?_⟩
  refine ⟨o.enc, rfl, cells_block s3, hlt s3, ?_⟩
  refine ⟨_, fun w => neq_msg _ _ m o w, ?_⟩
  refine Calls.mono (less_own m o V3) ?_
  rintro e V4 ⟨rfl, hb4⟩
  refine ⟨hb4, ?_⟩
  have hw4 := hw3.trans (hb4.mono hw3.size)
  have t2 := block_below hb4 s2
  have t3 := block_below hb4 s3
  clear s2 s3 hw3 hb4
  cases hmo : les m o with
  | true =>
    have hne : (!decide (m = o)) = true := by
      have : m ≠ o := fun e => by subst e; rw [les_self] at hmo; cases hmo
      simp [this]
    refine And.intro (fun _ => ?_) (fun h => by cases h)
    refine ⟨_, fun w => eql_bool _ _ true (!decide (m = o)) w, ?_⟩
    rw [hne]
    refine And.intro (fun _ => ?_) (fun h => by cases h)
    refine ⟨m.enc, rfl, cells_block t2, hlt t2, ?_⟩
    refine ⟨o.enc, rfl, cells_block t3, hlt t3, ?_⟩
    refine Calls.mono (less_own m o V4) ?_
    rintro e V5 ⟨rfl, hb5⟩
    refine ⟨hb5, ?_⟩
    have hw5 := hw4.trans (hb5.mono hw4.size)
    rw [hmo]
    refine And.intro (fun _ => ?_) (fun h => by cases h)
    have u2 := block_below hb5 t2
    have u3 := block_below hb5 t3
    refine ⟨o.enc, rfl, cells_block u3, hlt u3, ?_⟩
    refine ⟨m.enc, rfl, cells_block u2, hlt u2, ?_⟩
    refine Calls.mono (less_own o m V5) ?_
    rintro e V6 ⟨rfl, hb6⟩
    refine ⟨hb6, ?_⟩
    have hw6 := hw5.trans (hb6.mono hw5.size)
    exact And.intro (rb (by show (!les o m) = true; rw [les_asymm hmo]; rfl)) hw6
  | false =>
    have hno : decide (les o m = !decide (m = o)) = true := by
      by_cases h : m = o
      · subst h; rw [les_self]; simp
      · rcases les_total h with k | k
        · rw [k] at hmo; cases hmo
        · rw [k]; simp [h]
    refine And.intro (fun h => by cases h) (fun _ => ?_)
    refine ⟨o.enc, rfl, cells_block t3, hlt t3, ?_⟩
    refine ⟨m.enc, rfl, cells_block t2, hlt t2, ?_⟩
    refine Calls.mono (less_own o m V4) ?_
    rintro e V5 ⟨rfl, hb5⟩
    refine ⟨hb5, ?_⟩
    have hw5 := hw4.trans (hb5.mono hw4.size)
    refine ⟨_, fun w => eql_bool _ _ (les o m) (!decide (m = o)) w, ?_⟩
    rw [hno]
    refine And.intro (fun _ => ?_) (fun h => by cases h)
    have u2 := block_below hb5 t2
    have u3 := block_below hb5 t3
    refine ⟨m.enc, rfl, cells_block u2, hlt u2, ?_⟩
    refine ⟨o.enc, rfl, cells_block u3, hlt u3, ?_⟩
    refine Calls.mono (less_own m o V5) ?_
    rintro e V6 ⟨rfl, hb6⟩
    refine ⟨hb6, ?_⟩
    have hw6 := hw5.trans (hb6.mono hw5.size)
    rw [hmo]
    refine And.intro (fun h => by cases h) (fun _ => ?_)
    exact And.intro rfl hw6
end Go.Proofs.YtoifcihikokpfaaDoor
