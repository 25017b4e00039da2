/- Messages compared. -/
import Derived.Test.YtkekidalckflhaaDoorMsgM
import Derived.Test.YtkekidalckflhaaDoorSig
import Derived.Laws.StructEq
namespace Go.Proofs.YtkekidalckflhaaDoor
open Go.Vc Go.RowKit Go.Sei

theorem eq_u8 (d : Nat) (x y : UInt8) (w : World) : (Op.equalIn (d + 1) 5 (u8 x) (u8 y)).run Tryd.prog w = .ok (decide (x = y)) w := by
  simp only [Op.equalIn, Sem.run_bind, run_underlying Tryd.underlying5, Result.andThen_ok, u8, if_true, Sem.run_pure]
  congr 1
  by_cases h : x = y
  · simp [h]
  · simp [h, u8_eq]
theorem eq_bool' (d : Nat) (a b : Bool) (w : World) : (Op.equalIn (d + 1) 4 (.bool a) (.bool b)).run Tryd.prog w = .ok (decide (a = b)) w := by
  simp only [Op.equalIn, Sem.run_bind, run_underlying Tryd.underlying4, Result.andThen_ok, Sem.run_pure]
  cases a <;> cases b <;> rfl
theorem part_u8 {cs : List Value} {i : Nat} {v : UInt8} (w : World) (h : cs[i]? = some (u8 v)) : (part 5 cs.toArray i).run Tryd.prog w = .ok (u8 v) w := by
  simp only [part, Sem.run_bind, Tryd.isAgg5, Result.andThen_ok, Bool.false_eq_true, if_false]
  have : cs.toArray[i]? = some (u8 v) := by simpa using h
  rw [this]; rfl
theorem part_bool {cs : List Value} {i : Nat} {v : Bool} (w : World) (h : cs[i]? = some (.bool v)) : (part 4 cs.toArray i).run Tryd.prog w = .ok (.bool v) w := by
  simp only [part, Sem.run_bind, Tryd.isAgg4, Result.andThen_ok, Bool.false_eq_true, if_false]
  have : cs.toArray[i]? = some (.bool v) := by simpa using h
  rw [this]; rfl
def dcells (a b c d : UInt8) : List Value := [u8 a, u8 b, u8 c, u8 d]
theorem eq_data (d : Nat) (a b c e a' b' c' e' : UInt8) (w : World) : (Op.equalIn (d + 2) 28 (.agg (dcells a b c e).toArray) (.agg (dcells a' b' c' e').toArray)).run Tryd.prog w = .ok (decide (a = a') && decide (b = b') && decide (c = c') && decide (e = e')) w := by
  have hc : Tryd.prog.cellsOf 5 = 1 := by kernel_rfl
  obtain ⟨⟨inf, hi⟩, _⟩ : Known Tryd.prog 5 := known_of (by kernel_rfl) (by kernel_rfl)
  have hp := fun (a b c e : UInt8) (w : World) => part_u8 (cs := dcells a b c e) (i := 0) (v := a) w rfl
  have hp1 := fun (a b c e : UInt8) (w : World) => part_u8 (cs := dcells a b c e) (i := 1) (v := b) w rfl
  have hp2 := fun (a b c e : UInt8) (w : World) => part_u8 (cs := dcells a b c e) (i := 2) (v := c) w rfl
  have hp3 := fun (a b c e : UInt8) (w : World) => part_u8 (cs := dcells a b c e) (i := 3) (v := e) w rfl
  rw [run_equalIn_array w (d + 1) _ _ Tryd.underlying28 hi, hc]
  simp only [List.range, List.range.loop, Op.eqItems, Sem.run_bind, Sem.run_ite, Nat.mul_one, hp, hp1, hp2, hp3, Result.andThen_ok, eq_u8]
  by_cases h1 : a = a' <;> by_cases h2 : b = b' <;> by_cases h3 : c = c' <;> by_cases h4 : e = e' <;> simp [h1, h2, h3, h4]
theorem part_data (m : Msg) (w : World) : (part 28 m.enc.toArray 7).run Tryd.prog w = .ok (.agg (dcells m.d0 m.d1 m.d2 m.d3).toArray) w := by
  have hs : (sizeOf 28).run Tryd.prog w = .ok 4 w := by
    have h : (Tryd.prog.info? 28).map (·.size) = some 4 := by kernel_rfl
    cases hi : Tryd.prog.info? 28 with
    | none => rw [hi] at h; cases h
    | some inf =>
      rw [hi] at h
      have h : inf.size = 4 := Option.some.inj h
      simp [sizeOf, typeInfo, hi, h]
  simp only [part, Sem.run_bind, Tryd.isAgg28, Result.andThen_ok, if_true, hs]
  rfl
theorem eq_msg (d : Nat) (m n : Msg) (w : World) : (Op.equalIn (d + 3) 30 m.val n.val).run Tryd.prog w = .ok (decide (m = n)) w := by
  have hf : Tryd.prog.underlying 30 = some (.struct (Tryd.prog.fieldsOf 30)) := by
    unfold Program.fieldsOf; rw [Tryd.underlying30]
  have hs : Tryd.prog.stoodInHeld 30 = false := by kernel_rfl
  rw [Msg.val, Msg.val, run_equalIn_struct w (d + 2) _ _ _ hf hs]
  unfold Program.fieldsOf; rw [Tryd.underlying30]
  have p0 := fun (m : Msg) (w : World) => part_u8 (cs := m.enc) (i := 0) (v := m.kind) w rfl
  have p1 := fun (m : Msg) (w : World) => part_u8 (cs := m.enc) (i := 1) (v := m.from_) w rfl
  have p2 := fun (m : Msg) (w : World) => part_u8 (cs := m.enc) (i := 2) (v := m.to) w rfl
  have p3 := fun (m : Msg) (w : World) => part_u8 (cs := m.enc) (i := 3) (v := m.line) w rfl
  have p4 := fun (m : Msg) (w : World) => part_u8 (cs := m.enc) (i := 4) (v := m.asker) w rfl
  have p5 := fun (m : Msg) (w : World) => part_u8 (cs := m.enc) (i := 5) (v := m.acks) w rfl
  have p6 := fun (m : Msg) (w : World) => part_bool (cs := m.enc) (i := 6) (v := m.alone) w rfl
  obtain ⟨e, he⟩ : ∃ e, e = d + 1 := ⟨_, rfl⟩
  have q0 := fun x y w => eq_u8 (d + 1) x y w
  have q1 := fun x y w => eq_bool' (d + 1) x y w
  have q2 := fun a b c f a' b' c' f' w => eq_data d a b c f a' b' c' f' w
  simp only [Op.eqFields, ne_eq, String.reduceEq, not_false_eq_true, if_true, Sem.run_bind, Sem.run_ite, p0, p1, p2, p3, p4, p5, p6, part_data, Result.andThen_ok, q0, q1, q2, Sem.run_pure]
  obtain ⟨a0, a1, a2, a3, a4, a5, a6, a7, a8, a9, a10⟩ := m
  obtain ⟨b0, b1, b2, b3, b4, b5, b6, b7, b8, b9, b10⟩ := n
  simp only [Msg.mk.injEq]
  by_cases h0 : a0 = b0
  · by_cases h1 : a1 = b1
    · by_cases h2 : a2 = b2
      · by_cases h3 : a3 = b3
        · by_cases h4 : a4 = b4
          · by_cases h5 : a5 = b5
            · by_cases h6 : a6 = b6
              · simp [h0, h1, h2, h3, h4, h5, h6]
                by_cases h7 : a7 = b7 <;> by_cases h8 : a8 = b8 <;> by_cases h9 : a9 = b9 <;> by_cases h10 : a10 = b10 <;> simp [h7, h8, h9, h10]
              · simp [h0, h1, h2, h3, h4, h5, h6]
            · simp [h0, h1, h2, h3, h4, h5]
          · simp [h0, h1, h2, h3, h4]
        · simp [h0, h1, h2, h3]
      · simp [h0, h1, h2]
    · simp [h0, h1]
  · simp [h0]
theorem neq_msg (x y : Operand) (m n : Msg) (w : World) : (do eqGuard .neq 30 x y m.val n.val; binOp .neq 30 m.val n.val).run Tryd.prog w = .ok (.bool (!decide (m = n))) w := by
  have h : (Op.equal 30 m.val n.val).run Tryd.prog w = .ok (decide (m = n)) w := eq_msg 9997 m n w
  have hg : Tryd.prog.eqGuardType Tryd.prog.depth 30 = false := by kernel_rfl
  have h1 : (eqGuard .neq 30 x y m.val n.val).run Tryd.prog w = .ok () w := by
    simp only [eqGuard, Msg.val, Bool.not_true, Bool.false_eq_true, if_false, Sem.run_bind, run_program, Result.andThen_ok, hg, Bool.not_false, if_true, Sem.run_pure]
  rw [Sem.run_bind, h1]
  rw [Msg.val, Msg.val] at h
  simp only [Result.andThen_ok, binOp, Msg.val, Sem.run_bind, h, Sem.run_pure]
end Go.Proofs.YtkekidalckflhaaDoor
