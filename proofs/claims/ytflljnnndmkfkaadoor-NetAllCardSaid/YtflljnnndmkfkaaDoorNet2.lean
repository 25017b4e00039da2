/- Contracts: the iterator over the messages that may be delivered next. -/
import Derived.Test.YtflljnnndmkfkaaDoorNet1
import Derived.Test.YtflljnnndmkfkaaDoorNetP
import Derived.Test.YtflljnnndmkfkaaDoorVcR
namespace Go.Proofs.YtflljnnndmkfkaaDoor
open Go.Vc Go.RowKit Go.Sei

def qv (q : UInt8 × UInt8 × UInt8) : Value := .agg (qcells q).toArray

theorem chk5 (e : Bool) (n : Nat) (x : UInt8) (w : World) : (Instr.checkKey e (n + 1) 5 (u8 x)).run Tryd.prog w = .ok () w := by
  simp only [Instr.checkKey, Sem.run_bind, run_underlying Tryd.underlying5, Result.andThen_ok, u8, Sem.run_pure]
theorem chkq (e : Bool) (n : Nat) (q : UInt8 × UInt8 × UInt8) (w : World) : (Instr.checkKey e (n + 2) 50 (qv q)).run Tryd.prog w = .ok () w := by
  obtain ⟨a, b, c⟩ := q
  have hp : ∀ (i : Nat) (v : UInt8) (w : World), (qcells (a, b, c))[i]? = some (u8 v) → (part 5 (qcells (a, b, c)).toArray i).run Tryd.prog w = .ok (u8 v) w := fun i v w h => by
    simp only [part, Sem.run_bind, Tryd.isAgg5, Result.andThen_ok, Bool.false_eq_true, if_false]
    have : (qcells (a, b, c)).toArray[i]? = some (u8 v) := by simpa using h
    rw [this]; rfl
  have h5 := fun x w => chk5 e n x w
  obtain ⟨m, hm⟩ : ∃ m, m = n + 1 := ⟨_, rfl⟩
  rw [← hm] at h5
  rw [show n + 2 = m + 1 by omega]
  clear hm
  simp only [Instr.checkKey, Sem.run_bind, run_underlying Tryd.underlying50, Result.andThen_ok, qv, Std.Legacy.Range.forIn_eq_forIn_range', Std.Legacy.Range.size, Nat.sub_zero, Nat.add_one_sub_one, Nat.div_one,
    List.range', List.forIn_cons, List.forIn_nil, Tryd.sizeOf5, hp 0 a _ rfl, hp 1 b _ rfl, hp 2 c _ rfl, h5, Sem.run_pure, Nat.zero_add, Nat.reduceAdd, Nat.mul_one]
theorem eqq (d : Nat) (q q' : UInt8 × UInt8 × UInt8) (w : World) : (Op.equalIn (d + 2) 50 (qv q) (qv q')).run Tryd.prog w = .ok (decide (q = q')) w := by
  obtain ⟨a, b, c⟩ := q
  obtain ⟨a', b', c'⟩ := q'
  have hp : ∀ (q : UInt8 × UInt8 × UInt8) (i : Nat) (v : UInt8) (w : World), (qcells q)[i]? = some (u8 v) → (part 5 (qcells q).toArray i).run Tryd.prog w = .ok (u8 v) w := fun q i v w h => by
    simp only [part, Sem.run_bind, Tryd.isAgg5, Result.andThen_ok, Bool.false_eq_true, if_false]
    have : (qcells q).toArray[i]? = some (u8 v) := by simpa using h
    rw [this]; rfl
  have he : ∀ (x y : UInt8) (w : World), (Op.equalIn (d + 1) 5 (u8 x) (u8 y)).run Tryd.prog w = .ok (decide (x = y)) w := fun x y w => by
    simp only [Op.equalIn, Sem.run_bind, run_underlying Tryd.underlying5, Result.andThen_ok, u8, if_true, Sem.run_pure]
    congr 1
    by_cases h : x = y
    · simp [h]
    · simp [h, u8_eq]
  have hc : Tryd.prog.cellsOf 5 = 1 := by kernel_rfl
  obtain ⟨⟨inf, hi⟩, _⟩ : Known Tryd.prog 5 := known_of (by kernel_rfl) (by kernel_rfl)
  rw [qv, qv, run_equalIn_array w (d + 1) _ _ Tryd.underlying50 hi, hc]
  simp only [List.range, List.range.loop, Op.eqItems, Sem.run_bind, Sem.run_ite, Nat.mul_one, hp (a, b, c) 0 a _ rfl, hp (a, b, c) 1 b _ rfl, hp (a, b, c) 2 c _ rfl, hp (a', b', c') 0 a' _ rfl, hp (a', b', c') 1 b' _ rfl, hp (a', b', c') 2 c' _ rfl, Result.andThen_ok, he]
  by_cases h1 : a = a' <;> by_cases h2 : b = b' <;> by_cases h3 : c = c' <;> simp [h1, h2, h3]

theorem qkey : MapK Tryd.prog 50 qv where
  check := fun q e w => chkq e 9998 q w
  eq := fun q q' w => eqq 9998 q q' w
  same := fun q => by
    obtain ⟨a, b, c⟩ := q
    simp [Instr.sameBits, qv, qcells, u8]
  desc := ⟨_, Tryd.underlying50, fun _ _ => .inl rfl⟩
end Go.Proofs.YtflljnnndmkfkaaDoor
