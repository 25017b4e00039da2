/- The engine, part C: the operations of part B yield what they say. -/
import Derived.Test.YtkekidalckflhaaDoorVcB
namespace Go.Vc
open Go.RowKit

section
variable {P : Program} {w : World}

theorem addr_add (b o : Nat) (j : Nat) : (⟨b, o, none⟩ : Addr).add j = ⟨b, o + j, none⟩ := by
  unfold Addr.add; split <;> simp_all

theorem intE_run {op : BinOp} {k : IntKind} {a b : Int} {K : Value → Prop} (T : TypeId) (x y : Operand) (h1 : op ≠ .shl) (h2 : op ≠ .shr) (h : intE op k a b K) :
    ∃ v, K v ∧ ∀ w, (do eqGuard op T x y (.int k a) (.int k b); binOp op T (.int k a) (.int k b) : Sem Value).run P w = .ok v w := by
  have hg : ∀ w, (eqGuard op T x y (.int k a) (.int k b)).run P w = .ok () w := by
    intro w; unfold eqGuard; cases op <;> simp
  have hb : ∀ v, (∀ w, (binOp op T (.int k a) (.int k b)).run P w = .ok v w) → ∀ w, (do eqGuard op T x y (.int k a) (.int k b); binOp op T (.int k a) (.int k b) : Sem Value).run P w = .ok v w := by
    intro v hv w
    rw [Sem.run_bind, hg w, Result.andThen_ok, hv w]
  cases op <;> simp only [intE] at h
  case lss => exact ⟨_, h, hb _ fun w => by simp [binOp, Op.intCmp]⟩
  case leq => exact ⟨_, h, hb _ fun w => by simp [binOp, Op.intCmp]⟩
  case gtr => exact ⟨_, h, hb _ fun w => by simp [binOp, Op.intCmp]⟩
  case geq => exact ⟨_, h, hb _ fun w => by simp [binOp, Op.intCmp]⟩
  case eql => exact ⟨_, h, hb _ fun w => by simp [binOp, Op.intCmp]; rfl⟩
  case neq => exact ⟨_, h, hb _ fun w => by simp [binOp, Op.intCmp]; rfl⟩
  case add => obtain ⟨r, e, hk⟩ := h; exact ⟨_, hk, hb _ fun w => by simp [binOp, Op.intArith, e]⟩
  case sub => obtain ⟨r, e, hk⟩ := h; exact ⟨_, hk, hb _ fun w => by simp [binOp, Op.intArith, e]⟩
  case mul => obtain ⟨r, e, hk⟩ := h; exact ⟨_, hk, hb _ fun w => by simp [binOp, Op.intArith, e]⟩
  case quo => obtain ⟨h0, r, e, hk⟩ := h; exact ⟨_, hk, hb _ fun w => by simp [binOp, Op.intDiv, e, h0]⟩
  case rem => obtain ⟨h0, r, e, hk⟩ := h; exact ⟨_, hk, hb _ fun w => by simp [binOp, Op.intDiv, e, h0]⟩
  case and => obtain ⟨r, e, hk⟩ := h; exact ⟨_, hk, hb _ fun w => by simp only [binOp, ne_eq, not_true_eq_false, if_false, Op.intBits, Sem.run_pure, e]⟩
  case or => obtain ⟨r, e, hk⟩ := h; exact ⟨_, hk, hb _ fun w => by simp only [binOp, ne_eq, not_true_eq_false, if_false, Op.intBits, Sem.run_pure, e]⟩
  case xor => obtain ⟨r, e, hk⟩ := h; exact ⟨_, hk, hb _ fun w => by simp only [binOp, ne_eq, not_true_eq_false, if_false, Op.intBits, Sem.run_pure, e]⟩
  case andNot => obtain ⟨r, e, hk⟩ := h; exact ⟨_, hk, hb _ fun w => by simp only [binOp, ne_eq, not_true_eq_false, if_false, Op.intBits, Sem.run_pure, e]⟩

theorem binE_run {op : BinOp} {T : TypeId} {x y : Operand} {vx vy : Value} {K : Value → Prop} (h : binE P op T x y vx vy K) :
    ∃ v, K v ∧ ∀ w, (do eqGuard op T x y vx vy; binOp op T vx vy : Sem Value).run P w = .ok v w := by
  unfold binE at h
  split at h
  · rename_i k a k' b
    split at h
    · obtain ⟨h0, r, e, hk⟩ := h
      exact ⟨_, hk, fun w => by simp [eqGuard, binOp, Op.shift, e, Int.not_lt.2 h0]⟩
    · obtain ⟨h0, r, e, hk⟩ := h
      exact ⟨_, hk, fun w => by simp [eqGuard, binOp, Op.shift, e, Int.not_lt.2 h0]⟩
    · rename_i n1 n2
      split at h
      · rename_i hk
        have : k = k' := by simpa [kEq] using hk
        subst this
        exact intE_run T x y n1 n2 h
      · exact h.elim
  · obtain ⟨v, hv, hk⟩ := h
    exact ⟨v, hk, hv⟩

theorem partE_run {off sz : Nat} {agg : Bool} {cs : Array Value} {K : Value → Prop} {t : TypeId} (h : partE off sz agg cs.toList K)
    (ha : ((P.underlying t).map aggOf).getD false = agg) (hs : P.cellsOf t = sz) (hn : Known P t) :
    ∃ v, K v ∧ ∀ w, (part t cs off).run P w = .ok v w := by
  obtain ⟨⟨i, hi⟩, d, hd⟩ := hn
  have hagg : ∀ w, (isAgg t).run P w = .ok agg w := by
    intro w
    rw [hd] at ha
    simp only [Option.map_some, Option.getD_some] at ha
    simp only [isAgg, Sem.run_bind, run_underlying hd, Result.andThen_ok]
    rw [← ha]
    cases d <;> rfl
  have hsz : ∀ w, (sizeOf t).run P w = .ok sz w := by
    intro w
    rw [← hs]
    simp [sizeOf, typeInfo, hi, Program.cellsOf]
  unfold partE at h
  split at h
  · refine ⟨_, h, fun w => ?_⟩
    simp only [part, Sem.run_bind, hagg w, Result.andThen_ok, if_true, hsz w, Sem.run_pure]
    congr 2
    apply Array.toList_inj.1
    simp [Array.toList_extract, List.extract_eq_take_drop]
  · split at h
    · rename_i v hv
      refine ⟨_, h, fun w => ?_⟩
      have hv' : cs[off]? = some v := by simpa using hv
      simp only [part, Sem.run_bind, hagg w, Result.andThen_ok, hv', Bool.false_eq_true, if_false, Sem.run_pure]
    · exact h.elim

theorem size_run {t : TypeId} {sz : Nat} (hn : Known P t) (hs : P.cellsOf t = sz) : ∀ w, (sizeOf t).run P w = .ok sz w := by
  intro w
  obtain ⟨⟨i, hi⟩, _⟩ := hn
  rw [← hs]
  simp [sizeOf, typeInfo, hi, Program.cellsOf]

theorem bnd_run {o : Option Value} {top dflt : Nat} {code : BoundsCode} {g : Nat → Prop} (h : bnd o dflt top g) :
    ∃ j, g j ∧ j ≤ (match o with | none => dflt | some _ => top) ∧ ∀ w, (match o with | some v => Instr.sliceBound v top code | none => pure dflt : Sem Nat).run P w = .ok j w := by
  unfold bnd at h
  split at h
  · exact ⟨dflt, h, Nat.le_refl _, fun w => rfl⟩
  · rename_i k i
    obtain ⟨j, rfl, hj, hg⟩ := h
    refine ⟨j, hg, hj, fun w => ?_⟩
    have h1 : (0 : Int) ≤ (j : Int) ∧ (j : Int) ≤ (top : Int) := ⟨by omega, by omega⟩
    simp [Instr.sliceBound, asIntOf, h1]
  · exact h.elim

theorem sliceBounds_run {isSlice : Bool} {len cap : Nat} {lo hi : Option Value} {g : Nat → Nat → Prop} (h : bnd hi len cap fun h => bnd lo 0 h fun l => g h l) :
    ∃ l h, g h l ∧ ∀ w, (Instr.sliceBounds isSlice len cap lo hi none).run P w = .ok (l, h, cap) w := by
  obtain ⟨hh, h2, _, r1⟩ := bnd_run (P := P) (code := if isSlice then .sliceAcap else .sliceAlen) h
  obtain ⟨l, h3, _, r2⟩ := bnd_run (P := P) (code := .sliceB) h2
  refine ⟨l, hh, h3, fun w => ?_⟩
  have e1 := r1 w
  have e2 := r2 w
  unfold Instr.sliceBounds
  cases hi <;> cases lo <;> simp_all

theorem putAt_eq (off : Nat) : ∀ (vs : List Value) (j : Nat) (l : List Value), ((vs.toArray.zipIdx j).foldl (fun cs (c, j) => cs.setIfInBounds (off + j) c) l.toArray) = (putAt l (off + j) vs).toArray
  | [], j, l => by rw [← Array.foldl_toList]; simp [putAt]
  | v :: r, j, l => by
    have ih := putAt_eq off r (j + 1) (l.set (off + j) v)
    simp only [putAt]
    rw [← Nat.add_assoc] at ih
    rw [← ih, ← Array.foldl_toList, ← Array.foldl_toList]
    simp

theorem fillL_eq {place : Nat → Option (Nat × Nat)} : ∀ (parts : List (Nat × Value)) (cells out : List Value), fillL place cells parts = some out → Instr.fill place cells.toArray parts = some out.toArray
  | [], cells, out, h => by simp only [fillL, Option.some.injEq] at h; subst h; rfl
  | (i, v) :: r, cells, out, h => by
    simp only [fillL] at h
    split at h
    · cases h
    · rename_i off sz hp
      split at h
      · rename_i hc
        simp only [Bool.and_eq_true, Nat.ble_eq] at hc
        have h1 := Nat.eq_of_beq_eq_true hc.1
        have ih := fillL_eq r _ out h
        have e := putAt_eq off v.cells.toList 0 cells
        simp only [Nat.add_zero] at e
        simp only [Instr.fill, hp, h1, ne_eq, not_true_eq_false, decide_false, Bool.false_or, List.size_toArray, decide_eq_true_eq, gt_iff_lt]
        rw [if_neg (by omega), ← ih]
        congr 1
      · cases h

theorem zrep_len (z : List Value) : ∀ n, (zrep z n).length = n * z.length
  | 0 => by simp [zrep]
  | n + 1 => by simp only [zrep, List.length_append, zrep_len z n, Nat.add_mul]; omega
theorem zrep_get (z : List Value) (hz : 0 < z.length) : ∀ (n i : Nat), i < n * z.length → (zrep z n)[i]? = z[i % z.length]?
  | 0, i, h => by omega
  | n + 1, i, h => by
    simp only [zrep, List.getElem?_append]
    split
    · rename_i hi; rw [Nat.mod_eq_of_lt hi]
    · rename_i hi
      rw [Nat.add_mul] at h
      rw [zrep_get z hz n (i - z.length) (by omega)]
      rw [show i % z.length = (i - z.length) % z.length from Nat.mod_eq_sub_mod (by omega)]

theorem zrep_eq (z : List Value) (hz : 0 < z.length) (n : Nat) : ((Array.range (n * z.length)).map (z.toArray[· % z.toArray.size]!)) = (zrep z n).toArray := by
  apply Array.ext
  · simp [zrep_len]
  · intro i h1 h2
    have h1' : i < n * z.length := by simpa using h1
    have hm : i % z.length < z.length := Nat.mod_lt _ hz
    have := zrep_get z hz n i h1'
    rw [List.getElem?_eq_getElem hm] at this
    simp only [Array.getElem_map, Array.getElem_range, List.size_toArray, List.getElem_toArray]
    have h3 : (zrep z n)[i]? = some (zrep z n)[i] := List.getElem?_eq_getElem (by simpa using h2)
    rw [h3] at this
    simp only [Option.some.injEq] at this
    rw [this, getElem!_pos _ _ (by simpa using hm)]
    rfl

end
end Go.Vc
