/- Rows that are written element by element. -/
import Derived.Test.YtkekidalckflhaaDoorVcL
namespace Go.Vc
open Go.RowKit

theorem wrap_u64 {a : Int} (h : 0 ≤ a ∧ a ≤ 18446744073709551615) : IntKind.u64.wrap a = a := by
  simp [IntKind.wrap, IntKind.signed, IntKind.bits] <;> omega
theorem half_u64 (n : Nat) : Int.fdiv (n : Int) (2 ^ (min (1 : Int).toNat IntKind.u64.bits)) = ((n / 2 : Nat) : Int) := by
  have : (2 : Int) ^ (min (1 : Int).toNat IntKind.u64.bits) = 2 := by decide
  rw [this, Int.fdiv_eq_ediv_of_nonneg _ (by decide)]; omega

/-- Block g holds the elements of l, and behind them sp. -/
def RowS {α : Type} (E : Enc α) (T : TypeId) (w : World) (g : Nat) (sp : List Value) (l : List α) : Prop :=
  w.heap[g]? = some (.cells (l.flatMap E.enc ++ sp).toArray T (0, 0))

section
variable {α : Type} {E : Enc α} {T : TypeId} {w w2 : World} {g : Nat} {sp : List Value} {l : List α}
theorem RowS.row (h : RowS E T w g sp l) : SlR E w (some ⟨g, 0, none⟩) l := by
  refine SlR.of_cells (hlt h) (cells_mk fun i v hv => cells_at (cells_block h) ?_)
  rw [List.getElem?_append_left (List.getElem?_eq_some_iff.1 hv).1]
  exact hv
theorem RowS.at (h : RowS E T w g sp l) {i : Nat} (hi : i < l.length) : Cells w ⟨g, 0 + i * E.sz, none⟩ (E.enc l[i]) := by
  rcases h.row with h0 | ⟨b, o, h1, _, hc⟩
  · subst h0; simp at hi
  · cases h1; exact hc i hi
theorem RowS.lt (h : RowS E T w g sp l) : g < w.heap.size := hlt h
theorem RowS.same (h : RowS E T w g sp l) (hs : w2.heap[g]? = w.heap[g]?) : RowS E T w2 g sp l := hs.trans h
theorem RowS.below (h : RowS E T w g sp l) (hb : Below w.heap.size w w2) : RowS E T w2 g sp l := block_below hb h

theorem flat_set (l : List α) {i : Nat} (hi : i < l.length) (x : α) (sp : List Value) :
    (l.flatMap E.enc ++ sp).take (i * E.sz) ++ E.enc x ++ (l.flatMap E.enc ++ sp).drop (i * E.sz + E.sz) = (l.set i x).flatMap E.enc ++ sp := by
  have hl : l = l.take i ++ l[i] :: l.drop (i + 1) := by rw [List.getElem_cons_drop, List.take_append_drop]
  have h1 : ((l.take i).flatMap E.enc).length = i * E.sz := by rw [flat_len, List.length_take, Nat.min_eq_left (by omega)]
  have h2 : (l.take i ++ l[i] :: l.drop (i + 1)).flatMap E.enc ++ sp = (l.take i).flatMap E.enc ++ (E.enc l[i] ++ ((l.drop (i + 1)).flatMap E.enc ++ sp)) := by
    rw [List.flatMap_append, List.flatMap_cons]; simp only [List.append_assoc]
  rw [← hl] at h2
  rw [List.set_eq_take_append_cons_drop, if_pos hi, h2]
  rw [List.take_append_of_le_length (by omega), List.take_of_length_le (by omega), List.drop_append, List.drop_of_length_le (by omega), h1]
  have h3 : i * E.sz + E.sz - i * E.sz = E.sz := by omega
  rw [h3, List.nil_append, List.drop_append, List.drop_of_length_le (by rw [E.len]; exact Nat.le_refl _), E.len, Nat.sub_self, List.drop_zero]
  simp [List.flatMap_append]

/-- A store of one element. -/
theorem store_row {P : Program} {Te : TypeId} {iT : TI} (hT : TIok P Te iT) (hs : iT.size = E.sz) (hr : RowS E T w g sp l) {i : Nat} (hi : i < l.length) (x : α) {K : World → Prop}
    (k : ∀ w', RowS E T w' g sp (l.set i x) → w.grownBy w' (some g) → w'.heap.size = w.heap.size → K w') :
    SatR ((storeVar Te ⟨g, 0 + i * E.sz, none⟩ (.agg (E.enc x).toArray)).run P w) fun _ w' => K w' := by
  obtain ⟨⟨inf, hinf, hsz, _, _⟩, _⟩ := hT
  have hfl : (l.flatMap E.enc).length = l.length * E.sz := flat_len l
  have hle : i * E.sz + E.sz ≤ l.length * E.sz := by rw [← Nat.succ_mul]; exact Nat.mul_le_mul_right _ hi
  have hst := run_storeCells_at P g (0 + i * E.sz) T (E.enc x) 0 _ w hr (by rw [E.len]; simp only [List.size_toArray, List.length_append, hfl]; omega) (E.one x)
  have hrun : (sizeOf Te).run P w = .ok iT.size w := by simp [sizeOf, typeInfo, hinf, hsz]
  refine SatR.mk (v := ()) (w' := w.setRow g ((l.set i x).flatMap E.enc ++ sp).toArray) ?_ (k _ (setRow_new hr) (grown_setRow w g _) (by simp))
  simp only [storeVar, Sem.run_bind, hrun, Result.andThen_ok]
  have hc : (Value.agg (E.enc x).toArray).cells = (E.enc x).toArray := rfl
  rw [hc]
  simp only [List.size_toArray, E.len, hs, ne_eq, not_true_eq_false, if_false]
  rw [hst, ← flat_set l hi x sp]
  simp only [E.len, Nat.zero_add, Nat.add_zero]

theorem RowS.mid {A B : List α} {x : α} (h : RowS E T w g sp (A ++ x :: B)) {i : Nat} (hi : A.length = i) : Cells w ⟨g, 0 + i * E.sz, none⟩ (E.enc x) := by
  subst hi
  have := h.at (i := A.length) (by simp)
  simpa using this
theorem store_mid {P : Program} {iT : TI} (hT : TIok P T iT) (hs : iT.size = E.sz) {A B : List α} {y : α} (hr : RowS E T w g sp (A ++ y :: B)) {i : Nat} (hi : A.length = i) (x : α) {K : World → Prop}
    (k : ∀ w', RowS E T w' g sp (A ++ x :: B) → w.grownBy w' (some g) → w'.heap.size = w.heap.size → K w') :
    SatR ((storeVar T ⟨g, 0 + i * E.sz, none⟩ (.agg (E.enc x).toArray)).run P w) fun _ w' => K w' := by
  subst hi
  refine store_row hT hs hr (by simp) x fun w' h1 h2 h3 => k w' ?_ h2 h3
  simpa using h1

theorem grown_refl (w : World) (row : Option Nat) : w.grownBy w row := ⟨rfl, rfl, rfl, Nat.le_refl _, fun _ _ _ => rfl⟩
theorem grown_trans {a b c : World} {row : Option Nat} (h : a.grownBy b row) (k : b.grownBy c row) : a.grownBy c row :=
  ⟨k.os.trans h.os, k.tape.trans h.tape, k.output.trans h.output, Nat.le_trans h.size k.size, fun i hi hn => (k.block i (Nat.lt_of_lt_of_le hi h.size) hn).trans (h.block i hi hn)⟩
theorem grown_of_below {a b : World} {row : Option Nat} (h : Below a.heap.size a b) : a.grownBy b row := ⟨h.os, h.tape, h.output, h.size, fun k hk _ => h.block k hk⟩
/-- A store of one cell into a box of cells. -/
theorem store_cell {P : Program} {Te : TypeId} {iT : TI} (hT : TIok P Te iT) (hs : iT.size = 1) {cs : Array Value} {t : TypeId} (hg : w.heap[g]? = some (.cells cs t (0, 0))) {o : Nat} (ho : o < cs.size) {v : Value} (hv : v.cells = #[v]) (h1 : v.oneCell' = true) {K : World → Prop}
    (k : ∀ w', w'.heap[g]? = some (.cells (cs.toList.take o ++ [v] ++ cs.toList.drop (o + 1)).toArray t (0, 0)) → w.grownBy w' (some g) → w'.heap.size = w.heap.size → K w') :
    SatR ((storeVar Te ⟨g, o, none⟩ v).run P w) fun _ w' => K w' := by
  obtain ⟨⟨inf, hinf, hsz, _, _⟩, _⟩ := hT
  have hst := run_storeCells_at P g o t [v] 0 cs w hg (by simp; omega) (by simp [h1])
  have hrun : (sizeOf Te).run P w = .ok iT.size w := by simp [sizeOf, typeInfo, hinf, hsz]
  refine SatR.mk (v := ()) (w' := w.setRow g (cs.toList.take o ++ [v] ++ cs.toList.drop (o + 1)).toArray) ?_ (k _ (setRow_new hg) (grown_setRow w g _) (by simp))
  simp only [storeVar, Sem.run_bind, hrun, Result.andThen_ok, hv, hs]
  simpa using hst
end
end Go.Vc
