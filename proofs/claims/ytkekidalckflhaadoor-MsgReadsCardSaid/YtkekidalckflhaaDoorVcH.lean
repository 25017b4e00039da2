/- Helpers for walks: numbers, rows of cells, boxes, owned slices. -/
import Derived.Test.YtkekidalckflhaaDoorVcG
import Derived.Laws.AppendOwn
import Derived.Maps.AppendAt
import Derived.Laws.AppendOwnNone
namespace Go.Vc
open Go.RowKit

theorem rb {a b : Bool} (h : a = b) : Ending.returned (.bool a) = Ending.returned (.bool b) := by rw [h]
theorem ri {k : IntKind} {a b : Int} (h : a = b) : Ending.returned (.int k a) = Ending.returned (.int k b) := by rw [h]

theorem wrap_i64 {a : Int} (h : -9223372036854775808 ≤ a ∧ a ≤ 9223372036854775807) : IntKind.i64.wrap a = a := by
  unfold IntKind.wrap
  simp only [IntKind.bits, IntKind.signed, Bool.true_and, show ((2 : Int) ^ 64) = 18446744073709551616 from rfl, show ((2 : Int) ^ (64 - 1)) = 9223372036854775808 from rfl]
  split
  · rename_i h2; have := of_decide_eq_true h2; omega
  · rename_i h2; have h3 : a % 18446744073709551616 < 9223372036854775808 := by simpa using h2
    omega
theorem wrap_u8 {a : Int} (h : 0 ≤ a ∧ a ≤ 255) : IntKind.u8.wrap a = a := by
  unfold IntKind.wrap; simp only [IntKind.bits, IntKind.signed, Bool.false_and, Bool.false_eq_true, if_false]; omega
theorem u8_lt (x : UInt8) : (x.toNat : Int) ≤ 255 := by have := x.toNat_lt; omega
theorem wrap_u8_i64 (x : UInt8) : IntKind.i64.wrap (x.toNat : Int) = (x.toNat : Int) := wrap_i64 (by have := u8_lt x; omega)
theorem u8_eq {x y : UInt8} : ((x.toNat : Int) = (y.toNat : Int)) ↔ x = y :=
  ⟨fun h => UInt8.toNat_inj.1 (by omega), fun h => by rw [h]⟩

def u8 (x : UInt8) : Value := .int .u8 x.toNat

theorem cells_head {w : World} {b o : Nat} {v : Value} {vs : List Value} (h : Cells w ⟨b, o, none⟩ (v :: vs)) : w.cell? ⟨b, o, none⟩ = some v := by
  have := h 0 v rfl
  rwa [addr_add] at this
theorem cells_at {w : World} {b o : Nat} {vs : List Value} (h : Cells w ⟨b, o, none⟩ vs) {i : Nat} {v : Value} (hv : vs[i]? = some v) : w.cell? ⟨b, o + i, none⟩ = some v := by
  have := h i v hv
  rwa [addr_add] at this
theorem cells_mk {w : World} {b o : Nat} {vs : List Value} (h : ∀ i v, vs[i]? = some v → w.cell? ⟨b, o + i, none⟩ = some v) : Cells w ⟨b, o, none⟩ vs :=
  fun i v hv => by rw [addr_add]; exact h i v hv
theorem cells_sub {w : World} {b o n m : Nat} {vs : List Value} (h : Cells w ⟨b, o, none⟩ vs) : Cells w ⟨b, o + n, none⟩ ((vs.drop n).take m) := by
  refine cells_mk fun i v hv => ?_
  rw [List.getElem?_take] at hv
  split at hv
  · rw [List.getElem?_drop] at hv
    have := cells_at h hv
    rwa [← Nat.add_assoc] at this
  · cases hv

/-- A row read off its block. -/
theorem cells_block {w : World} {g : Nat} {cs : Array Value} {t : TypeId} {fr : Nat × Nat} (h : w.heap[g]? = some (.cells cs t fr)) : Cells w ⟨g, 0, none⟩ cs.toList := by
  refine cells_mk fun i v hv => ?_
  rw [cell_of_row w g (0 + i) cs t fr h, Nat.zero_add]
  simpa using hv
theorem cells_block' {w : World} {g o n : Nat} {cs : Array Value} {t : TypeId} {fr : Nat × Nat} (h : w.heap[g]? = some (.cells cs t fr)) : Cells w ⟨g, o, none⟩ ((cs.toList.drop o).take n) := by
  have := cells_sub (n := o) (m := n) (cells_block h)
  rwa [Nat.zero_add] at this

theorem cells_new {w : World} {cs : Array Value} {t : TypeId} : Cells (w.alloc (.cells cs t)) ⟨w.heap.size, 0, none⟩ cs.toList :=
  cells_block (heap_alloc_new w _)

theorem block_below {w w2 : World} (hb : Below w.heap.size w w2) {g : Nat} {o : Obj} (h : w.heap[g]? = some o) : w2.heap[g]? = some o :=
  (hb.block g (Array.getElem?_eq_some_iff.1 h).1).trans h

/-- How a type of elements is laid in cells. -/
structure Enc (α : Type) where
  enc : α → List Value
  sz : Nat
  len : ∀ a, (enc a).length = sz
  pos : 0 < sz
  one : ∀ a, ∀ u ∈ enc a, u.oneCell' = true

/-- The row at p holds the elements of l. -/
def SlR {α : Type} (E : Enc α) (w : World) (p : Option Addr) (l : List α) : Prop :=
  l = [] ∨ ∃ b o, p = some ⟨b, o, none⟩ ∧ b < w.heap.size ∧ ∀ i (h : i < l.length), Cells w ⟨b, o + i * E.sz, none⟩ (E.enc l[i])

section
variable {α : Type} {E : Enc α} {w w2 : World} {p : Option Addr} {l : List α}

theorem SlR.nil {E : Enc α} {w : World} {p : Option Addr} : SlR E w p [] := .inl rfl
theorem SlR.at (h : SlR E w p l) {i : Nat} (hi : i < l.length) : ∃ b o, p = some ⟨b, o, none⟩ ∧ b < w.heap.size ∧ ∀ i (h : i < l.length), Cells w ⟨b, o + i * E.sz, none⟩ (E.enc l[i]) := by
  rcases h with rfl | h
  · simp at hi
  · exact h
theorem SlR.below (h : SlR E w p l) (hb : Below w.heap.size w w2) : SlR E w2 p l := by
  rcases h with rfl | ⟨b, o, hp, hlt, hc⟩
  · exact .inl rfl
  · exact .inr ⟨b, o, hp, Nat.lt_of_lt_of_le hlt hb.size, fun i hi => cells_below hb (hc i hi)⟩

theorem flat_get (l : List α) (i : Nat) (hi : i < l.length) : (((l.flatMap E.enc).drop (i * E.sz)).take E.sz) = E.enc l[i] := by
  induction l generalizing i with
  | nil => simp at hi
  | cons a r ih =>
    rw [List.flatMap_cons]
    cases i with
    | zero => simp [← E.len a]
    | succ i =>
      have e : (i + 1) * E.sz = (E.enc a).length + i * E.sz := by rw [E.len, Nat.add_mul]; omega
      rw [e, ← List.drop_drop, List.drop_left]
      simpa using ih i (by simpa using hi)
theorem flat_len (l : List α) : (l.flatMap E.enc).length = l.length * E.sz := by
  induction l with
  | nil => simp
  | cons a r ih => rw [List.flatMap_cons, List.length_append, ih, E.len, List.length_cons, Nat.add_mul]; omega
theorem flat_one (l : List α) : ∀ u ∈ l.flatMap E.enc, u.oneCell' = true := fun u hu => by
  obtain ⟨a, _, h⟩ := List.mem_flatMap.1 hu
  exact E.one a u h

theorem SlR.of_cells {b o : Nat} (hb : b < w.heap.size) (h : Cells w ⟨b, o, none⟩ (l.flatMap E.enc)) : SlR E w (some ⟨b, o, none⟩) l :=
  .inr ⟨b, o, rfl, hb, fun i hi => by rw [← flat_get l i hi]; exact cells_sub h⟩

theorem SlR.cells {b o : Nat} (h : SlR E w (some ⟨b, o, none⟩) l) : Cells w ⟨b, o, none⟩ (l.flatMap E.enc) := by
  rcases h with rfl | ⟨b', o', hp, hlt, hc⟩
  · intro i v hv; simp at hv
  · cases hp
    refine cells_mk fun j v hv => ?_
    have hj : j < l.length * E.sz := by rw [← flat_len (E := E) l]; exact (List.getElem?_eq_some_iff.1 hv).1
    have hs := E.pos
    have hd : j / E.sz < l.length := Nat.div_lt_of_lt_mul (by rw [Nat.mul_comm]; exact hj)
    have h2 : (E.enc l[j / E.sz])[j % E.sz]? = some v := by
      rw [← flat_get l _ hd, List.getElem?_take, if_pos (Nat.mod_lt _ hs), List.getElem?_drop, Nat.mul_comm, Nat.div_add_mod]
      exact hv
    have h3 := cells_at (hc _ hd) h2
    rwa [Nat.add_assoc, Nat.mul_comm, Nat.div_add_mod] at h3

/-- A slice of the call's own, from block B on. -/
def OwnS (E : Enc α) (T : TypeId) (B : Nat) (w : World) (p : Option Addr) (cap : Nat) (l : List α) : Prop :=
  w.ownsRow B T E.sz (.slice p l.length cap) l.length (l.flatMap E.enc)

theorem OwnS.nil {E : Enc α} {T B : Nat} {w : World} : OwnS E T B w none 0 [] := by
  unfold OwnS; exact World.ownsRow_nil _ _ _ _

theorem OwnS.inv {T B cap : Nat} (h : OwnS E T B w p cap l) : (p = none ∧ cap = 0 ∧ l = []) ∨
    ∃ g cur, p = some ⟨g, 0, none⟩ ∧ B ≤ g ∧ w.heap[g]? = some (.cells cur T (0, 0)) ∧ l.length ≤ cap ∧ cap ≤ maxLen ∧ cur.size = cap * E.sz ∧ cur.toList.take (l.length * E.sz) = l.flatMap E.enc := by
  obtain ⟨h1, h2⟩ := h
  rcases h2 with ⟨h2, h3⟩ | ⟨g, cap', cur, h2, hb, hg, hn, hm, hs, ht⟩
  · simp only [Value.slice.injEq] at h2
    exact .inl ⟨h2.1, h2.2.2, List.eq_nil_of_length_eq_zero h3⟩
  · simp only [Value.slice.injEq, true_and] at h2
    obtain ⟨rfl, rfl⟩ := h2
    exact .inr ⟨g, cur, rfl, hb, hg, hn, hm, hs, ht⟩

theorem OwnS.row {T B cap : Nat} (h : OwnS E T B w p cap l) : SlR E w p l := by
  rcases h.inv with ⟨_, _, rfl⟩ | ⟨g, cur, rfl, _, hg, _, _, _, ht⟩
  · exact .inl rfl
  · refine SlR.of_cells (Array.getElem?_eq_some_iff.1 hg).1 ?_
    rw [← ht]
    exact cells_block' (o := 0) hg

theorem OwnS.kept {T B cap : Nat} (h : OwnS E T B w p cap l) {w' : World} {row : Option Nat} (hg : w.grownBy w' row) (hne : ∀ g, p = some ⟨g, 0, none⟩ → row ≠ some g) : OwnS E T B w' p cap l := by
  refine World.ownsRow.kept h hg ?_
  rcases h.inv with ⟨rfl, _⟩ | ⟨g, _, rfl, _⟩
  · exact .inl rfl
  · exact .inr (fun e => hne g rfl e.symm)
theorem OwnS.below {T B cap : Nat} (h : OwnS E T B w p cap l) (hb : Below w.heap.size w w2) : OwnS E T B w2 p cap l :=
  h.kept (row := none) ⟨hb.os, hb.tape, hb.output, hb.size, fun k hk _ => hb.block k hk⟩ (fun _ _ h => by cases h)
theorem OwnS.alloc {T B cap : Nat} (h : OwnS E T B w p cap l) (o : Obj) : OwnS E T B (w.alloc o) p cap l :=
  h.below ((Below.refl _ w).alloc (Nat.le_refl _) o)
theorem OwnS.drew {T B cap : Nat} (h : OwnS E T B w p cap l) : OwnS E T B w.drew p cap l := h.below (Below.refl _ w).drew

/-- append to a slice of the call's own. -/
theorem app_own {P : Program} {t T ty B cap m c : Nat} {a : Addr} {news : List α} {iT : TI} {z : List Value} (hu : P.underlying t = some (.slice T)) (hT : TIok P T iT) (hz : iT.zero = some z)
    (hs : iT.size = E.sz) (hzl : z.length = E.sz) (ho : OwnS E T B w p cap l) (hm : news.length = m) (hn : Cells w a (news.flatMap E.enc)) (hB : B ≤ w.heap.size)
    (h1 : l.length + m ≤ 9223372036854775807) (h2 : (l.length + m) * iT.bytes ≤ 140737488355328) {K : Value → World → Prop}
    (k : ∀ p' cap' w', OwnS E T B w' p' cap' (l ++ news) → w.grownBy w' (Value.slice p l.length cap).ownBlock → Below B w w' →
      (∀ a, p' = some a → p = some a ∨ a.block = w.heap.size) → K (.slice p' (l ++ news).length cap') w') :
    SatR ((Builtin.append_ #[t, t] ty #[.slice p l.length cap, .slice (some a) m c]).run P w) K := by
  obtain ⟨⟨inf, hi, hsz, hby, hzz⟩, _⟩ := hT
  obtain ⟨zv, hzv, hzc⟩ := hzz z hz
  have hown := run_append_own_at (P := P) w B t ty T inf zv E.sz iT.bytes hu hi hzv (hsz.trans hs) hby (by rw [← hzl, ← hzc]; simp) E.pos (.slice p l.length cap) l.length (l.flatMap E.enc) ho a m c (news.flatMap E.enc)
    (by rw [flat_len, hm]) hn (flat_one news) (by unfold maxLen; omega) h2 hB
  obtain ⟨v', w', hr, ho', hg, _, hat⟩ := hown
  refine SatR.mk hr ?_
  have hl : l.length + m = (l ++ news).length := by simp [hm]
  have hf : l.flatMap E.enc ++ news.flatMap E.enc = (l ++ news).flatMap E.enc := by rw [List.flatMap_append]
  rw [hl, hf] at ho'
  have hb : Below B w w' := (Below.refl B w).grown hg hB (fun k e => (World.ownsRow.lt ho k e).1)
  rcases ho'.2 with ⟨rfl, h0⟩ | ⟨g, cap', cur, rfl, rest⟩
  · have : K (.slice none (l ++ news).length 0) w' := k none 0 w' (by unfold OwnS; rw [h0] at ho' ⊢; exact ho') hg hb (fun _ h => by cases h)
    rw [h0] at this
    exact this
  · refine k _ _ w' ho' hg hb fun a ha => ?_
    cases ha
    rcases hat with h1 | h1
    · rcases ho.inv with ⟨rfl, _⟩ | ⟨g', _, rfl, _⟩
      · simp [Value.ownBlock] at h1
      · simp [Value.ownBlock] at h1
        exact .inl (by rw [h1])
    · simp [Value.ownBlock] at h1
      exact .inr h1

theorem OwnS.same {T B cap : Nat} (h : OwnS E T B w p cap l) {w' : World} (hs : ∀ a, p = some a → w'.heap[a.block]? = w.heap[a.block]?) : OwnS E T B w' p cap l := by
  obtain ⟨h1, h2⟩ := h
  refine ⟨h1, ?_⟩
  rcases h2 with h2 | ⟨g, cap', cur, h2, hb, hg, rest⟩
  · exact .inl h2
  · refine .inr ⟨g, cap', cur, h2, hb, ?_, rest⟩
    simp only [Value.slice.injEq] at h2
    rw [← hg]
    exact hs _ h2.1

end

/-! ### New blocks -/
theorem hnew (w : World) (o : Obj) : (w.alloc o).heap[w.heap.size]? = some o := by
  show (w.heap.push o)[w.heap.size]? = some o
  simp
theorem hold {w : World} {i : Nat} {x : Obj} (o : Obj) (h : w.heap[i]? = some x) : (w.alloc o).heap[i]? = some x := by
  have hi : i < w.heap.size := (Array.getElem?_eq_some_iff.1 h).1
  show (w.heap.push o)[i]? = some x
  rw [Array.getElem?_push, if_neg (Nat.ne_of_lt hi)]
  exact h
theorem hrow {w : World} {i g : Nat} {x : Obj} (cs : Array Value) (hne : i ≠ g) (h : w.heap[i]? = some x) : (w.setRow g cs).heap[i]? = some x := by
  rw [setRow_other w g i cs hne]; exact h
theorem hdr {w : World} {i : Nat} {x : Obj} (h : w.heap[i]? = some x) : w.drew.heap[i]? = some x := h
theorem hlt {w : World} {i : Nat} {x : Obj} (h : w.heap[i]? = some x) : i < w.heap.size := (Array.getElem?_eq_some_iff.1 h).1

/-! ### Stores into boxes -/
theorem store_box {P : Program} {w : World} {T g : Nat} {iT : TI} (hT : TIok P T iT) {cs : Array Value} {t : TypeId} (hg : w.heap[g]? = some (.cells cs t (0, 0))) {v : Value} (hv : v.cells.size = iT.size)
    (hc : cs.size = iT.size) (h0 : v.cells.toList.all Value.oneCell' = true) {K : World → Prop} (k : K (w.setRow g v.cells)) : SatR ((storeVar T ⟨g, 0, none⟩ v).run P w) fun _ w' => K w' := by
  obtain ⟨⟨inf, hi, hs, _, _⟩, _⟩ := hT
  have h1 : ∀ u ∈ v.cells.toList, u.oneCell' = true := List.all_eq_true.1 h0
  have hst := run_storeCells_at P g 0 t v.cells.toList 0 cs w hg (by simp; omega) h1
  refine SatR.mk (v := ()) (w' := w.setRow g v.cells) ?_ k
  have hsz : (sizeOf T).run P w = .ok iT.size w := by simp [sizeOf, typeInfo, hi, hs]
  simp only [storeVar, Sem.run_bind, hsz, Result.andThen_ok, hv, ne_eq, not_true_eq_false, if_false]
  rw [hst]
  congr 2
  apply Array.toList_inj.1
  simp [hc, hv]

theorem setRow_new {w : World} {g : Nat} {cs cs' : Array Value} {t : TypeId} {fr : Nat × Nat} (hg : w.heap[g]? = some (.cells cs t fr)) : (w.setRow g cs').heap[g]? = some (.cells cs' t fr) := setRow_heap w g cs cs' t fr hg
theorem setRow_old {w : World} {g k : Nat} {cs : Array Value} (h : k ≠ g) : (w.setRow g cs).heap[k]? = w.heap[k]? := setRow_other w g k cs h
theorem below_setRow {B : Nat} {a w : World} (h : Below B a w) {g : Nat} (hg : B ≤ g) (cs : Array Value) : Below B a (w.setRow g cs) :=
  h.trans ⟨rfl, rfl, rfl, by simp, fun k hk => setRow_old (by omega)⟩
theorem grown_setRow (w : World) (g : Nat) (cs : Array Value) : w.grownBy (w.setRow g cs) (some g) :=
  ⟨rfl, rfl, rfl, by simp, fun k _ hne => setRow_old (fun e => hne (by rw [e]))⟩

end Go.Vc
