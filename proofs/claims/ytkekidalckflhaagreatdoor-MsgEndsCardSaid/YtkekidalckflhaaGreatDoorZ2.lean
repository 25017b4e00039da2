/- Slices: cut; grown by a make; appended to by what may be nil. Rows that are written element by element. Bytes: their comparison, their rows. Law17: what its functions need of a world; Class, number, kindOf. The engine, part J: joins: code of which some sequences are cut at a state of their own. geo: Right, valid, Home, Nodes, Lines, IsCache, IsHome. Maps that a call makes: keys of a data type κ. Ranges over functions: what an iterator owes; the law for a loop over it. geo: Home, Nodes, Lines, IsCache, IsHome. Messages compared. Contracts: msg.code. The engine, part K: a quick check of a tree of orders: an operation that stands apart from all that is left is taken first. Law17: the text of a message. Law17: msg.Text. Law17: the closures of msg.scan; kindOf. Law17: the closures number and skip of msg.scan; kindOf. Law17: msg.scan. Law17: msg.Parse, msg.Bytes. Law17: letters: has, ends, values, plain; Right. Law17: awake. Law17: awake. Law17: letters: values, plain. Law17: msg.Right. -/
import Derived.Test.YtkekidalckflhaaGreatDoorZ1
import Derived.Lib.AppendZerosOnto
import Derived.Laws.OwnMore
import Derived.Test.YtkekidalckflhaaGreatDoorZKSig
import Derived.Test.YtkekidalckflhaaGreatDoorZKShelf
import GoSem.Instr.MapEntry
import Derived.ChangeKeysEq
import Derived.RangeFuncIn
import Derived.RangeFuncNested
import Derived.Laws.StructEq
import Derived.Laws.CopyRow
import Derived.Lib.ItoaLen
import Derived.Laws.Strings
import Derived.Lib.SmallJoins
import Derived.KernelRfl
import Derived.Laws.BytesArg
namespace Go.Vc
open Go.RowKit Go.Lib

theorem add_none' (b o i : Nat) : (⟨b, o, none⟩ : Addr).add i = ⟨b, o + i, none⟩ := by
  unfold Addr.add
  by_cases h : i = 0
  · simp [h]
  · simp [h]
theorem cutBase_zero (p : Option Addr) (cap sz : Nat) : cutBase p cap 0 sz = p := by
  unfold cutBase
  split
  · rfl
  · cases p with
    | none => rfl
    | some a => simp [Addr.add]

section
variable {α : Type} {E : Enc α} {w : World} {p : Option Addr} {l : List α}

theorem SlR.sub (h : SlR E w p l) {cap lo hi : Nat} (h1 : lo ≤ hi) (h2 : hi ≤ l.length) (h3 : l.length ≤ cap) : SlR E w (cutBase p cap lo E.sz) ((l.drop lo).take (hi - lo)) := by
  by_cases he : hi = lo
  · left; subst he; simp
  · rcases h with rfl | ⟨b, o, rfl, hb, hc⟩
    · left; simp
    · right
      refine ⟨b, o + lo * E.sz, ?_, hb, fun i hi2 => ?_⟩
      · unfold cutBase
        rw [if_neg (by omega)]
        simp [add_none']
      · simp only [List.length_take, List.length_drop] at hi2
        have := hc (lo + i) (by omega)
        rw [List.getElem_take, List.getElem_drop]
        rw [Nat.add_assoc, ← Nat.add_mul]
        exact this

theorem SlR.none (h : SlR E w none l) : l = [] := by
  rcases h with h | ⟨b, o, h, _⟩
  · exact h
  · cases h

/-- append to a slice of the call's own, whatever slice stands behind. -/
theorem app_any {P : Program} {t T ty B cap m c : Nat} {a : Option Addr} {news : List α} {iT : TI} {z : List Value} (hu : P.underlying t = some (.slice T)) (hT : TIok P T iT) (hz : iT.zero = some z)
    (hs : iT.size = E.sz) (hzl : z.length = E.sz) (ho : OwnS E T B w p cap l) (hm : news.length = m) (hn : SlR E w a news) (hc : a = none → c = 0) (hB : B ≤ w.heap.size)
    (h1 : l.length + m ≤ 9223372036854775807) (h2 : (l.length + m) * iT.bytes ≤ 140737488355328) {K : Value → World → Prop}
    (k : ∀ p' cap' w', OwnS E T B w' p' cap' (l ++ news) → w.grownBy w' (Value.slice p l.length cap).ownBlock → Below B w w' → K (.slice p' (l ++ news).length cap') w') :
    SatR ((Builtin.append_ #[t, t] ty #[.slice p l.length cap, .slice a m c]).run P w) K := by
  cases a with
  | none =>
    have hn := hn.none
    have hc := hc rfl
    subst hn hc
    simp at hm
    subst hm
    obtain ⟨⟨inf, hi, hsz, hby, hzz⟩, _⟩ := hT
    refine SatR.mk (run_append_owned_none (P := P) (w := w) B t ty T inf E.sz hu hi _ _ _ ho) ?_
    have := k p cap w (by rw [List.append_nil]; exact ho) ⟨rfl, rfl, rfl, Nat.le_refl _, fun _ _ _ => rfl⟩ (Below.refl _ _)
    rwa [List.append_nil] at this
  | some a =>
    by_cases h0 : news = []
    · subst h0
      simp at hm
      subst hm
      exact app_own hu hT hz hs hzl ho (by simp) (fun i v hv => by simp at hv) hB h1 h2 fun p' cap' w' h1 h2 h3 _ => k p' cap' w' h1 h2 h3
    · have hn' : Cells w a (news.flatMap E.enc) := by
        rcases hn with h | ⟨b, o, h, hb, hcs⟩
        · exact absurd h h0
        · cases h
          exact SlR.cells (.inr ⟨b, o, rfl, hb, hcs⟩)
      exact app_own hu hT hz hs hzl ho hm hn' hB h1 h2 fun p' cap' w' h1 h2 h3 _ => k p' cap' w' h1 h2 h3

/-- append(nil, make(.., n)..) -/
theorem app_zeros {P : Program} {t tn T ty B n : Nat} {kn kq : IntKind} {iT : TI} {z : List Value} (hu : P.underlying t = some (.slice T)) (hun : P.underlying tn = some (.int kn)) (hT : TIok P T iT) (hz : iT.zero = some z)
    (hs : iT.size = E.sz) (hzl : z.length = E.sz) (hB : B ≤ w.heap.size) (h0 : 0 < n) (h1 : n ≤ 4611686018427387904) (h2 : n * iT.bytes ≤ 140737488355328) {K : Value → World → Prop}
    (k : ∀ cap' w', OwnS E T B w' (some ⟨w.heap.size, 0, none⟩) cap' ([] : List α) → Below w.heap.size w w' → n ≤ cap' → K (.slice (some ⟨w.heap.size, 0, none⟩) n cap') w') :
    SatR ((Builtin.append_ #[t, tn] ty #[.slice none 0 0, .int kq n]).run P w) K := by
  obtain ⟨⟨inf, hi, hsz, hby, hzz⟩, _⟩ := hT
  obtain ⟨zv, hzv, hzc⟩ := hzz z hz
  have hr := run_append_grow_zeros (P := P) w t tn ty T inf zv kq kn hu hun hi hzv none 0 0 [] (run_firstCells_none w.drew inf.size 0 0 0) n h0 (by rw [hsz, hs]; exact E.pos) (by omega) (by omega) (by rw [hby]; omega)
    (growslice_fits (by omega) (by rw [hby, Nat.zero_add]; omega))
  rw [Nat.zero_add] at hr
  have hge := grownCap_ge w n 0 T
  refine SatR.mk hr (k _ _ ⟨by simp, .inr ⟨w.heap.size, _, _, rfl, hB, heap_alloc_new w.drew _, Nat.zero_le _, grownCap_le_maxLen w n 0 T (by unfold maxLen; omega), ?_, by simp⟩⟩ ((Below.refl _ _).drew.alloc (Nat.le_refl _) _) hge)
  have hzs : zv.cells.size = E.sz := by rw [← hzl, ← hzc]; simp
  simp only [Array.size_append, size_zeroCells, hzs]
  simp only [List.size_toArray, List.length_nil, Nat.zero_add]
  rw [← Nat.add_mul]
  congr 1
  omega
end
end Go.Vc
namespace Go.Vc
open Go.RowKit

theorem wrap_u64 {a : Int} (h : 0 ≤ a ∧ a ≤ 18446744073709551615) : IntKind.u64.wrap a = a := by
  simp [IntKind.wrap, IntKind.signed, IntKind.bits] <;> omega
theorem half_u64 (n : Nat) : Int.fdiv (n : Int) (2 ^ (min (1 : Int).toNat IntKind.u64.bits)) = ((n / 2 : Nat) : Int) := by
  have : (2 : Int) ^ (min (1 : Int).toNat IntKind.u64.bits) = 2 := by decide
  rw [this, Int.fdiv_eq_ediv_of_nonneg _ (by decide)]; omega

/-- Block g holds the elements of l, and behind them sp. -/
def RowS {α : Type} (E : Enc α) (T : TypeId) (w : World) (g : Nat) (sp : List Value) (l : List α) : Prop :=
  w.heap[g]? = some (.cells (l.flatMap E.enc ++ sp).toArray T (0, 0))

section
variable {α : Type} {E : Enc α} {T : TypeId} {w w2 : World} {g : Nat} {sp : List Value} {l : List α}
theorem RowS.row (h : RowS E T w g sp l) : SlR E w (some ⟨g, 0, none⟩) l := by
  refine SlR.of_cells (hlt h) (cells_mk fun i v hv => cells_at (cells_block h) ?_)
  rw [List.getElem?_append_left (List.getElem?_eq_some_iff.1 hv).1]
  exact hv
theorem RowS.at (h : RowS E T w g sp l) {i : Nat} (hi : i < l.length) : Cells w ⟨g, 0 + i * E.sz, none⟩ (E.enc l[i]) := by
  rcases h.row with h0 | ⟨b, o, h1, _, hc⟩
  · subst h0; simp at hi
  · cases h1; exact hc i hi
theorem RowS.lt (h : RowS E T w g sp l) : g < w.heap.size := hlt h
theorem RowS.same (h : RowS E T w g sp l) (hs : w2.heap[g]? = w.heap[g]?) : RowS E T w2 g sp l := hs.trans h
theorem RowS.below (h : RowS E T w g sp l) (hb : Below w.heap.size w w2) : RowS E T w2 g sp l := block_below hb h

theorem flat_set (l : List α) {i : Nat} (hi : i < l.length) (x : α) (sp : List Value) :
    (l.flatMap E.enc ++ sp).take (i * E.sz) ++ E.enc x ++ (l.flatMap E.enc ++ sp).drop (i * E.sz + E.sz) = (l.set i x).flatMap E.enc ++ sp := by
  have hl : l = l.take i ++ l[i] :: l.drop (i + 1) := by rw [List.getElem_cons_drop, List.take_append_drop]
  have h1 : ((l.take i).flatMap E.enc).length = i * E.sz := by rw [flat_len, List.length_take, Nat.min_eq_left (by omega)]
  have h2 : (l.take i ++ l[i] :: l.drop (i + 1)).flatMap E.enc ++ sp = (l.take i).flatMap E.enc ++ (E.enc l[i] ++ ((l.drop (i + 1)).flatMap E.enc ++ sp)) := by
    rw [List.flatMap_append, List.flatMap_cons]; simp only [List.append_assoc]
  rw [← hl] at h2
  rw [List.set_eq_take_append_cons_drop, if_pos hi, h2]
  rw [List.take_append_of_le_length (by omega), List.take_of_length_le (by omega), List.drop_append, List.drop_of_length_le (by omega), h1]
  have h3 : i * E.sz + E.sz - i * E.sz = E.sz := by omega
  rw [h3, List.nil_append, List.drop_append, List.drop_of_length_le (by rw [E.len]; exact Nat.le_refl _), E.len, Nat.sub_self, List.drop_zero]
  simp [List.flatMap_append]

/-- A store of one element. -/
theorem store_row {P : Program} {Te : TypeId} {iT : TI} (hT : TIok P Te iT) (hs : iT.size = E.sz) (hr : RowS E T w g sp l) {i : Nat} (hi : i < l.length) (x : α) {K : World → Prop}
    (k : ∀ w', RowS E T w' g sp (l.set i x) → w.grownBy w' (some g) → w'.heap.size = w.heap.size → K w') :
    SatR ((storeVar Te ⟨g, 0 + i * E.sz, none⟩ (.agg (E.enc x).toArray)).run P w) fun _ w' => K w' := by
  obtain ⟨⟨inf, hinf, hsz, _, _⟩, _⟩ := hT
  have hfl : (l.flatMap E.enc).length = l.length * E.sz := flat_len l
  have hle : i * E.sz + E.sz ≤ l.length * E.sz := by rw [← Nat.succ_mul]; exact Nat.mul_le_mul_right _ hi
  have hst := run_storeCells_at P g (0 + i * E.sz) T (E.enc x) 0 _ w hr (by rw [E.len]; simp only [List.size_toArray, List.length_append, hfl]; omega) (E.one x)
  have hrun : (sizeOf Te).run P w = .ok iT.size w := by simp [sizeOf, typeInfo, hinf, hsz]
  refine SatR.mk (v := ()) (w' := w.setRow g ((l.set i x).flatMap E.enc ++ sp).toArray) ?_ (k _ (setRow_new hr) (grown_setRow w g _) (by simp))
  simp only [storeVar, Sem.run_bind, hrun, Result.andThen_ok]
  have hc : (Value.agg (E.enc x).toArray).cells = (E.enc x).toArray := rfl
  rw [hc]
  simp only [List.size_toArray, E.len, hs, ne_eq, not_true_eq_false, if_false]
  rw [hst, ← flat_set l hi x sp]
  simp only [E.len, Nat.zero_add, Nat.add_zero]

theorem RowS.mid {A B : List α} {x : α} (h : RowS E T w g sp (A ++ x :: B)) {i : Nat} (hi : A.length = i) : Cells w ⟨g, 0 + i * E.sz, none⟩ (E.enc x) := by
  subst hi
  have := h.at (i := A.length) (by simp)
  simpa using this
theorem store_mid {P : Program} {iT : TI} (hT : TIok P T iT) (hs : iT.size = E.sz) {A B : List α} {y : α} (hr : RowS E T w g sp (A ++ y :: B)) {i : Nat} (hi : A.length = i) (x : α) {K : World → Prop}
    (k : ∀ w', RowS E T w' g sp (A ++ x :: B) → w.grownBy w' (some g) → w'.heap.size = w.heap.size → K w') :
    SatR ((storeVar T ⟨g, 0 + i * E.sz, none⟩ (.agg (E.enc x).toArray)).run P w) fun _ w' => K w' := by
  subst hi
  refine store_row hT hs hr (by simp) x fun w' h1 h2 h3 => k w' ?_ h2 h3
  simpa using h1

theorem grown_refl (w : World) (row : Option Nat) : w.grownBy w row := ⟨rfl, rfl, rfl, Nat.le_refl _, fun _ _ _ => rfl⟩
theorem grown_trans {a b c : World} {row : Option Nat} (h : a.grownBy b row) (k : b.grownBy c row) : a.grownBy c row :=
  ⟨k.os.trans h.os, k.tape.trans h.tape, k.output.trans h.output, Nat.le_trans h.size k.size, fun i hi hn => (k.block i (Nat.lt_of_lt_of_le hi h.size) hn).trans (h.block i hi hn)⟩
theorem grown_of_below {a b : World} {row : Option Nat} (h : Below a.heap.size a b) : a.grownBy b row := ⟨h.os, h.tape, h.output, h.size, fun k hk _ => h.block k hk⟩
/-- A store of one cell into a box of cells. -/
theorem store_cell {P : Program} {Te : TypeId} {iT : TI} (hT : TIok P Te iT) (hs : iT.size = 1) {cs : Array Value} {t : TypeId} (hg : w.heap[g]? = some (.cells cs t (0, 0))) {o : Nat} (ho : o < cs.size) {v : Value} (hv : v.cells = #[v]) (h1 : v.oneCell' = true) {K : World → Prop}
    (k : ∀ w', w'.heap[g]? = some (.cells (cs.toList.take o ++ [v] ++ cs.toList.drop (o + 1)).toArray t (0, 0)) → w.grownBy w' (some g) → w'.heap.size = w.heap.size → K w') :
    SatR ((storeVar Te ⟨g, o, none⟩ v).run P w) fun _ w' => K w' := by
  obtain ⟨⟨inf, hinf, hsz, _, _⟩, _⟩ := hT
  have hst := run_storeCells_at P g o t [v] 0 cs w hg (by simp; omega) (by simp [h1])
  have hrun : (sizeOf Te).run P w = .ok iT.size w := by simp [sizeOf, typeInfo, hinf, hsz]
  refine SatR.mk (v := ()) (w' := w.setRow g (cs.toList.take o ++ [v] ++ cs.toList.drop (o + 1)).toArray) ?_ (k _ (setRow_new hg) (grown_setRow w g _) (by simp))
  simp only [storeVar, Sem.run_bind, hrun, Result.andThen_ok, hv, hs]
  simpa using hst
end
end Go.Vc
namespace Go.Proofs.YtkekidalckflhaaGreatDoor
open Go.Vc Go.RowKit Go.Sei

def cmp8 (x y : UInt8) : Int := if x.toNat < y.toNat then -1 else if y.toNat < x.toNat then 1 else 0
def cmpL : List UInt8 → List UInt8 → Int
  | [], [] => 0
  | [], _ :: _ => -1
  | _ :: _, [] => 1
  | x :: r, y :: s => if x = y then cmpL r s else cmp8 x y

def byteE : Enc UInt8 := ⟨fun b => [u8 b], 1, fun _ => rfl, by decide, fun a u hu => by
  simp only [List.mem_cons, List.not_mem_nil, or_false] at hu; subst hu; rfl⟩
theorem byte_at {w : World} {p : Option Addr} {l : List UInt8} (h : SlR byteE w p l) {k : Nat} (hk : k < l.length) : ∃ b o, p = some ⟨b, o, none⟩ ∧ b < w.heap.size ∧ w.cell? ⟨b, o + k * 1, none⟩ = some (u8 l[k]) := by
  obtain ⟨b, o, rfl, hb, hc⟩ := h.at hk
  exact ⟨b, o, rfl, hb, cells_head (hc k hk)⟩
theorem cmpL_drop : ∀ (l1 l2 : List UInt8) (k : Nat), k ≤ l1.length → k ≤ l2.length → l1.take k = l2.take k → cmpL l1 l2 = cmpL (l1.drop k) (l2.drop k)
  | l1, l2, 0, _, _, _ => by simp
  | [], _, k + 1, h, _, _ => by simp at h
  | _ :: _, [], k + 1, _, h, _ => by simp at h
  | x :: r, y :: s, k + 1, h1, h2, h3 => by
    simp at h1 h2 h3
    rw [cmpL, if_pos h3.1, List.drop_succ_cons, List.drop_succ_cons]
    exact cmpL_drop r s k h1 h2 h3.2
theorem cmp8_ne {x y : UInt8} (h : x ≠ y) : cmp8 x y ≠ 0 := by
  have : x.toNat ≠ y.toNat := fun e => h (UInt8.toNat_inj.1 e)
  unfold cmp8; split
  · decide
  · split
    · decide
    · omega
theorem cmp8_self (x : UInt8) : cmp8 x x = 0 := by simp [cmp8]

theorem bytes_row {w : World} {g : Nat} {l : List UInt8} {t : TypeId} {fr : Nat × Nat} (h : w.heap[g]? = some (.cells (l.map u8).toArray t fr)) : SlR byteE w (some ⟨g, 0, none⟩) l := by
  refine SlR.of_cells (hlt h) ?_
  have e : l.flatMap byteE.enc = l.map u8 := by clear h; induction l with | nil => rfl | cons a r ih => rw [List.flatMap_cons, ih]; rfl
  rw [e]
  exact cells_block h

end Go.Proofs.YtkekidalckflhaaGreatDoor
namespace Go.Proofs.YtkekidalckflhaaGreatDoor
open Go.Vc Go.RowKit Go.Sei

/-- A string of these bytes. -/
def bs (l : List UInt8) : ByteArray := ⟨l.toArray⟩
def strV (l : List UInt8) : Value := .string (bs l)
theorem bs_list (l : List UInt8) : (bs l).data.toList = l := rfl
theorem bs_inj {a b : List UInt8} (h : bs a = bs b) : a = b := by
  have := congrArg (fun x : ByteArray => x.data.toList) h
  exact this
def kindNames : List (List UInt8) := [[], [71, 101, 116, 83], [71, 101, 116, 77], [80, 117, 116], [68, 111, 110, 101], [67, 111, 112, 121], [70, 119, 100, 83], [70, 119, 100, 77], [73, 110, 118], [80, 117, 116, 65, 99, 107], [86, 97, 108, 117, 101], [71, 114, 97, 110, 116], [73, 110, 118, 65, 99, 107]]

structure GlobM (w : World) : Prop where
  cls : Cells w ⟨1, 0, none⟩ (classes.map u8)
  nms : Cells w ⟨2, 0, none⟩ (kindNames.map strV)
  lt : 2 < w.heap.size
  pow : Lib.TabIs Tryz.prog w "internal/strconv.uint64pow10" .u64 Lib.pow10Tab
  max : ∃ m, w.cell? ⟨5, 0, none⟩ = some (.int .i64 m)
  syn : ∃ ev, w.cell? ⟨6, 0, none⟩ = some ev ∧ (ev = .nilIface ∨ ∃ te pe, ev = .iface te pe)
  rng : ∃ ev, w.cell? ⟨7, 0, none⟩ = some ev ∧ (ev = .nilIface ∨ ∃ te pe, ev = .iface te pe)

theorem tab_below {w w2 : World} {k : IntKind} {n : String} {zs : List Int} (h : Lib.TabIs Tryz.prog w n k zs) (hb : Below w.heap.size w w2) : Lib.TabIs Tryz.prog w2 n k zs := by
  unfold Lib.TabIs World.var? at *
  rw [Option.bind_eq_some_iff] at h ⊢
  obtain ⟨g, hg, h⟩ := h
  refine ⟨g, hg, ?_⟩
  split at h
  · rename_i cs t hh heq
    have := block_below hb heq
    rw [this]; exact h
  · cases h
theorem GlobM.below {w w2 : World} (h : GlobM w) (hb : Below w.heap.size w w2) : GlobM w2 := by
  obtain ⟨h1, h2, h3, h4, ⟨m, h5⟩, ⟨e1, h6, h6'⟩, ⟨e2, h7, h7'⟩⟩ := h
  exact ⟨cells_below hb h1, cells_below hb h2, Nat.lt_of_lt_of_le h3 hb.size, tab_below h4 hb, ⟨m, below_cell hb h5⟩, ⟨e1, below_cell hb h6, h6'⟩, ⟨e2, below_cell hb h7, h7'⟩⟩

theorem grow_below (w : World) (k : Nat) (os : Array Obj) : Below w.heap.size w (Go.Sort.grow (w.drewN k) os) :=
  ⟨rfl, rfl, rfl, by simp [Go.Sort.grow, World.drewN], fun j hj => by
    show (w.heap ++ os)[j]? = w.heap[j]?
    exact Array.getElem?_append_left hj⟩

theorem Class_c (k : UInt8) (w : World) (hg : GlobM w) : Calls Tryz.prog 10 #[u8 k] w fun e w' => e = .returned (u8 (classOf k)) ∧ w = w' := by
  refine calls_of_E (S := sg 9) (sgOk _) (args := [u8 k]) Tryz.func10 rfl rfl (Nat.le_of_ble_eq_true rfl) rfl ?_
  refine ⟨_, wrap_u8_i64 k, ?_⟩
  refine And.intro (fun h => ?_) (fun h => ?_)
  · have h := of_decide_eq_true h
    refine And.intro ?_ rfl
    have : classOf k = 0 := by
      unfold classOf
      rw [List.getD_eq_getElem?_getD, List.getElem?_eq_none (by simp only [classes, List.length_cons, List.length_nil]; omega)]; rfl
    rw [this]; rfl
  · have h := of_decide_eq_false h
    refine ⟨k.toNat, rfl, by omega, ?_⟩
    have hk : (classes.map u8)[k.toNat]? = some (u8 (classOf k)) := by
      have hl : k.toNat < classes.length := by simp only [classes, List.length_cons, List.length_nil]; omega
      rw [List.getElem?_map, List.getElem?_eq_getElem hl]
      simp only [classOf, List.getD_eq_getElem?_getD, List.getElem?_eq_getElem hl, Option.map_some, Option.getD_some]
    have := cells_at hg.cls hk
    refine ⟨_, by rw [Nat.mul_one]; exact this, ?_⟩
    exact And.intro rfl rfl

/-- A number's digits. -/
def dig (n : UInt8) : List UInt8 := Lib.itoa (n.toNat : Int)
theorem number_c (n : UInt8) (w : World) (hg : GlobM w) : Calls Tryz.prog 28 #[u8 n] w fun e w' => e = .returned (strV (dig n)) ∧ Below w.heap.size w w' := by
  refine calls_of_E (S := sg 6) (sgOk _) (args := [u8 n]) Tryz.func28 rfl rfl (Nat.le_of_ble_eq_true rfl) rfl ?_
  refine ⟨(n.toNat : Int), wrap_u8_i64 n, ?_⟩
  refine Calls.mono (Tryz.strconv_Itoa (n.toNat : Int) (by omega) (by have := u8_lt n; omega) w hg.pow) ?_
  rintro e w' ⟨rfl, k, os, rfl⟩
  exact And.intro rfl (grow_below w k os)
end Go.Proofs.YtkekidalckflhaaGreatDoor
namespace Go.Vc
open Go.RowKit

/-- How the code is taken: p plain; s a sequence; c a sequence cut at its join; d a condition; b a block; l a loop. -/
inductive Mk where
  | p
  | s (a b : Mk)
  | c (a b : Mk)
  | d (a b : Mk)
  | b (a : Mk)
  | l (a : Mk)

def CutE (first : (Exit → Env → World → Prop) → Prop) (second : Env → World → (Exit → Env → World → Prop) → Prop) (Q : Exit → Env → World → Prop) : Prop :=
  ∃ (σ : Type) (env : σ → Env) (inv : σ → World → Prop), (first fun ex E' w' => match ex with
    | .normal => ∃ s, Cov E' (env s) ∧ inv s w'
    | ex => Q ex E' w') ∧ ∀ s w', inv s w' → second (env s) w' Q

/-- What the code owes, taken as m says. (By the recursor itself: what the kernel unfolds is then what was typed.) -/
noncomputable def wpM (S : Sig) (m : Mk) : Code → Env → World → (Exit → Env → World → Prop) → Prop :=
  Mk.rec (motive := fun _ => Code → Env → World → (Exit → Env → World → Prop) → Prop)
    (fun c E w Q => wpE S c E w Q)
    (fun _ _ ia ib c E w Q => match c with
      | .seq x y => ia x E w fun ex E' w' => match ex with
        | .normal => ib y E' w' Q
        | ex => Q ex E' w'
      | _ => False)
    (fun _ _ ia ib c E w Q => match c with
      | .seq x y => CutE (fun Q => ia x E w Q) (fun E w Q => ib y E w Q) Q
      | _ => False)
    (fun _ _ ia ib c E w Q => match c with
      | .cond c x y => (match opd E c with
        | some (.bool v) => Br v (ia x E w Q) (ib y E w Q)
        | _ => False)
      | _ => False)
    (fun _ ia c E w Q => match c with
      | .block id x => ia x E w fun ex E' w' => match ex with
        | .exit id' => (match Nat.beq id' id with
          | true => Q .normal E' w'
          | false => Q (.exit id') E' w')
        | ex => Q ex E' w'
      | _ => False)
    (fun _ ia c E w Q => match c with
      | .loop x => LoopE (fun E w Q => ia x E w Q) E w Q
      | _ => False)
    m

section
variable {S : Sig}

theorem wpM_sound (hS : SigOk S) : ∀ (m : Mk) (c : Code) (E : Env) (a : Act) (w : World) (Q : Exit → Env → World → Prop), Agrees S a E → wpM S m c E w Q → c.wpIn (FR S.r) NN S.P (lift S Q) a w
  | .p, c, E, a, w, Q, ha, h => wpE_sound hS c E a w Q ha h
  | .s m k, .seq x y, E, a, w, Q, ha, h => by
    replace h : (wpM S m x E w fun ex E' w' => match ex with | .normal => wpM S k y E' w' Q | ex => Q ex E' w') := h
    refine wpIn_seq ?_
    refine wpIn_mono (wpM_sound hS m x E a w _ ha h) ?_
    rintro ex a' w' ⟨E', ha', hq⟩
    cases ex with
    | normal => exact wpM_sound hS k y E' a' w' Q ha' hq
    | _ => exact ⟨E', ha', hq⟩
  | .c m k, .seq x y, E, a, w, Q, ha, h => by
    replace h : CutE (fun Q => wpM S m x E w Q) (fun E w Q => wpM S k y E w Q) Q := h
    obtain ⟨σ, env, inv, h1, h2⟩ := h
    refine wpIn_seq ?_
    refine wpIn_mono (wpM_sound hS m x E a w _ ha h1) ?_
    rintro ex a' w' ⟨E', ha', hq⟩
    cases ex with
    | normal =>
      obtain ⟨s, hc, hi⟩ := hq
      exact wpM_sound hS k y (env s) a' w' Q (ha'.cov hc) (h2 s w' hi)
    | _ => exact ⟨E', ha', hq⟩
  | .d m k, .cond c x y, E, a, w, Q, ha, h => by
    replace h : (match opd E c with | some (.bool v) => Br v (wpM S m x E w Q) (wpM S k y E w Q) | _ => False) := h
    split at h
    · rename_i b hb
      refine wpIn_cond_split (ha.eval hb) (fun e => wpM_sound hS m x E a w Q ha (h.1 e)) (fun e => wpM_sound hS k y E a w Q ha (h.2 e))
    · exact h.elim
  | .b m, .block id x, E, a, w, Q, ha, h => by
    replace h : (wpM S m x E w fun ex E' w' => match ex with | .exit id' => (match Nat.beq id' id with | true => Q .normal E' w' | false => Q (.exit id') E' w') | ex => Q ex E' w') := h
    refine wpIn_block ?_
    refine wpIn_mono (wpM_sound hS m x E a w _ ha h) ?_
    rintro ex a' w' ⟨E', ha', hq⟩
    cases ex with
    | exit id' =>
      simp only [Exit.inBlock]
      dsimp only at hq
      split at hq
      · rename_i hb; rw [if_pos (Nat.eq_of_beq_eq_true hb)]; exact ⟨E', ha', hq⟩
      · rename_i hb; rw [if_neg (Nat.ne_of_beq_eq_false hb)]; exact ⟨E', ha', hq⟩
    | _ => exact ⟨E', ha', hq⟩
  | .l m, .loop x, E, a, w, Q, ha, h => by
    replace h : LoopE (fun E w Q => wpM S m x E w Q) E w Q := h
    obtain ⟨σ, env, inv, μ, s0, hc, hi, hb⟩ := h
    have key : ∀ m s a w, μ s = m → Agrees S a (env s) → inv s w → (Code.loop x).wpIn (FR S.r) NN S.P (lift S Q) a w := by
      intro m' s a w hm ha hi
      refine wpIn_loop (fun a w => ∃ s, Agrees S a (env s) ∧ inv s w) (fun a w => leastOf (fun k => ∃ s, Agrees S a (env s) ∧ inv s w ∧ μ s = k)) ⟨s, ha, hi⟩ ?_
      intro a w ⟨s1, ha1, hi1⟩
      obtain ⟨⟨s2, ha2, hi2, hm2⟩, _⟩ := leastOf_spec (p := fun k => ∃ s, Agrees S a (env s) ∧ inv s w ∧ μ s = k) ⟨_, s1, ha1, hi1, rfl⟩
      refine wpIn_mono (wpM_sound hS m x (env s2) a w _ ha2 (hb s2 w hi2)) ?_
      rintro ex a' w' ⟨E', ha', hq⟩
      cases ex with
      | normal =>
        obtain ⟨s', hc', hi', hlt⟩ := hq
        refine ⟨⟨s', ha'.cov hc', hi'⟩, ?_⟩
        have := (leastOf_spec (p := fun k => ∃ s, Agrees S a' (env s) ∧ inv s w' ∧ μ s = k) ⟨_, s', ha'.cov hc', hi', rfl⟩).2
        rw [← hm2]
        exact Nat.lt_of_le_of_lt (this _ ⟨s', ha'.cov hc', hi', rfl⟩) hlt
      | _ => exact ⟨E', ha', hq⟩
    exact key _ s0 a w rfl (ha.cov hc) hi
  | .s _ _, .skip, _, _, _, _, _, h => h.elim
  | .s _ _, .region _ _ _, _, _, _, _, _, h => h.elim
  | .s _ _, .cond _ _ _, _, _, _, _, _, h => h.elim
  | .s _ _, .block _ _, _, _, _, _, _, h => h.elim
  | .s _ _, .loop _, _, _, _, _, _, h => h.elim
  | .s _ _, .rangeFunc _ _ _ _, _, _, _, _, _, h => h.elim
  | .s _ _, .exit _, _, _, _, _, _, h => h.elim
  | .s _ _, .scope _, _, _, _, _, _, h => h.elim
  | .s _ _, .label _, _, _, _, _, _, h => h.elim
  | .s _ _, .goto _, _, _, _, _, _, h => h.elim
  | .s _ _, .ret, _, _, _, _, _, h => h.elim
  | .s _ _, .refuse _, _, _, _, _, _, h => h.elim
  | .c _ _, .skip, _, _, _, _, _, h => h.elim
  | .c _ _, .region _ _ _, _, _, _, _, _, h => h.elim
  | .c _ _, .cond _ _ _, _, _, _, _, _, h => h.elim
  | .c _ _, .block _ _, _, _, _, _, _, h => h.elim
  | .c _ _, .loop _, _, _, _, _, _, h => h.elim
  | .c _ _, .rangeFunc _ _ _ _, _, _, _, _, _, h => h.elim
  | .c _ _, .exit _, _, _, _, _, _, h => h.elim
  | .c _ _, .scope _, _, _, _, _, _, h => h.elim
  | .c _ _, .label _, _, _, _, _, _, h => h.elim
  | .c _ _, .goto _, _, _, _, _, _, h => h.elim
  | .c _ _, .ret, _, _, _, _, _, h => h.elim
  | .c _ _, .refuse _, _, _, _, _, _, h => h.elim
  | .d _ _, .skip, _, _, _, _, _, h => h.elim
  | .d _ _, .region _ _ _, _, _, _, _, _, h => h.elim
  | .d _ _, .seq _ _, _, _, _, _, _, h => h.elim
  | .d _ _, .block _ _, _, _, _, _, _, h => h.elim
  | .d _ _, .loop _, _, _, _, _, _, h => h.elim
  | .d _ _, .rangeFunc _ _ _ _, _, _, _, _, _, h => h.elim
  | .d _ _, .exit _, _, _, _, _, _, h => h.elim
  | .d _ _, .scope _, _, _, _, _, _, h => h.elim
  | .d _ _, .label _, _, _, _, _, _, h => h.elim
  | .d _ _, .goto _, _, _, _, _, _, h => h.elim
  | .d _ _, .ret, _, _, _, _, _, h => h.elim
  | .d _ _, .refuse _, _, _, _, _, _, h => h.elim
  | .b _, .skip, _, _, _, _, _, h => h.elim
  | .b _, .region _ _ _, _, _, _, _, _, h => h.elim
  | .b _, .seq _ _, _, _, _, _, _, h => h.elim
  | .b _, .cond _ _ _, _, _, _, _, _, h => h.elim
  | .b _, .loop _, _, _, _, _, _, h => h.elim
  | .b _, .rangeFunc _ _ _ _, _, _, _, _, _, h => h.elim
  | .b _, .exit _, _, _, _, _, _, h => h.elim
  | .b _, .scope _, _, _, _, _, _, h => h.elim
  | .b _, .label _, _, _, _, _, _, h => h.elim
  | .b _, .goto _, _, _, _, _, _, h => h.elim
  | .b _, .ret, _, _, _, _, _, h => h.elim
  | .b _, .refuse _, _, _, _, _, _, h => h.elim
  | .l _, .skip, _, _, _, _, _, h => h.elim
  | .l _, .region _ _ _, _, _, _, _, _, h => h.elim
  | .l _, .seq _ _, _, _, _, _, _, h => h.elim
  | .l _, .cond _ _ _, _, _, _, _, _, h => h.elim
  | .l _, .block _ _, _, _, _, _, _, h => h.elim
  | .l _, .rangeFunc _ _ _ _, _, _, _, _, _, h => h.elim
  | .l _, .exit _, _, _, _, _, _, h => h.elim
  | .l _, .scope _, _, _, _, _, _, h => h.elim
  | .l _, .label _, _, _, _, _, _, h => h.elim
  | .l _, .goto _, _, _, _, _, _, h => h.elim
  | .l _, .ret, _, _, _, _, _, h => h.elim
  | .l _, .refuse _, _, _, _, _, _, h => h.elim

/-- A function's contract from its body, taken as m says. -/
theorem calls_of_M (hS : SigOk S) {f : FuncId} {fn : Func} {c : Code} {args : List Value} {w : World} {R : Ending → World → Prop} (m : Mk)
    (hf : S.P.funcs[f]? = some fn) (hb : fn.body = some c) (hn : fn.ntmps = S.n) (hle : args.length ≤ S.n) (hr : S.r = none)
    (h : wpM S m c ⟨argsE 0 args, []⟩ w (postE S fn R)) : Calls S.P f args.toArray w R := by
  rw [← callsIn_wide (n := NN)]
  have hF : FR none = Fence.wide := rfl
  rw [← hF]
  refine callsIn_of_wp_marks hf hb trivial ?_
  have ha : Agrees S { tmps := args.toArray ++ Array.replicate (fn.ntmps - args.toArray.size) undef, defers := [] } ⟨argsE 0 args, []⟩ := by
    refine ⟨?_, rfl, fun t v hv => ?_⟩
    · simp [hn]; omega
    · obtain ⟨_, h2⟩ := argsE_find _ _ _ _ hv
      simp only [Nat.sub_zero] at h2
      have hlt : t < args.length := (List.getElem?_eq_some_iff.1 h2).1
      simp only [Array.getElem?_append, List.size_toArray, hlt, if_true]
      simpa using h2
  have h1 := wpM_sound hS m c _ _ w _ ha h
  rw [hr] at h1
  refine wpIn_mono h1 ?_
  rintro ex a' w' ⟨E', ha', hq⟩
  cases ex with
  | normal => have := leaveE_sound hS ha' _ _ hq; rw [← ha'.defers] at this; exact this
  | ret => have := leaveE_sound hS ha' _ _ hq; rw [← ha'.defers] at this; exact this
  | panic ch =>
    obtain ⟨hd, hR⟩ := hq
    show LeavesInM _ _ _ _ _ _ a'.defers _ _
    rw [ha'.defers, hd]
    exact hR
  | exit _ => exact hq.elim
  | goto _ => exact hq.elim
  | outgrown => exact hq.elim
end
end Go.Vc
namespace Go.Proofs.YtkekidalckflhaaGreatDoor
open Go.Vc Go.RowKit Go.Sei

structure Geo where
  c : Int
  h : Int
  w : Int
  s : Int
  a : Int
  deriving DecidableEq
def i64 (n : Int) : Value := .int .i64 n
def Geo.lst (g : Geo) : List Int := [g.c, g.h, g.w, g.s, g.a]
def Geo.enc (g : Geo) : List Value := [i64 g.c, i64 g.h, i64 g.w, i64 g.s, i64 g.a]
def Geo.val (g : Geo) : Value := .agg g.enc.toArray
def zeroG : Geo := ⟨0, 0, 0, 0, 0⟩
def bndL : List Int := [4, 2, 4, 4, 4]
def okAt (g : Geo) (i : Nat) : Bool := decide (1 ≤ g.lst.getD i 0) && decide (g.lst.getD i 0 ≤ bndL.getD i 0)
def geoR (g : Geo) : Bool := okAt g 0 && okAt g 1 && okAt g 2 && okAt g 3 && okAt g 4
def BndM (w : World) : Prop := Cells w ⟨3, 0, none⟩ (bndL.map i64)
theorem BndM.below {w w2 : World} (h : BndM w) (hb : Below w.heap.size w w2) : BndM w2 := cells_below hb h
theorem geoR_spec {g : Geo} (h : geoR g = true) : (1 ≤ g.c ∧ g.c ≤ 4) ∧ (1 ≤ g.h ∧ g.h ≤ 2) ∧ (1 ≤ g.w ∧ g.w ≤ 4) ∧ (1 ≤ g.s ∧ g.s ≤ 4) ∧ 1 ≤ g.a ∧ g.a ≤ 4 := by
  simp only [geoR, okAt, Bool.and_eq_true, decide_eq_true_eq] at h
  obtain ⟨⟨⟨⟨h0, h1⟩, h2⟩, h3⟩, h4⟩ := h
  exact ⟨h0, h1, h2, h3, h4⟩

theorem partE_of {off sz : Nat} {cs : List Value} {v : Value} {K : Value → Prop} (h : cs[off]? = some v) (k : K v) : partE off sz false cs K := by
  unfold partE; rw [h]; exact k
theorem Right_geo_c (g : Geo) (w : World) (hB : BndM w) : Calls Tryz.prog 18 #[g.val] w fun e w' => e = .returned (.bool (geoR g)) ∧ Below w.heap.size w w' := by
  refine calls_of_E (S := sg 30) (sgOk _) (args := [g.val]) Tryz.func18 rfl rfl (Nat.le_of_ble_eq_true rfl) rfl ?_
  have hb0 : Below w.heap.size w (w.alloc (.cells g.val.cells 23)) := (Below.refl _ _).alloc (Nat.le_refl _) _
  have f0 := hnew w (.cells g.val.cells 23)
  refine ⟨_, cells_at (cells_block f0) (i := 0) rfl, ?_⟩
  refine ⟨_, cells_at (cells_block f0) (i := 1) rfl, ?_⟩
  refine ⟨_, cells_at (cells_block f0) (i := 2) rfl, ?_⟩
  refine ⟨_, cells_at (cells_block f0) (i := 3) rfl, ?_⟩
  refine ⟨_, cells_at (cells_block f0) (i := 4) rfl, ?_⟩
  refine ⟨g.enc, rfl, ?_⟩
  refine ⟨Nat, fun k => ⟨[(15, .agg g.enc.toArray), (16, i64 (k : Nat))], []⟩, fun k V => k ≤ 5 ∧ (∀ j, j < k → okAt g j = true) ∧ w.alloc (.cells g.val.cells 23) = V, fun k => 5 - k, 0,
    ⟨.cons rfl (.cons rfl .nil), rfl⟩, ⟨Nat.zero_le _, fun _ h => absurd h (by omega), rfl⟩, ?_⟩
  rintro k _ ⟨hk, hno, rfl⟩
  refine And.intro (fun h => ?_) (fun h => ?_)
  · have h : (k : Int) < 5 := of_decide_eq_true h
    have hk5 : k < 5 := by omega
    refine ⟨k, rfl, hk5, ?_⟩
    have hget : g.enc[k * 1]? = some (i64 (g.lst.getD k 0)) := by
      have h5 : k = 0 ∨ k = 1 ∨ k = 2 ∨ k = 3 ∨ k = 4 := by omega
      rcases h5 with rfl | rfl | rfl | rfl | rfl <;> rfl
    refine partE_of hget ?_
    refine And.intro (fun h1 => ?_) (fun h1 => ?_)
    · have h1 : g.lst.getD k 0 < 1 := of_decide_eq_true h1
      refine And.intro (fun _ => ?_) (fun h => by cases h)
      have hR : geoR g = false := by
        have hx : okAt g k = false := by unfold okAt; rw [decide_eq_false (by omega)]; rfl
        have h5 : k = 0 ∨ k = 1 ∨ k = 2 ∨ k = 3 ∨ k = 4 := by omega
        unfold geoR
        rcases h5 with rfl | rfl | rfl | rfl | rfl <;> simp [hx]
      exact And.intro (rb hR.symm) hb0
    · have h1 : ¬ g.lst.getD k 0 < 1 := of_decide_eq_false h1
      refine ⟨k, rfl, hk5, ?_⟩
      have hbk : (bndL.map i64)[k]? = some (i64 (bndL.getD k 0)) := by
        have h5 : k = 0 ∨ k = 1 ∨ k = 2 ∨ k = 3 ∨ k = 4 := by omega
        rcases h5 with rfl | rfl | rfl | rfl | rfl <;> rfl
      have hc := cells_at (hB.below hb0) hbk
      refine ⟨_, by rw [Nat.mul_one]; exact hc, ?_⟩
      refine And.intro (fun h2 => ?_) (fun h2 => ?_)
      · have h2 : bndL.getD k 0 < g.lst.getD k 0 := of_decide_eq_true h2
        have hR : geoR g = false := by
          have hx : okAt g k = false := by unfold okAt; rw [decide_eq_false (p := g.lst.getD k 0 ≤ bndL.getD k 0) (by omega), Bool.and_false]
          have h5 : k = 0 ∨ k = 1 ∨ k = 2 ∨ k = 3 ∨ k = 4 := by omega
          unfold geoR
          rcases h5 with rfl | rfl | rfl | rfl | rfl <;> simp [hx]
        exact And.intro (rb hR.symm) hb0
      · have h2 : ¬ bndL.getD k 0 < g.lst.getD k 0 := of_decide_eq_false h2
        refine ⟨(k + 1 : Nat), (wrap_i64 (by omega)).trans (by omega), ?_⟩
        refine ⟨k + 1, ⟨.cons rfl (.cons rfl .nil), rfl⟩, ⟨by omega, fun j hj => ?_, rfl⟩, by dsimp only; omega⟩
        by_cases e : j = k
        · subst e; unfold okAt; rw [decide_eq_true (p := g.lst.getD j 0 ≤ bndL.getD j 0) (by omega), decide_eq_true (by omega)]; rfl
        · exact hno j (by omega)
  · have h : ¬ (k : Int) < 5 := of_decide_eq_false h
    have hR : geoR g = true := by
      unfold geoR
      rw [hno 0 (by omega), hno 1 (by omega), hno 2 (by omega), hno 3 (by omega), hno 4 (by omega)]; rfl
    exact And.intro (rb hR.symm) hb0

/-- The geometry that a place holds. -/
def plc (g : Geo) : Geo := if geoR g then g else zeroG
theorem valid_c (g : Geo) (w : World) (hB : BndM w) : Calls Tryz.prog 38 #[g.val] w fun e w' => e = .returned (.tuple #[(plc g).val, .bool (geoR g)]) ∧ Below w.heap.size w w' := by
  refine calls_of_E (S := sg 10) (sgOk _) (args := [g.val]) Tryz.func38 rfl rfl (Nat.le_of_ble_eq_true rfl) rfl ?_
  obtain ⟨X, hX⟩ : ∃ X, X = (w.alloc (.cells g.val.cells 23)).alloc (.cells zeroG.val.cells 61) := ⟨_, rfl⟩
  have hb0 : Below w.heap.size w X := by rw [hX]; exact ((Below.refl _ _).alloc (Nat.le_refl _) _).alloc (by simp) _
  have f0 : X.heap[w.heap.size]? = some (.cells g.val.cells 23 (0, 0)) := by rw [hX]; exact hold _ (hnew w _)
  have f1 : X.heap[w.heap.size + 1]? = some (.cells zeroG.val.cells 61 (0, 0)) := by
    have := hnew (w.alloc (.cells g.val.cells 23)) (.cells zeroG.val.cells 61)
    rw [World.size_alloc] at this
    rw [hX]; exact this
  have es : (w.alloc (.cells g.val.cells 23)).heap.size = w.heap.size + 1 := World.size_alloc _ _
  refine ⟨g.enc, rfl, by rw [hX] at f0; exact cells_block f0, by rw [hX] at f0; exact hlt f0, ?_⟩
  have hr := Right_geo_c g X (hB.below hb0)
  rw [hX] at hr
  refine Calls.mono hr ?_
  rintro e V ⟨rfl, hb⟩
  rw [← hX] at hb
  have hw := hb0.trans (hb.mono hb0.size)
  have v0 := block_below hb f0
  have v1 := block_below hb f1
  refine And.intro (fun h => ?_) (fun h => ?_)
  · have h : geoR g = false := by
      have : (!geoR g) = true := h
      simpa using this
    have hp : plc g = zeroG := by unfold plc; rw [h]; rfl
    refine ⟨zeroG.enc, rfl, ?_⟩
    rw [es]
    refine store_box (v := zeroG.val) (ttOk.get 61 _ rfl) v1 (by rfl) rfl (by rfl) ?_
    refine ⟨zeroG.enc, rfl, cells_block (setRow_new v1), ?_⟩
    rw [hp, h]
    exact And.intro rfl (below_setRow hw (by omega) _)
  · have h : geoR g = true := by
      have : (!geoR g) = false := h
      simpa using this
    have hp : plc g = g := by unfold plc; rw [h]; rfl
    refine ⟨g.enc, rfl, cells_block v0, hlt v0, ?_⟩
    refine ⟨g.enc, rfl, ?_⟩
    rw [es]
    refine store_box (v := g.val) (ttOk.get 61 _ rfl) v1 (by rfl) rfl (by rfl) ?_
    refine ⟨g.enc, rfl, cells_block (setRow_new v1), ?_⟩
    rw [hp, h]
    exact And.intro rfl (below_setRow hw (by omega) _)
end Go.Proofs.YtkekidalckflhaaGreatDoor
namespace Go.Vc
open Go.RowKit

/-- How keys of a type of data are met. -/
structure MapK (P : Program) (K : TypeId) {κ : Type} [DecidableEq κ] (key : κ → Value) : Prop where
  check : ∀ q e w, (Instr.checkKey e 10000 K (key q)).run P w = .ok () w
  eq : ∀ q q' w, (Op.equal K (key q) (key q')).run P w = .ok (decide (q = q')) w
  same : ∀ q, Instr.sameBits 10000 (key q) (key q) = true
  desc : ∃ d, P.underlying K = some d ∧ ∀ q q', Instr.sameNow d (key q) (key q') = none ∨ Instr.sameNow d (key q) (key q') = some (decide (q = q'))

section
variable {P : Program} {K : TypeId} {κ : Type} [DecidableEq κ] {key : κ → Value}

abbrev Ent (κ : Type) := κ × Value × Nat
def entry (key : κ → Value) (e : Ent κ) : MapEntry := ⟨key e.1, e.2.1, e.2.2⟩

def findL (q : κ) : List (Ent κ) → Nat → Option (Nat × Value)
  | [], _ => none
  | e :: r, i => if q = e.1 then some (i, e.2.1) else findL q r (i + 1)

theorem findAsking_run (hK : MapK P K key) (q : κ) : ∀ (es : List (Ent κ)) (i : Nat) (w : World), (Instr.findAsking K (key q) (es.map (entry key)) i).run P w = .ok (findL q es i) w
  | [], _, _ => rfl
  | e :: r, i, w => by
    simp only [List.map_cons, Instr.findAsking, Sem.run_bind, entry, hK.eq q e.1 w, Result.andThen_ok, findL]
    by_cases h : q = e.1
    · simp [h]
    · simp only [h, decide_false, Bool.false_eq_true, if_false]
      exact findAsking_run hK q r (i + 1) w

theorem findNow_eq {d : TypeDesc} {q : κ} (h : ∀ q', Instr.sameNow d (key q) (key q') = none ∨ Instr.sameNow d (key q) (key q') = some (decide (q = q'))) : ∀ (es : List (Ent κ)) (i : Nat),
    Instr.findNow d (key q) (es.map (entry key)) i = none ∨ Instr.findNow d (key q) (es.map (entry key)) i = some (findL q es i)
  | [], _ => .inr rfl
  | e :: r, i => by
    simp only [List.map_cons, Instr.findNow, entry, findL]
    rcases h e.1 with h1 | h1
    · rw [h1]; exact .inl rfl
    · rw [h1]
      by_cases hq : q = e.1
      · simp [hq]
      · simp only [hq, decide_false, if_false]
        exact findNow_eq h r (i + 1)

theorem findKey_run (hK : MapK P K key) (q : κ) (es : List (Ent κ)) (w : World) : (Instr.findKey K (key q) (es.map (entry key))).run P w = .ok (findL q es 0) w := by
  obtain ⟨d, hd, hs⟩ := hK.desc
  simp only [Instr.findKey, Sem.run_bind, run_underlying hd, Result.andThen_ok]
  rcases findNow_eq (hs q) es 0 with h | h
  · rw [h]; exact findAsking_run hK q es 0 w
  · rw [h]; rfl

theorem findL_some {q : κ} : ∀ {es : List (Ent κ)} {i j : Nat} {v : Value}, findL q es i = some (j, v) → ∃ b, i ≤ j ∧ es[j - i]? = some (q, v, b)
  | [], _, _, _, h => by simp [findL] at h
  | e :: r, i, j, v, h => by
    simp only [findL] at h
    split at h
    · rename_i hq
      simp only [Option.some.injEq, Prod.mk.injEq] at h
      obtain ⟨rfl, rfl⟩ := h
      exact ⟨e.2.2, Nat.le_refl _, by simp [hq]⟩
    · obtain ⟨b, h1, h2⟩ := findL_some h
      refine ⟨b, by omega, ?_⟩
      have : j - i = (j - (i + 1)) + 1 := by omega
      rw [this]; simpa using h2
theorem findL_none {q : κ} : ∀ {es : List (Ent κ)} {i : Nat}, findL q es i = none → ∀ e ∈ es, e.1 ≠ q
  | [], _, _, e, he => by simp at he
  | x :: r, i, h, e, he => by
    simp only [findL] at h
    split at h
    · cases h
    · rename_i hq
      cases he with
      | head => exact fun e => hq e.symm
      | tail _ he => exact findL_none h e he

/-- What a map's entries say of a key. -/
def asF (es : List (Ent κ)) (q : κ) : Option Value := (findL q es 0).map (·.2)

theorem asF_nil (q : κ) : asF ([] : List (Ent κ)) q = none := rfl
theorem findL_shift (q : κ) : ∀ (es : List (Ent κ)) (i : Nat), (findL q es i).map (·.2) = asF es q
  | [], _ => rfl
  | e :: r, i => by
    unfold asF
    simp only [findL]
    split
    · rfl
    · rw [findL_shift q r (i + 1), findL_shift q r (0 + 1)]
theorem asF_cons (e : Ent κ) (r : List (Ent κ)) (q : κ) : asF (e :: r) q = if q = e.1 then some e.2.1 else asF r q := by
  unfold asF
  simp only [findL]
  split
  · rfl
  · rw [findL_shift]; rfl
theorem asF_append (e : Ent κ) (q : κ) : ∀ (es : List (Ent κ)), asF (es ++ [e]) q = (asF es q).or (if q = e.1 then some e.2.1 else none)
  | [] => by rw [List.nil_append, asF_cons, asF_nil]; simp
  | x :: r => by
    rw [List.cons_append, asF_cons, asF_cons, asF_append e q r]
    split <;> simp

/-- Block r is a map that reads as f. -/
def MapF (key : κ → Value) (w : World) (r : Nat) (f : κ → Option Value) : Prop :=
  ∃ (es : List (Ent κ)) (clock : Nat), w.heap[r]? = some (.map (es.map (entry key)).toArray clock) ∧ (∀ q, asF es q = f q) ∧ (es.map (·.1)).Nodup ∧ (es.map (·.2.2)).Nodup ∧ (∀ e ∈ es, e.2.2 < clock)
/-- And the entry of q is the one that was born then. -/
def MapS (key : κ → Value) (w : World) (r : Nat) (f : κ → Option Value) (q : κ) (born : Nat) : Prop :=
  ∃ (es : List (Ent κ)) (clock : Nat), w.heap[r]? = some (.map (es.map (entry key)).toArray clock) ∧ (∀ q, asF es q = f q) ∧ (es.map (·.1)).Nodup ∧ (es.map (·.2.2)).Nodup ∧ (∀ e ∈ es, e.2.2 < clock) ∧ ∃ v, (q, v, born) ∈ es
theorem MapS.map {w : World} {r : Nat} {f : κ → Option Value} {q : κ} {born : Nat} (h : MapS key w r f q born) : MapF key w r f := by
  obtain ⟨es, clock, h1, h2, h3, h4, h5, _⟩ := h; exact ⟨es, clock, h1, h2, h3, h4, h5⟩

theorem MapF.below {w w2 : World} {r : Nat} {f : κ → Option Value} (h : MapF key w r f) (hb : Below w.heap.size w w2) : MapF key w2 r f := by
  obtain ⟨es, clock, hh, rest⟩ := h
  exact ⟨es, clock, block_below hb hh, rest⟩
theorem MapF.same {w w2 : World} {r : Nat} {f : κ → Option Value} (h : MapF key w r f) (hb : w2.heap[r]? = w.heap[r]?) : MapF key w2 r f := by
  obtain ⟨es, clock, hh, rest⟩ := h
  exact ⟨es, clock, hb.trans hh, rest⟩
theorem MapF.new {w : World} : MapF key (w.alloc (.map #[] 0)) w.heap.size (fun (_ : κ) => none) :=
  ⟨[], 0, hnew w _, fun _ => rfl, by simp, by simp, by simp⟩

theorem lookup_run {T elem : TypeId} (hK : MapK P K key) (hu : P.underlying T = some (.map K elem)) {z : Value} (hz : ∀ w, (zeroValue elem).run P w = .ok z w) {w : World} {r : Nat} {f : κ → Option Value} (h : MapF key w r f) (q : κ) (ok : Bool) :
    (Instr.lookup T (.map (some r)) (key q) ok).run P w = .ok (if ok then .tuple #[(f q).getD z, .bool (f q).isSome] else (f q).getD z) w := by
  obtain ⟨es, clock, hh, hf, _⟩ := h
  have hg : (getObj r).run P w = .ok (.map (es.map (entry key)).toArray clock) w := by simp [getObj, Sem.run, hh]
  have e : asF es q = f q := hf q
  unfold asF at e
  simp only [Instr.lookup, Sem.run_bind, run_underlying hu, Result.andThen_ok, hg, Sem.run_pure, hK.check q _ w, findKey_run hK q es w]
  cases hfl : findL q es 0 with
  | none =>
    rw [hfl] at e
    simp only [Option.map_none] at e
    simp only [Sem.run_bind, hz w, Result.andThen_ok, Sem.run_pure, ← e, Option.getD_none, Option.isSome_none]
    first | done | (cases ok <;> rfl)
  | some p =>
    obtain ⟨j, v⟩ := p
    rw [hfl] at e
    simp only [Option.map_some] at e
    simp only [← e, Option.getD_some, Option.isSome_some]
    cases ok <;> rfl

theorem heap_put {w : World} {r : Nat} {o o' : Obj} (h : w.heap[r]? = some o) : (w.putObj r o').heap[r]? = some o' := by
  have : r < w.heap.size := hlt h
  simp [World.putObj, this]
theorem heap_put_old {w : World} {r k : Nat} {o : Obj} (h : k ≠ r) : (w.putObj r o).heap[k]? = w.heap[k]? := by
  have : ¬ r = k := fun e => h e.symm
  simp [World.putObj, this]
theorem below_put {B : Nat} {a w : World} (h : Below B a w) {r : Nat} (hr : B ≤ r) (o : Obj) : Below B a (w.putObj r o) :=
  h.trans ⟨rfl, rfl, rfl, by simp [World.putObj], fun k hk => heap_put_old (by omega)⟩
theorem grown_put (w : World) (r : Nat) (o : Obj) : w.grownBy (w.putObj r o) (some r) :=
  ⟨rfl, rfl, rfl, by simp [World.putObj], fun k _ hne => heap_put_old (fun e => hne (by rw [e]))⟩

theorem getD_self {α : Type} (f : κ → Option α) (q : κ) (z : α) (h : (f q).isSome) (q' : κ) : (if q' = q then some ((f q).getD z) else f q') = f q' := by
  split
  · rename_i e; subst e; obtain ⟨v, hv⟩ := Option.isSome_iff_exists.1 h; simp [hv]
  · rfl

/-- 'm[k]' on its way to a store: the entry is there behind it. -/
theorem mapEntry_run {T elem : TypeId} (hK : MapK P K key) (hu : P.underlying T = some (.map K elem)) {z : Value} (hz : ∀ w, (zeroValue elem).run P w = .ok z w) {w : World} {r : Nat} {f : κ → Option Value} (h : MapF key w r f) (q : κ) :
    ∃ (born : Nat) (o : Obj), (Instr.mapEntry T (.map (some r)) (key q)).run P w = .ok (.tuple #[(f q).getD z, .int .i64 born]) (w.putObj r o) ∧
      MapS key (w.putObj r o) r (fun q' => if q' = q then some ((f q).getD z) else f q') q born := by
  obtain ⟨es, clock, hh, hf, hn, hb, hc⟩ := h
  have hg : (getObj r).run P w = .ok (.map (es.map (entry key)).toArray clock) w := by simp [getObj, Sem.run, hh]
  have hset : ∀ o, (setObj r o).run P w = .ok () (w.putObj r o) := fun o => by simp [setObj, Sem.run, hh, World.putObj]
  have e : asF es q = f q := hf q
  unfold asF at e
  simp only [Instr.mapEntry, Sem.run_bind, run_underlying hu, Result.andThen_ok, hg, hK.check q _ w, findKey_run hK q es w]
  cases hfl : findL q es 0 with
  | none =>
    rw [hfl] at e
    simp only [Option.map_none] at e
    refine ⟨clock, .map ((es ++ [(q, z, clock)]).map (entry key)).toArray (clock + 1), ?_, ?_⟩
    · have e2 : (es.map (entry key)).toArray.push { key := key q, val := z, born := clock } = ((es ++ [(q, z, clock)]).map (entry key)).toArray := by
        rw [← Array.toList_inj]; simp [entry]
      simp only [Sem.run_bind, hz w, Result.andThen_ok, e2, hset, Sem.run_pure, goInt, ← e, Option.getD_none]
    · refine ⟨es ++ [(q, z, clock)], clock + 1, heap_put hh, fun q' => ?_, ?_, ?_, ?_, z, by simp⟩
      · rw [asF_append]
        by_cases hq : q' = q
        · subst hq
          rw [hf q', ← e]; simp
        · simp [hq, hf q']
      · rw [List.map_append, List.map_cons, List.map_nil]
        refine List.nodup_append.2 ⟨hn, by simp, ?_⟩
        intro a ha b hb'
        simp only [List.mem_singleton] at hb'
        subst hb'
        obtain ⟨x, hx, rfl⟩ := List.mem_map.1 ha
        exact findL_none hfl x hx
      · rw [List.map_append, List.map_cons, List.map_nil]
        refine List.nodup_append.2 ⟨hb, by simp, ?_⟩
        intro a ha b hb'
        simp only [List.mem_singleton] at hb'
        subst hb'
        obtain ⟨x, hx, rfl⟩ := List.mem_map.1 ha
        exact Nat.ne_of_lt (hc x hx)
      · intro x hx
        rw [List.mem_append] at hx
        rcases hx with hx | hx
        · exact Nat.lt_succ_of_lt (hc x hx)
        · simp only [List.mem_singleton] at hx; subst hx; exact Nat.lt_succ_self _
  | some p =>
    obtain ⟨j, v⟩ := p
    rw [hfl] at e
    simp only [Option.map_some] at e
    obtain ⟨b, _, hj⟩ := findL_some hfl
    rw [Nat.sub_zero] at hj
    have hje : (es.map (entry key)).toArray[j]? = some (entry key (q, v, b)) := by simp [hj]
    have hmod : (es.map (entry key)).toArray.modify j (fun e => { e with key := key q }) = (es.map (entry key)).toArray := by
      apply Array.ext_getElem?
      intro i
      rw [Array.getElem?_modify]
      split
      · rename_i hij
        subst hij
        rw [hje]; simp [entry]
      · rfl
    refine ⟨b, .map (es.map (entry key)).toArray clock, ?_, ?_⟩
    · simp only [hje, Option.map_some, Option.getD_some, entry, Instr.keyThatStays, hK.same q, if_true, Sem.run_pure, Result.andThen_ok, Sem.run_bind]
      have hmod' := hmod
      rw [hmod', hset]
      simp only [Result.andThen_ok, goInt, ← e, Option.getD_some]
    · refine ⟨es, clock, heap_put hh, fun q' => ?_, hn, hb, hc, v, List.mem_of_getElem? hj⟩
      rw [hf q']
      exact (getD_self f q z (by rw [← e]; rfl) q').symm

theorem asF_mem {q : κ} {v : Value} {b : Nat} : ∀ {es : List (Ent κ)}, (es.map (·.1)).Nodup → (q, v, b) ∈ es → asF es q = some v
  | [], _, h => by simp at h
  | e :: r, hn, h => by
    rw [List.map_cons, List.nodup_cons] at hn
    rw [asF_cons]
    cases h with
    | head => simp
    | tail _ h =>
      have : q ≠ e.1 := fun hq => hn.1 (List.mem_map.2 ⟨_, h, hq⟩)
      rw [if_neg this]
      exact asF_mem hn.2 h

theorem asF_set {born : Nat} (x : Value) (q : κ) (q' : κ) : ∀ (es : List (Ent κ)), (es.map (·.1)).Nodup → (∃ v, (q, v, born) ∈ es) → (∀ e ∈ es, e.2.2 = born → e.1 = q) →
    asF (es.map fun e => if e.2.2 = born then (e.1, x, e.2.2) else e) q' = if q' = q then some x else asF es q'
  | [], _, ⟨v, h⟩, _ => by simp at h
  | e :: r, hn, ⟨v, hm⟩, hb => by
    rw [List.map_cons, List.nodup_cons] at hn
    rw [List.map_cons, asF_cons, asF_cons]
    by_cases he : e.2.2 = born
    · have hq : e.1 = q := hb e List.mem_cons_self he
      simp only [he, if_true]
      rw [hq]
      by_cases hqq : q' = q
      · simp [hqq]
      · simp only [hqq, if_false]
        -- behind it none is of that birth
        have hrest : ∀ (l : List (Ent κ)), (∀ e ∈ l, e.2.2 = born → e.1 = q) → q ∉ l.map (·.1) → l.map (fun e => if e.2.2 = born then (e.1, x, e.2.2) else e) = l := by
          intro l
          induction l with
          | nil => intros; rfl
          | cons y l ih =>
            intro h1 h2
            have hy : ¬ y.2.2 = born := fun hy => h2 (List.mem_map.2 ⟨y, List.mem_cons_self, h1 y List.mem_cons_self hy⟩)
            rw [List.map_cons, if_neg hy, ih (fun z hz => h1 z (List.mem_cons_of_mem _ hz)) (fun hz => h2 (by rw [List.map_cons]; exact List.mem_cons_of_mem _ hz))]
        rw [hrest r (fun z hz => hb z (List.mem_cons_of_mem _ hz)) (by rw [← hq]; exact hn.1)]
    · have hm' : (q, v, born) ∈ r := by
        cases hm with
        | head => exact absurd rfl he
        | tail _ h => exact h
      simp only [he, if_false]
      have hqe : q ≠ e.1 := fun hq => hn.1 (List.mem_map.2 ⟨_, hm', hq⟩)
      rw [asF_set x q q' r hn.2 ⟨v, hm'⟩ (fun z hz => hb z (List.mem_cons_of_mem _ hz))]
      by_cases hqq : q' = q
      · subst hqq; simp [hqe]
      · simp [hqq]

omit [DecidableEq κ] in
theorem findIdx_born {born : Nat} {x : Value} : ∀ (es : List (Ent κ)), (es.map (·.2.2)).Nodup → (∃ q v, (q, v, born) ∈ es) → ∃ i, (es.map (entry key)).findIdx? (fun e => (e.born : Int) == (born : Int)) = some i ∧
    (es.map (entry key)).modify i (fun e => { e with val := x }) = (es.map fun e => if e.2.2 = born then (e.1, x, e.2.2) else e).map (entry key)
  | [], _, ⟨q, v, h⟩ => by simp at h
  | e :: r, hn, ⟨q, v, hm⟩ => by
    rw [List.map_cons, List.nodup_cons] at hn
    by_cases he : e.2.2 = born
    · refine ⟨0, by simp [List.findIdx?_cons, entry, he], ?_⟩
      have hrest : ∀ (l : List (Ent κ)), born ∉ l.map (·.2.2) → l.map (fun e => if e.2.2 = born then (e.1, x, e.2.2) else e) = l := by
        intro l
        induction l with
        | nil => intros; rfl
        | cons y l ih =>
          intro h2
          have hy : ¬ y.2.2 = born := fun hy => h2 (List.mem_map.2 ⟨y, List.mem_cons_self, hy⟩)
          rw [List.map_cons, if_neg hy, ih (fun hz => h2 (by rw [List.map_cons]; exact List.mem_cons_of_mem _ hz))]
      rw [List.map_cons, List.map_cons, List.map_cons, hrest r (by rw [← he]; exact hn.1)]
      simp [entry, he]
    · have hm' : (q, v, born) ∈ r := by
        cases hm with
        | head => exact absurd rfl he
        | tail _ h => exact h
      obtain ⟨i, h1, h2⟩ := findIdx_born r hn.2 ⟨q, v, hm'⟩
      have hne : ((entry key e).born : Int) ≠ (born : Int) := by simp only [entry]; omega
      refine ⟨i + 1, ?_, ?_⟩
      · rw [List.map_cons, List.findIdx?_cons]
        simp [hne, h1]
      · rw [List.map_cons, List.modify_succ_cons, h2, List.map_cons, List.map_cons, if_neg he]

/-- The store into it. -/
theorem entryStore_run {T : TypeId} {w : World} {r : Nat} {f : κ → Option Value} {q : κ} {born : Nat} (h : MapS key w r f q born) (x : Value) :
    ∃ o, (Instr.entryStore T (.map (some r)) (.int .i64 born) x).run P w = .ok () (w.putObj r o) ∧ MapF key (w.putObj r o) r (fun q' => if q' = q then some x else f q') := by
  obtain ⟨es, clock, hh, hf, hn, hb, hc, v, hm⟩ := h
  have hg : (getObj r).run P w = .ok (.map (es.map (entry key)).toArray clock) w := by simp [getObj, Sem.run, hh]
  have hset : ∀ o, (setObj r o).run P w = .ok () (w.putObj r o) := fun o => by simp [setObj, Sem.run, hh, World.putObj]
  obtain ⟨i, h1, h2⟩ := findIdx_born (key := key) (x := x) es hb ⟨q, v, hm⟩
  have hbq : ∀ e ∈ es, e.2.2 = born → e.1 = q := fun e he hbe => by
    obtain ⟨i, hi, e1⟩ := List.getElem_of_mem he
    obtain ⟨j, hj, e2⟩ := List.getElem_of_mem hm
    have : i = j := by
      by_cases hij : i = j
      · exact hij
      · exfalso
        have h3 := (List.pairwise_iff_getElem.1 hb)
        rcases Nat.lt_or_gt_of_ne hij with hlt | hlt
        · exact h3 i j (by simpa using hi) (by simpa using hj) hlt (by simp [e1, e2, hbe])
        · exact h3 j i (by simpa using hj) (by simpa using hi) hlt (by simp [e1, e2, hbe])
    subst this
    rw [e1] at e2
    rw [e2]
  refine ⟨.map ((es.map fun e => if e.2.2 = born then (e.1, x, e.2.2) else e).map (entry key)).toArray clock, ?_, ?_⟩
  · have h1' : (es.map (entry key)).toArray.findIdx? (fun e => (e.born : Int) == (born : Int)) = some i := by simpa using h1
    have h2' : (es.map (entry key)).toArray.modify i (fun e => { e with val := x }) = ((es.map fun e => if e.2.2 = born then (e.1, x, e.2.2) else e).map (entry key)).toArray := by
      rw [← h2]; simp
    simp only [Instr.entryStore, Sem.run_bind, Sem.run_pure, Result.andThen_ok, hg, asInt, asIntOf, h1', h2', hset]
  · refine ⟨_, clock, heap_put hh, fun q' => ?_, ?_, ?_, ?_⟩
    · rw [asF_set x q q' es hn ⟨v, hm⟩ hbq, hf q']
    · have : (es.map fun e => if e.2.2 = born then (e.1, x, e.2.2) else e).map (·.1) = es.map (·.1) := by
        rw [List.map_map]; apply List.map_congr_left; intro e _; simp only [Function.comp_apply]; split <;> rfl
      rw [this]; exact hn
    · have : (es.map fun e => if e.2.2 = born then (e.1, x, e.2.2) else e).map (·.2.2) = es.map (·.2.2) := by
        rw [List.map_map]; apply List.map_congr_left; intro e _; simp only [Function.comp_apply]; split <;> rfl
      rw [this]; exact hb
    · intro e he
      obtain ⟨y, hy, rfl⟩ := List.mem_map.1 he
      split
      · exact hc y hy
      · exact hc y hy

end
end Go.Vc
namespace Go.Vc
open Go.RowKit

/-- An iterator's own steps: what lay ahead of it and what the rounds may write lie as they lay. -/
structure Step (n0 : Nat) (Fp : World → Nat → Prop) (A B : World) : Prop where
  os : B.os = A.os
  tape : B.tape = A.tape
  output : B.output = A.output
  size : A.heap.size ≤ B.heap.size
  same : ∀ k, k < A.heap.size → (k < n0 ∨ Fp A k) → B.heap[k]? = A.heap[k]?

/-- A round: only what it may write is written; what it may write grows by new blocks alone. -/
structure Keeps (Fp : World → Nat → Prop) (A B : World) : Prop where
  os : B.os = A.os
  tape : B.tape = A.tape
  output : B.output = A.output
  size : A.heap.size ≤ B.heap.size
  same : ∀ k, k < A.heap.size → ¬ Fp A k → B.heap[k]? = A.heap[k]?
  fp : ∀ k, Fp B k → Fp A k ∨ A.heap.size ≤ k

structure IterJ {σ : Type} (n0 : Nat) (Fp : World → Nat → Prop) (J : σ → World → Prop) : Prop where
  step : ∀ s A B, J s A → Step n0 Fp A B → J s B ∧ ∀ k, Fp B k → Fp A k
  lt : ∀ s A k, J s A → Fp A k → k < A.heap.size

theorem Step.mono {n0 n1 : Nat} {Fp : World → Nat → Prop} {A B : World} (h : Step n0 Fp A B) (hn : n1 ≤ n0) : Step n1 Fp A B :=
  ⟨h.os, h.tape, h.output, h.size, fun k hk hf => h.same k hk (hf.imp (fun h => Nat.lt_of_lt_of_le h hn) id)⟩
theorem IterJ.mono {σ : Type} {n0 n1 : Nat} {Fp : World → Nat → Prop} {J : σ → World → Prop} (h : IterJ n0 Fp J) (hn : n0 ≤ n1) : IterJ n1 Fp J :=
  ⟨fun s A B hj hs => h.step s A B hj (hs.mono hn), h.lt⟩

theorem Step.of_below {n0 : Nat} {Fp : World → Nat → Prop} {A B : World} (h : Below A.heap.size A B) : Step n0 Fp A B :=
  ⟨h.os, h.tape, h.output, h.size, fun k hk _ => h.block k hk⟩
theorem Step.alloc {n0 : Nat} {Fp : World → Nat → Prop} (A : World) (o : Obj) : Step n0 Fp A (A.alloc o) := .of_below ((Below.refl _ A).alloc (Nat.le_refl _) o)
theorem Step.drew {n0 : Nat} {Fp : World → Nat → Prop} (A : World) : Step n0 Fp A A.drew := .of_below (Below.refl _ A).drew
theorem Step.put {n0 : Nat} {Fp : World → Nat → Prop} {A : World} {l : Nat} (h : n0 ≤ l) (hf : ¬ Fp A l) (o : Obj) : Step n0 Fp A (A.putObj l o) :=
  ⟨rfl, rfl, rfl, by simp [World.putObj], fun k _ hk => heap_put_old (fun e => by subst e; rcases hk with hk | hk; omega; exact hf hk)⟩
theorem Step.row {n0 : Nat} {Fp : World → Nat → Prop} {A : World} {l : Nat} (h : n0 ≤ l) (hf : ¬ Fp A l) (cs : Array Value) : Step n0 Fp A (A.setRow l cs) :=
  ⟨rfl, rfl, rfl, by simp, fun k _ hk => setRow_old (fun e => by subst e; rcases hk with hk | hk; omega; exact hf hk)⟩

theorem YieldR.mono {P : Program} {l : Nat} {args : Array Value} {w : World} {K K' : Value → World → Prop} (h : YieldR P l args w K) (hk : ∀ v w, K v w → K' v w) : YieldR P l args w K' := by
  obtain ⟨fn, tmps, assign, body, hy, hR⟩ := h
  exact ⟨fn, tmps, assign, body, hy, hR.mono fun e w' he => by cases e <;> first | exact hk _ _ he | exact he⟩

/-- **What an iterator owes**: it hands the elements of xs to yield, in order, till yield says no. -/
def IterS {α : Type} (P : Program) (g : Nat) (lb : List Value) (enc : α → List Value) (xs : List α) (W0 : World) (Rd : Nat → Prop) : Prop :=
  ∀ (l : Nat) (Fp : World → Nat → Prop) (J Jx : List α → World → Prop) (W : World), W0.heap.size ≤ W.heap.size → (∀ k, Rd k → W.heap[k]? = W0.heap[k]?) → (∀ k, Rd k → ¬ Fp W k) →
    IterJ W.heap.size Fp J → IterJ W.heap.size Fp Jx →
    (∀ pre x W1, J pre W1 → (pre ++ [x]) <+: xs → YieldR P l (enc x).toArray W1 fun v W2 =>
      (v = .bool true ∧ J (pre ++ [x]) W2 ∧ Keeps Fp W1 W2) ∨ (v = .bool false ∧ Jx (pre ++ [x]) W2)) →
    J [] W →
    Calls P g (.func (.yield l) #[] #[] :: lb).toArray W fun e W' => (∃ v, e = .returned v) ∧ (J xs W' ∨ ∃ pre, pre <+: xs ∧ Jx pre W')

def setL : List Nat → List Value → VEnv → VEnv
  | p :: ps, v :: vs, E => setL ps vs ((p, v) :: E)
  | _, _, E => E

theorem setL_agrees {S : Sig} : ∀ (ps : List Nat) (vs : List Value) (a : Act) (E : Env), Agrees S a E → (∀ p ∈ ps, p < S.n) →
    Agrees S { a with tmps := (ps.zip vs).foldl (fun t (p, v) => t.setIfInBounds p v) a.tmps } ⟨setL ps vs E.vs, E.ds⟩
  | [], vs, a, E, h, _ => by simpa [setL] using h
  | p :: ps, [], a, E, h, _ => by simpa [setL] using h
  | p :: ps, v :: vs, a, E, h, hp => by
    have h1 := h.put (dst := some p) (by simpa [okDst] using hp p List.mem_cons_self) v
    have h2 := setL_agrees ps vs (a.put (some p) v) (setE (some p) v E) h1 (fun q hq => hp q (List.mem_cons_of_mem _ hq))
    simpa [setL, setE, Act.put] using h2

def sr (S : Sig) (l : Nat) : Sig := { S with r := some l }
theorem sr_ok {S : Sig} (h : SigOk S) (l : Nat) : SigOk (sr S l) := ⟨h.ty, h.call, h.mixed⟩

/-- How a round may end. -/
def bodyQ {α : Type} (Fp : World → Nat → Prop) (J : List α → World → Prop) (Jx : Exit → List α → World → Prop) (xs : List α) (A : World) : Exit → Env → World → Prop
  | .normal, _, B => J xs B ∧ Keeps Fp A B
  | .ret, _, B => Jx .ret xs B ∧ Keeps Fp A B
  | .exit id, _, B => Jx (.exit id) xs B ∧ Keeps Fp A B
  | _, _, _ => False

theorem Keeps.trans {Fp : World → Nat → Prop} {A B C : World} (h : Keeps Fp A B) (k : Keeps Fp B C) : Keeps Fp A C :=
  ⟨k.os.trans h.os, k.tape.trans h.tape, k.output.trans h.output, Nat.le_trans h.size k.size,
   fun i hi hf => (k.same i (Nat.lt_of_lt_of_le hi h.size) (fun hb => by rcases h.fp i hb with h1 | h1; exact hf h1; omega)).trans (h.same i hi hf),
   fun i hi => by
     rcases k.fp i hi with h1 | h1
     · exact h.fp i h1
     · exact .inr (Nat.le_trans h.size h1)⟩
theorem Keeps.refl (Fp : World → Nat → Prop) (A : World) : Keeps Fp A A := ⟨rfl, rfl, rfl, Nat.le_refl _, fun _ _ _ => rfl, fun _ h => .inl h⟩
theorem Keeps.of_below {Fp : World → Nat → Prop} {A B : World} (h : Below A.heap.size A B) (hf : ∀ k, Fp B k → Fp A k ∨ A.heap.size ≤ k) : Keeps Fp A B :=
  ⟨h.os, h.tape, h.output, h.size, fun k hk _ => h.block k hk, hf⟩

/-- **The law for a loop over an iterator** (not within another such loop's round). -/
theorem rangeE {α : Type} {S : Sig} (hS : SigOk S) (hr : S.r = none) {f : Operand} {ps : Array Tmp} {assign body : Code} {E : Env} {w : World} {Q : Exit → Env → World → Prop}
    {gf : Nat} {lb : Array Value} (hg : opd E f = some (.func (.func gf) #[] lb)) (hok : calleeOk S gf = true)
    {enc : α → List Value} {xs : List α} {W0 : World} {Rd : Nat → Prop} (hI : IterS S.P gf lb.toList enc xs W0 Rd) (hW0 : W0.heap.size ≤ w.heap.size) (hRd : ∀ k, Rd k → k < W0.heap.size ∧ w.heap[k]? = W0.heap[k]?)
    (hps : ∀ x, (enc x).length = ps.size) (hpn : ∀ p ∈ ps.toList, p < S.n)
    (Fp : World → Nat → Prop) (J : List α → World → Prop) (Jx : Exit → List α → World → Prop) (hRF : ∀ k, Rd k → ¬ Fp w k)
    (hJ : IterJ w.heap.size Fp J) (hJx : ∀ ex, IterJ w.heap.size Fp (Jx ex)) (h0 : J [] w)
    (hround : ∀ (l : Nat) (pre : List α) (x : α) (W : World), w.heap.size ≤ l → (pre ++ [x]) <+: xs → J pre W → ¬ Fp W l → l < W.heap.size →
      wpE (sr S l) assign ⟨setL ps.toList (enc x) E.vs, []⟩ W fun ex E1 W1 => ex = .normal ∧ Keeps Fp W W1 ∧ J pre W1 ∧
        ∀ o W2, W2 = W1.putObj l o → J pre W2 → (∀ k, Fp W2 k → Fp W1 k) → wpE (sr S l) body E1 W2 (bodyQ Fp J Jx (pre ++ [x]) W2))
    (hdone : ∀ D W, w.heap.size ≤ D → ¬ Fp W D → J xs W → W.heap[D]? = some (.deferred (some [])) → Q .normal ⟨E.vs, { target := .collected D, args := #[] } :: E.ds⟩ W)
    (hstop : ∀ D ex pre W, w.heap.size ≤ D → ¬ Fp W D → pre <+: xs → Jx ex pre W → W.heap[D]? = some (.deferred (some [])) → Q ex ⟨E.vs, { target := .collected D, args := #[] } :: E.ds⟩ W) :
    RangeE S f ps assign body E w Q := by
  intro a ha
  have hcall : ∀ args w, (callFunc gf args).run S.P w = .ok (.enter gf args) w := by
    simp only [calleeOk, Bool.and_eq_true, Nat.ble_eq, Nat.blt_eq] at hok
    exact fun args w => hS.call gf hok.1.1 hok.1.2 hok.2 args w
  refine wpIn_rangeFunc ?_
  intro fn hfn
  have hro : (FR S.r).round = none := hr
  rw [hro]
  obtain ⟨rec, hrec⟩ : ∃ rec : LoopState → Option Code → Loop, rec = fun st pe => { state := st, pending := pe, fn, tmps := a.tmps, params := ps, assign, body, defers := w.heap.size } := ⟨_, rfl⟩
  obtain ⟨W1, hW1⟩ : ∃ W1, (w.alloc (.deferred (some []))).alloc (.loop (rec .ready none)) = W1 := ⟨_, rfl⟩
  have hK0 := hnew w (.deferred (some []))
  have hK1 : W1.heap[w.heap.size]? = some (.deferred (some [])) := by rw [← hW1]; exact hold _ hK0
  have hL1 : W1.heap[w.heap.size + 1]? = some (.loop (rec .ready none)) := by
    rw [← hW1]; have := hnew (w.alloc (.deferred (some []))) (.loop (rec .ready none)); rwa [World.size_alloc] at this
  have hs1 : W1.heap.size = w.heap.size + 2 := by rw [← hW1]; simp
  have hst1 : Step w.heap.size Fp w W1 := by
    rw [← hW1]; exact .of_below (((Below.refl _ w).alloc (Nat.le_refl _) _).alloc (by simp) _)
  obtain ⟨hJ1, hF1⟩ := hJ.step _ _ _ h0 hst1
  have hFl : ∀ k, Fp W1 k → k < w.heap.size := fun k hk => hJ.lt _ _ k h0 (hF1 k hk)
  refine ⟨w.heap.size + 1, [{ target := .collected w.heap.size, args := #[] }], W1, { target := .fn (.func gf) lb, args := #[.func (.yield (w.heap.size + 1)) #[] #[]] }, W1, gf,
    #[.func (.yield (w.heap.size + 1)) #[] #[]] ++ lb, W1, ?_, ?_, fun _ _ => trivial, ?_, fun h => by simp [FR] at h, ?_⟩
  · rw [← hW1, hrec]; exact run_enterLoop_outer _ _ _ _ _
  · have hg' := ha.eval hg
    simp only [resolve, hg']
    simp [go_sem]
  · simp [invoke, go_sem, hcall]
  · have hargs : #[Value.func (.yield (w.heap.size + 1)) #[] #[]] ++ lb = (Value.func (.yield (w.heap.size + 1)) #[] #[] :: lb.toList).toArray := by rw [← Array.toList_inj]; simp
    rw [hargs]
    -- the caller's word, with the book-keeping beside it
    have book : ∀ {σ : Type} {K : σ → World → Prop} (lo : Loop), IterJ w.heap.size Fp K → IterJ W1.heap.size Fp (fun s W => K s W ∧ W.heap[w.heap.size + 1]? = some (.loop lo) ∧ W.heap[w.heap.size]? = some (.deferred (some [])) ∧ ¬ Fp W (w.heap.size + 1) ∧ ¬ Fp W w.heap.size) := by
      intro σ K lo hK
      refine ⟨fun s A B ⟨hk, hl, hd, hf1, hf2⟩ hs => ?_, fun s A k ⟨hk, _⟩ hf => hK.lt s A k hk hf⟩
      obtain ⟨h1, h2⟩ := hK.step s A B hk (hs.mono (by omega))
      exact ⟨⟨h1, (hs.same _ (hlt hl) (.inl (by omega))).trans hl, (hs.same _ (hlt hd) (.inl (by omega))).trans hd, fun h => hf1 (h2 _ h), fun h => hf2 (h2 _ h)⟩, h2⟩
    have hcalls := hI (w.heap.size + 1) Fp (fun pre W => J pre W ∧ W.heap[w.heap.size + 1]? = some (.loop (rec .ready none)) ∧ W.heap[w.heap.size]? = some (.deferred (some [])) ∧ ¬ Fp W (w.heap.size + 1) ∧ ¬ Fp W w.heap.size)
      (fun pre W => ∃ ex c, ((ex = .ret ∧ c = .ret) ∨ ∃ id, ex = .exit id ∧ c = .exit id) ∧ Jx ex pre W ∧ W.heap[w.heap.size + 1]? = some (.loop (rec .done (some c))) ∧ W.heap[w.heap.size]? = some (.deferred (some [])) ∧ ¬ Fp W (w.heap.size + 1) ∧ ¬ Fp W w.heap.size)
      W1 (by omega) (fun k hk => by
        obtain ⟨h1, h2⟩ := hRd k hk
        rw [← h2]
        exact hst1.same k (by omega) (.inl (by omega))) (fun k hk hf => hRF k hk (hF1 k hf)) (book _ hJ)
      ⟨fun s A B ⟨ex, c, hc, hrest⟩ hs => by
        have := (book (rec .done (some c)) (hJx ex)).step s A B hrest hs
        exact ⟨⟨ex, c, hc, this.1⟩, this.2⟩,
       fun s A k ⟨ex, c, hc, hrest⟩ hf => (hJx ex).lt s A k hrest.1 hf⟩ ?_ ⟨hJ1, hL1, hK1, fun h => by have := hFl _ h; omega, fun h => by have := hFl _ h; omega⟩
    · refine callsIn_of (hcalls.mono ?_)
      rintro e W2 ⟨⟨v, rfl⟩, (⟨hj, hl, hk, hf1, hf2⟩ | ⟨pre, hpre, ex, c, hc, hj, hl, hk, hf1, hf2⟩)⟩
      · have hst : Step w.heap.size Fp W2 (W2.putObj (w.heap.size + 1) (.loop (rec .exhausted none))) := .put (by omega) hf1 _
        obtain ⟨hj2, hfp2⟩ := hJ.step _ _ _ hj hst
        refine ⟨none, _, by have := run_endLoop (P := S.P) hl (by rw [hrec]; simp); rw [hrec] at this; exact this, ?_⟩
        rw [hrec] at hj2 hfp2
        exact ⟨⟨E.vs, { target := .collected w.heap.size, args := #[] } :: E.ds⟩, ⟨ha.size, by simp [ha.defers], ha.val⟩, hdone w.heap.size _ (Nat.le_refl _) (fun h => hf2 (hfp2 _ h)) hj2 ((heap_put_old (by omega)).trans hk)⟩
      · have hst : Step w.heap.size Fp W2 (W2.putObj (w.heap.size + 1) (.loop (rec .exhausted (some c)))) := .put (by omega) hf1 _
        obtain ⟨hj2, hfp2⟩ := (hJx ex).step _ _ _ hj hst
        refine ⟨some c, _, by have := run_endLoop (P := S.P) hl (by rw [hrec]; simp); rw [hrec] at this; exact this, ?_⟩
        rw [hrec] at hj2 hfp2
        have hq := hstop w.heap.size ex pre _ (Nat.le_refl _) (fun h => hf2 (hfp2 _ h)) hpre hj2 ((heap_put_old (by omega)).trans hk)
        rcases hc with ⟨rfl, rfl⟩ | ⟨id, rfl, rfl⟩
        · exact wpIn_ret ⟨⟨E.vs, { target := .collected w.heap.size, args := #[] } :: E.ds⟩, ⟨ha.size, by simp [ha.defers], ha.val⟩, hq⟩
        · exact wpIn_exit ⟨⟨E.vs, { target := .collected w.heap.size, args := #[] } :: E.ds⟩, ⟨ha.size, by simp [ha.defers], ha.val⟩, hq⟩
    · -- one round
      rintro pre x W ⟨hj, hl, hk, hf1, hf2⟩ hpre
      have hy := run_yield (P := S.P) (args := (enc x).toArray) hl (by rw [hrec]; simpa using hps x)
      rw [hrec] at hy
      refine ⟨fn, _, assign, body, hy, roundIn_any (r := none) (n := NN) (roundIn_of_wpIn (F := FR none) trivial ?_)⟩
      have hag : Agrees (sr S (w.heap.size + 1)) { tmps := (ps.zip (enc x).toArray).foldl (fun t (p, v) => t.setIfInBounds p v) a.tmps, defers := [] } ⟨setL ps.toList (enc x) E.vs, []⟩ := by
        have h1 : Agrees (sr S (w.heap.size + 1)) { a with defers := [] } ⟨E.vs, []⟩ := ⟨ha.size, rfl, ha.val⟩
        have h2 := setL_agrees ps.toList (enc x) _ _ h1 hpn
        have e : (ps.zip (enc x).toArray).foldl (fun t (p, v) => t.setIfInBounds p v) a.tmps = (ps.toList.zip (enc x)).foldl (fun t (p, v) => t.setIfInBounds p v) a.tmps := by
          rw [← Array.foldl_toList]; simp
        rw [e]; exact h2
      have hw := wpE_sound (sr_ok hS _) assign _ _ W _ hag (hround (w.heap.size + 1) pre x W (by omega) hpre hj hf1 (hlt hl))
      refine wpIn_mono hw ?_
      rintro ex a1 Wa ⟨E1, hag1, rfl, hk1, hj1, hbody⟩
      have hla := (hk1.same _ (hlt hl) hf1).trans hl
      have hka := (hk1.same _ (hlt hk) hf2).trans hk
      have hfa1 : ¬ Fp Wa (w.heap.size + 1) := fun h => by rcases hk1.fp _ h with h | h; exact hf1 h; have := hlt hl; omega
      have hfa2 : ¬ Fp Wa w.heap.size := fun h => by rcases hk1.fp _ h with h | h; exact hf2 h; have := hlt hk; omega
      refine ⟨_, run_beginRound hla (by rw [hrec]), ?_⟩
      have hst : Step w.heap.size Fp Wa (Wa.putObj (w.heap.size + 1) (.loop { rec .ready none with state := .busy })) := .put (by omega) hfa1 _
      obtain ⟨hj2, hfp2⟩ := hJ.step _ _ _ hj1 hst
      have hw2 := wpE_sound (sr_ok hS _) body _ _ _ _ hag1 (hbody _ _ rfl hj2 hfp2)
      refine wpIn_mono hw2 ?_
      have hl2 : (Wa.putObj (w.heap.size + 1) (.loop { rec .ready none with state := .busy })).heap[w.heap.size + 1]? = some (.loop { rec .ready none with state := .busy }) := heap_put hla
      have hk2 : (Wa.putObj (w.heap.size + 1) (.loop { rec .ready none with state := .busy })).heap[w.heap.size]? = some (.deferred (some [])) := (heap_put_old (by omega)).trans hka
      have hfb1 : ¬ Fp (Wa.putObj (w.heap.size + 1) (.loop { rec .ready none with state := .busy })) (w.heap.size + 1) := fun h => hfa1 (hfp2 _ h)
      have hfb2 : ¬ Fp (Wa.putObj (w.heap.size + 1) (.loop { rec .ready none with state := .busy })) w.heap.size := fun h => hfa2 (hfp2 _ h)
      have fin : ∀ (jump : Option Code) (W3 : World), Keeps Fp (Wa.putObj (w.heap.size + 1) (.loop { rec .ready none with state := .busy })) W3 →
          (Instr.endRound (w.heap.size + 1) jump).run S.P W3 = .ok (.bool jump.isNone) (W3.putObj (w.heap.size + 1) (.loop (rec (if jump.isNone then .ready else .done) jump))) ∧
          (W3.putObj (w.heap.size + 1) (.loop (rec (if jump.isNone then .ready else .done) jump))).heap[w.heap.size + 1]? = some (.loop (rec (if jump.isNone then .ready else .done) jump)) ∧
          (W3.putObj (w.heap.size + 1) (.loop (rec (if jump.isNone then .ready else .done) jump))).heap[w.heap.size]? = some (.deferred (some [])) ∧
          Step w.heap.size Fp W3 (W3.putObj (w.heap.size + 1) (.loop (rec (if jump.isNone then .ready else .done) jump))) ∧ ¬ Fp W3 (w.heap.size + 1) ∧ ¬ Fp W3 w.heap.size := fun jump W3 hk3 => by
        have hl3 := (hk3.same _ (hlt hl2) hfb1).trans hl2
        have hd3 := (hk3.same _ (hlt hk2) hfb2).trans hk2
        have hf31 : ¬ Fp W3 (w.heap.size + 1) := fun h => by rcases hk3.fp _ h with h | h; exact hfb1 h; have := hlt hl2; omega
        have hf32 : ¬ Fp W3 w.heap.size := fun h => by rcases hk3.fp _ h with h | h; exact hfb2 h; have := hlt hk2; omega
        have := run_endRound (P := S.P) jump hl3
        rw [hrec] at this ⊢
        exact ⟨this, heap_put hl3, (heap_put_old (by omega)).trans hd3, .put (by omega) hf31 _, hf31, hf32⟩
      rintro e a3 W3 ⟨E3, _, hq⟩
      cases e with
      | normal =>
        obtain ⟨hj3, hk3⟩ := hq
        obtain ⟨hr3, hl4, hk4, hs3, hf31, hf32⟩ := fin none W3 hk3
        obtain ⟨hj4, hfp4⟩ := hJ.step _ _ _ hj3 hs3
        refine ⟨_, _, hr3, .inl ⟨rfl, ⟨hj4, hl4, hk4, fun h => hf31 (hfp4 _ h), fun h => hf32 (hfp4 _ h)⟩, ?_⟩⟩
        -- the record is as it was
        refine ⟨hs3.os.trans (hk3.os.trans hk1.os), hs3.tape.trans (hk3.tape.trans hk1.tape), hs3.output.trans (hk3.output.trans hk1.output), ?_, fun k hk5 hf5 => ?_, fun k hk5 => ?_⟩
        · have h1 := hk1.size; have h2 := hst.size; have h3 := hk3.size; have h4 := hs3.size; omega
        · by_cases hkl : k = w.heap.size + 1
          · subst hkl; rw [hl4, hl]; rfl
          · have h1 : ¬ Fp Wa k := fun h => by rcases hk1.fp _ h with h | h; exact hf5 h; omega
            have h2 := hk1.size; have h3 := hst.size
            rw [heap_put_old hkl, hk3.same k (by omega) (fun h => h1 (hfp2 _ h)), heap_put_old hkl]
            exact hk1.same k hk5 hf5
        · have h1 := hfp4 _ hk5
          rcases hk3.fp _ h1 with h2 | h2
          · exact hk1.fp _ (hfp2 _ h2)
          · have h3 := hk1.size; have h4 := hst.size; exact .inr (by omega)
      | ret =>
        obtain ⟨hj3, hk3⟩ := hq
        obtain ⟨hr3, hl4, hk4, hs3, hf31, hf32⟩ := fin (some .ret) W3 hk3
        obtain ⟨hj4, hfp4⟩ := (hJx .ret).step _ _ _ hj3 hs3
        exact ⟨_, _, hr3, .inr ⟨rfl, .ret, .ret, .inl ⟨rfl, rfl⟩, hj4, hl4, hk4, fun h => hf31 (hfp4 _ h), fun h => hf32 (hfp4 _ h)⟩⟩
      | exit id =>
        obtain ⟨hj3, hk3⟩ := hq
        obtain ⟨hr3, hl4, hk4, hs3, hf31, hf32⟩ := fin (some (.exit id)) W3 hk3
        obtain ⟨hj4, hfp4⟩ := (hJx (.exit id)).step _ _ _ hj3 hs3
        exact ⟨_, _, hr3, .inr ⟨rfl, .exit id, .exit id, .inr ⟨id, rfl, rfl⟩, hj4, hl4, hk4, fun h => hf31 (hfp4 _ h), fun h => hf32 (hfp4 _ h)⟩⟩
      | goto t => exact hq.elim
      | panic ch => exact hq.elim
      | outgrown => exact hq.elim

/-! ### A box of one's own, and trees of orders -/
theorem store_new {P : Program} {X : World} {T : TypeId} {iT : TI} (hT : TIok P T iT) {cs : Array Value} {t : TypeId} {v : Value} (hv : v.cells.size = iT.size) (hc : cs.size = iT.size)
    (h0 : v.cells.toList.all Value.oneCell' = true) {K : World → Prop}
    (k : ∀ Y, Below X.heap.size X Y → Y.heap[X.heap.size]? = some (.cells v.cells t (0, 0)) → Y.heap.size = X.heap.size + 1 → K Y) :
    SatR ((storeVar T ⟨X.heap.size, 0, none⟩ v).run P (X.alloc (.cells cs t))) fun _ w' => K w' :=
  store_box hT (hnew X _) hv hc h0 (k _ (below_setRow ((Below.refl _ X).alloc (Nat.le_refl _) _) (Nat.le_refl _) _) (setRow_new (hnew X _)) (by simp))

theorem DrawE.tree {S : Sig} {ops : Array Oper} {E : Env} {w : World} {K : Env → World → Prop} (X : List Nat) (T : OT)
    (h : (covT (indepB S.τ X ops) ops ops.size (Array.replicate ops.size false) T && ops.all (fun o => noSel o.op)) = true) (k : opsT S ops.toList X T E w.drew K) : DrawE S ops E w K :=
  .inr ⟨X, T, h, k⟩

end Go.Vc
namespace Go.Proofs.YtkekidalckflhaaGreatDoor
open Go.Vc Go.RowKit Go.Sei

theorem geoR_nat {g : Geo} (h : geoR g = true) : ∃ c h w s a : Nat, g = ⟨c, h, w, s, a⟩ ∧ (1 ≤ c ∧ c ≤ 4) ∧ (1 ≤ h ∧ h ≤ 2) ∧ (1 ≤ w ∧ w ≤ 4) ∧ (1 ≤ s ∧ s ≤ 4) ∧ 1 ≤ a ∧ a ≤ 4 := by
  have k := geoR_spec h
  obtain ⟨c, h2, w, s, a⟩ := g
  dsimp only at k
  exact ⟨c.toNat, h2.toNat, w.toNat, s.toNat, a.toNat, by congr 1 <;> omega, by omega, by omega, by omega, by omega, by omega, by omega⟩
theorem not_t {b : Bool} (h : (!b) = true) : b = false := by simpa using h
theorem not_f {b : Bool} (h : (!b) = false) : b = true := by simpa using h
theorem u8_of {n : Nat} (h : n < 256) : u8 (UInt8.ofNat n) = .int .u8 (n : Nat) := by
  unfold u8
  rw [UInt8.toNat_ofNat', Nat.mod_eq_of_lt h]
theorem tdiv_nat (a b : Nat) : (a : Int).tdiv (b : Int) = ((a / b : Nat) : Int) := rfl
theorem tmod_nat (a b : Nat) : (a : Int).tmod (b : Int) = ((a % b : Nat) : Int) := rfl

def homeOf (g : Geo) (n : UInt8) : UInt8 := if geoR g then UInt8.ofNat (g.c.toNat + n.toNat % g.h.toNat) else 0
def nodesOf (g : Geo) : Int := if geoR g then g.c + g.h else 0
def linesOf (g : Geo) : Int := if geoR g then ((5 / g.w.toNat : Nat) : Int) + 1 else 0
def lineOf (g : Geo) (n : UInt8) : UInt8 := UInt8.ofNat (n.toNat / g.w.toNat)
def amongOf (first many : Int) (n : UInt8) : Bool := decide (first ≤ n.toNat) && decide ((n.toNat : Int) < first + many)
def isCache (g : Geo) (n : UInt8) : Bool := geoR g && amongOf 0 g.c n
def isHome (g : Geo) (n : UInt8) : Bool := geoR g && amongOf g.c g.h n

theorem Home_c (g : Geo) (n : UInt8) (w : World) (hB : BndM w) : Calls Tryz.prog 40 #[g.val, u8 n] w fun e w' => e = .returned (u8 (homeOf g n)) ∧ Below w.heap.size w w' := by
  refine calls_of_E (S := sg 25) (sgOk _) (args := [g.val, u8 n]) Tryz.func40 rfl rfl (Nat.le_of_ble_eq_true rfl) rfl ?_
  have hb0 : Below w.heap.size w (w.alloc (.cells g.val.cells 23)) := (Below.refl _ _).alloc (Nat.le_refl _) _
  have f0 := hnew w (.cells g.val.cells 23)
  refine ⟨g.enc, rfl, cells_block f0, hlt f0, ?_⟩
  refine Calls.mono (valid_c g _ (hB.below hb0)) ?_
  rintro e V ⟨rfl, hb⟩
  have hw := hb0.trans (hb.mono hb0.size)
  refine store_new (X := V) (v := (plc g).val) (ttOk.get 61 _ rfl) (by rfl) rfl (by rfl) fun Y hbY fY sY => ?_
  have hwY := hw.trans (hbY.mono hw.size)
  refine And.intro (fun h => ?_) (fun h => ?_)
  · have hR := not_t h
    have : homeOf g n = 0 := by unfold homeOf; rw [hR]; rfl
    rw [this]
    exact And.intro rfl hwY
  · have hR := not_f h
    have hp : plc g = g := by unfold plc; rw [hR]; rfl
    rw [hp] at fY
    clear h
    obtain ⟨c, h, w', s, a, rfl, hc, hh, _⟩ := geoR_nat hR
    refine DrawE.ord [] [0, 1, 2, 3, 4, 5, 6, 7, 8, 9, 10, 11] (by kernel_rfl) ?_
    refine ⟨_, cells_at (cells_block (hdr fY)) (i := 0) rfl, ?_⟩
    refine ⟨(c : Int), wrap_u8 (by show 0 ≤ (c : Int) ∧ (c : Int) ≤ 255; omega), ?_⟩
    refine ⟨_, cells_at (cells_block (hdr fY)) (i := 1) rfl, ?_⟩
    refine ⟨(h : Int), wrap_u8 (by show 0 ≤ (h : Int) ∧ (h : Int) ≤ 255; omega), ?_⟩
    obtain ⟨q, hq⟩ : ∃ q, q = n.toNat % h := ⟨_, rfl⟩
    have hm : n.toNat % h < h := Nat.mod_lt _ (by omega)
    rw [← hq] at hm
    refine ⟨by omega, (q : Int), by rw [tmod_nat, ← hq], ?_⟩
    refine ⟨((c + q : Nat) : Int), (wrap_u8 (by omega)).trans (by omega), ?_⟩
    refine And.intro ?_ hwY.drew
    have : homeOf ⟨c, h, w', s, a⟩ n = UInt8.ofNat (c + q) := by unfold homeOf; rw [hR, hq]; rfl
    rw [this, u8_of (by omega)]; rfl

theorem line_c (g : Geo) (hR : geoR g = true) (n : UInt8) (w : World) : Calls Tryz.prog 39 #[g.val, u8 n] w fun e w' => e = .returned (u8 (lineOf g n)) ∧ Below w.heap.size w w' := by
  refine calls_of_E (S := sg 11) (sgOk _) (args := [g.val, u8 n]) Tryz.func39 rfl rfl (Nat.le_of_ble_eq_true rfl) rfl ?_
  have hb0 : Below w.heap.size w (w.alloc (.cells g.val.cells 61)) := (Below.refl _ _).alloc (Nat.le_refl _) _
  have f0 := hnew w (.cells g.val.cells 61)
  obtain ⟨c, h, w', s, a, rfl, hc, hh, hw, _⟩ := geoR_nat hR
  refine ⟨_, cells_at (cells_block f0) (i := 2) rfl, ?_⟩
  refine ⟨(w' : Int), wrap_u8 (by show 0 ≤ (w' : Int) ∧ (w' : Int) ≤ 255; omega), ?_⟩
  have hn := n.toNat_lt
  have hd : n.toNat / w' ≤ n.toNat := Nat.div_le_self _ _
  obtain ⟨q, hq⟩ : ∃ q, q = n.toNat / w' := ⟨_, rfl⟩
  rw [← hq] at hd
  refine ⟨by omega, (q : Int), by rw [tdiv_nat, ← hq]; exact wrap_u8 (by omega), ?_⟩
  refine And.intro ?_ hb0
  have e1 : lineOf ⟨c, h, w', s, a⟩ n = UInt8.ofNat q := by rw [hq]; rfl
  rw [e1, u8_of (by omega)]; rfl

theorem Lines_c (g : Geo) (w : World) (hB : BndM w) : Calls Tryz.prog 19 #[g.val] w fun e w' => e = .returned (i64 (linesOf g)) ∧ Below w.heap.size w w' := by
  refine calls_of_E (S := sg 16) (sgOk _) (args := [g.val]) Tryz.func19 rfl rfl (Nat.le_of_ble_eq_true rfl) rfl ?_
  have hb0 : Below w.heap.size w (w.alloc (.cells g.val.cells 23)) := (Below.refl _ _).alloc (Nat.le_refl _) _
  have f0 := hnew w (.cells g.val.cells 23)
  refine ⟨g.enc, rfl, cells_block f0, hlt f0, ?_⟩
  refine Calls.mono (valid_c g _ (hB.below hb0)) ?_
  rintro e V ⟨rfl, hb⟩
  have hw := hb0.trans (hb.mono hb0.size)
  refine store_new (X := V) (v := (plc g).val) (ttOk.get 61 _ rfl) (by rfl) rfl (by rfl) fun Y hbY fY sY => ?_
  have hwY := hw.trans (hbY.mono hw.size)
  refine And.intro (fun h => ?_) (fun h => ?_)
  · have hR := not_t h
    have : linesOf g = 0 := by unfold linesOf; rw [hR]; rfl
    rw [this]
    exact And.intro rfl hwY
  · have hR := not_f h
    have hp : plc g = g := by unfold plc; rw [hR]; rfl
    rw [hp] at fY
    refine ⟨g.enc, rfl, cells_block fY, hlt fY, ?_⟩
    refine Calls.mono (line_c g hR 5 Y) ?_
    rintro e Z ⟨rfl, hbZ⟩
    have hd : (5 : UInt8).toNat / g.w.toNat ≤ 5 := Nat.div_le_self _ _
    have hu : (lineOf g 5).toNat = 5 / g.w.toNat := by
      unfold lineOf
      rw [UInt8.toNat_ofNat']
      exact Nat.mod_eq_of_lt (by omega)
    refine ⟨((lineOf g 5).toNat : Int), wrap_u8_i64 _, ?_⟩
    refine ⟨((5 / g.w.toNat : Nat) : Int) + 1, by rw [hu]; have : 5 / g.w.toNat ≤ 5 := hd; exact wrap_i64 (by omega), ?_⟩
    refine And.intro ?_ (hwY.trans (hbZ.mono hwY.size))
    have : linesOf g = ((5 / g.w.toNat : Nat) : Int) + 1 := by unfold linesOf; rw [hR]; rfl
    rw [this]; rfl

theorem among_c (v : Value) (first many : Int) (w : World) : Calls Tryz.prog 58 #[v, i64 first, i64 many] w fun e w' =>
    ∃ p q, e = .returned (.func (.func 69) #[] #[.pointer (some ⟨p, 0, none⟩), .pointer (some ⟨q, 0, none⟩)]) ∧ w'.heap[p]? = some (.cells #[i64 first] 3 (0, 0)) ∧ w'.heap[q]? = some (.cells #[i64 many] 3 (0, 0)) ∧ Below w.heap.size w w' := by
  refine calls_of_E (S := sg 8) (sgOk _) (args := [v, i64 first, i64 many]) Tryz.func58 rfl rfl (Nat.le_of_ble_eq_true rfl) rfl ?_
  exact ⟨_, _, rfl, hold _ (hnew _ _), hnew _ _, (((Below.refl _ _).alloc (Nat.le_refl _) _).alloc (by simp) _).alloc (by simp; omega) _⟩
theorem among1_c (n : UInt8) (p q : Nat) (first many : Int) (hr : (0 ≤ first ∧ first ≤ 100) ∧ 0 ≤ many ∧ many ≤ 100) (w : World) (hp : w.heap[p]? = some (.cells #[i64 first] 3 (0, 0))) (hq : w.heap[q]? = some (.cells #[i64 many] 3 (0, 0))) :
    Calls Tryz.prog 69 #[u8 n, .pointer (some ⟨p, 0, none⟩), .pointer (some ⟨q, 0, none⟩)] w fun e w' => e = .returned (.bool (amongOf first many n)) ∧ w = w' := by
  refine calls_of_E (S := sg 17) (sgOk _) (args := [u8 n, .pointer (some ⟨p, 0, none⟩), .pointer (some ⟨q, 0, none⟩)]) Tryz.func69 rfl rfl (Nat.le_of_ble_eq_true rfl) rfl ?_
  refine ⟨_, wrap_u8_i64 n, ?_⟩
  refine ⟨_, cells_head (cells_block hp), ?_⟩
  refine And.intro (fun h => ?_) (fun h => ?_)
  · have h : first ≤ (n.toNat : Int) := of_decide_eq_true h
    refine ⟨_, wrap_u8_i64 n, ?_⟩
    refine ⟨_, cells_head (cells_block hp), ?_⟩
    refine ⟨_, cells_head (cells_block hq), ?_⟩
    refine ⟨first + many, wrap_i64 (by omega), ?_⟩
    refine And.intro (rb ?_) rfl
    unfold amongOf
    rw [decide_eq_true h, Bool.true_and]
  · have h : ¬ first ≤ (n.toNat : Int) := of_decide_eq_false h
    refine And.intro (rb ?_) rfl
    unfold amongOf
    rw [decide_eq_false h, Bool.false_and]

theorem IsCache_c (g : Geo) (n : UInt8) (w : World) (hB : BndM w) : Calls Tryz.prog 42 #[g.val, u8 n] w fun e w' => e = .returned (.bool (isCache g n)) ∧ Below w.heap.size w w' := by
  refine calls_of_E (S := sg 22) (sgOk _) (args := [g.val, u8 n]) Tryz.func42 rfl rfl (Nat.le_of_ble_eq_true rfl) rfl ?_
  have hb0 : Below w.heap.size w (w.alloc (.cells g.val.cells 23)) := (Below.refl _ _).alloc (Nat.le_refl _) _
  have f0 := hnew w (.cells g.val.cells 23)
  refine ⟨g.enc, rfl, cells_block f0, hlt f0, ?_⟩
  refine Calls.mono (valid_c g _ (hB.below hb0)) ?_
  rintro e V ⟨rfl, hb⟩
  have hw := hb0.trans (hb.mono hb0.size)
  refine store_new (X := V) (v := (plc g).val) (ttOk.get 61 _ rfl) (by rfl) rfl (by rfl) fun Y hbY fY sY => ?_
  have hwY := hw.trans (hbY.mono hw.size)
  refine And.intro (fun hR => ?_) (fun hR => ?_)
  · have hp : plc g = g := by unfold plc; rw [hR]; rfl
    have hs := geoR_spec hR
    rw [hp] at fY
    refine ⟨g.enc, rfl, cells_block fY, hlt fY, ?_⟩
    refine ⟨_, cells_at (cells_block fY) (i := 0) rfl, ?_⟩
    refine Calls.mono (among_c g.val 0 g.c Y) ?_
    rintro e Z ⟨p, q, rfl, z1, z2, hbZ⟩
    refine Calls.mono (among1_c n p q 0 g.c (by omega) Z z1 z2) ?_
    rintro e _ ⟨rfl, rfl⟩
    have : isCache g n = amongOf 0 g.c n := by unfold isCache; rw [hR]; rfl
    rw [this, hR]
    exact And.intro rfl (hwY.trans (hbZ.mono hwY.size))
  · have : isCache g n = false := by unfold isCache; rw [hR]; rfl
    rw [this, hR]
    exact And.intro rfl hwY
end Go.Proofs.YtkekidalckflhaaGreatDoor
namespace Go.Proofs.YtkekidalckflhaaGreatDoor
open Go.Vc Go.RowKit Go.Sei

theorem eq_u8 (d : Nat) (x y : UInt8) (w : World) : (Op.equalIn (d + 1) 5 (u8 x) (u8 y)).run Tryz.prog w = .ok (decide (x = y)) w := by
  simp only [Op.equalIn, Sem.run_bind, run_underlying Tryz.underlying5, Result.andThen_ok, u8, if_true, Sem.run_pure]
  congr 1
  by_cases h : x = y
  · simp [h]
  · simp [h, u8_eq]
theorem eq_bool' (d : Nat) (a b : Bool) (w : World) : (Op.equalIn (d + 1) 4 (.bool a) (.bool b)).run Tryz.prog w = .ok (decide (a = b)) w := by
  simp only [Op.equalIn, Sem.run_bind, run_underlying Tryz.underlying4, Result.andThen_ok, Sem.run_pure]
  cases a <;> cases b <;> rfl
theorem part_u8 {cs : List Value} {i : Nat} {v : UInt8} (w : World) (h : cs[i]? = some (u8 v)) : (part 5 cs.toArray i).run Tryz.prog w = .ok (u8 v) w := by
  simp only [part, Sem.run_bind, Tryz.isAgg5, Result.andThen_ok, Bool.false_eq_true, if_false]
  have : cs.toArray[i]? = some (u8 v) := by simpa using h
  rw [this]; rfl
theorem part_bool {cs : List Value} {i : Nat} {v : Bool} (w : World) (h : cs[i]? = some (.bool v)) : (part 4 cs.toArray i).run Tryz.prog w = .ok (.bool v) w := by
  simp only [part, Sem.run_bind, Tryz.isAgg4, Result.andThen_ok, Bool.false_eq_true, if_false]
  have : cs.toArray[i]? = some (.bool v) := by simpa using h
  rw [this]; rfl
def dcells (a b c d : UInt8) : List Value := [u8 a, u8 b, u8 c, u8 d]
theorem eq_data (d : Nat) (a b c e a' b' c' e' : UInt8) (w : World) : (Op.equalIn (d + 2) 25 (.agg (dcells a b c e).toArray) (.agg (dcells a' b' c' e').toArray)).run Tryz.prog w = .ok (decide (a = a') && decide (b = b') && decide (c = c') && decide (e = e')) w := by
  have hc : Tryz.prog.cellsOf 5 = 1 := by kernel_rfl
  obtain ⟨⟨inf, hi⟩, _⟩ : Known Tryz.prog 5 := known_of (by kernel_rfl) (by kernel_rfl)
  have hp := fun (a b c e : UInt8) (w : World) => part_u8 (cs := dcells a b c e) (i := 0) (v := a) w rfl
  have hp1 := fun (a b c e : UInt8) (w : World) => part_u8 (cs := dcells a b c e) (i := 1) (v := b) w rfl
  have hp2 := fun (a b c e : UInt8) (w : World) => part_u8 (cs := dcells a b c e) (i := 2) (v := c) w rfl
  have hp3 := fun (a b c e : UInt8) (w : World) => part_u8 (cs := dcells a b c e) (i := 3) (v := e) w rfl
  rw [run_equalIn_array w (d + 1) _ _ Tryz.underlying25 hi, hc]
  simp only [List.range, List.range.loop, Op.eqItems, Sem.run_bind, Sem.run_ite, Nat.mul_one, hp, hp1, hp2, hp3, Result.andThen_ok, eq_u8]
  by_cases h1 : a = a' <;> by_cases h2 : b = b' <;> by_cases h3 : c = c' <;> by_cases h4 : e = e' <;> simp [h1, h2, h3, h4]
theorem part_data (m : Msg) (w : World) : (part 25 m.enc.toArray 7).run Tryz.prog w = .ok (.agg (dcells m.d0 m.d1 m.d2 m.d3).toArray) w := by
  have hs : (sizeOf 25).run Tryz.prog w = .ok 4 w := by
    have h : (Tryz.prog.info? 25).map (·.size) = some 4 := by kernel_rfl
    cases hi : Tryz.prog.info? 25 with
    | none => rw [hi] at h; cases h
    | some inf =>
      rw [hi] at h
      have h : inf.size = 4 := Option.some.inj h
      simp [sizeOf, typeInfo, hi, h]
  simp only [part, Sem.run_bind, Tryz.isAgg25, Result.andThen_ok, if_true, hs]
  rfl
theorem eq_msg (d : Nat) (m n : Msg) (w : World) : (Op.equalIn (d + 3) 27 m.val n.val).run Tryz.prog w = .ok (decide (m = n)) w := by
  have hf : Tryz.prog.underlying 27 = some (.struct (Tryz.prog.fieldsOf 27)) := by
    unfold Program.fieldsOf; rw [Tryz.underlying27]
  have hs : Tryz.prog.stoodInHeld 27 = false := by kernel_rfl
  rw [Msg.val, Msg.val, run_equalIn_struct w (d + 2) _ _ _ hf hs]
  unfold Program.fieldsOf; rw [Tryz.underlying27]
  have p0 := fun (m : Msg) (w : World) => part_u8 (cs := m.enc) (i := 0) (v := m.kind) w rfl
  have p1 := fun (m : Msg) (w : World) => part_u8 (cs := m.enc) (i := 1) (v := m.from_) w rfl
  have p2 := fun (m : Msg) (w : World) => part_u8 (cs := m.enc) (i := 2) (v := m.to) w rfl
  have p3 := fun (m : Msg) (w : World) => part_u8 (cs := m.enc) (i := 3) (v := m.line) w rfl
  have p4 := fun (m : Msg) (w : World) => part_u8 (cs := m.enc) (i := 4) (v := m.asker) w rfl
  have p5 := fun (m : Msg) (w : World) => part_u8 (cs := m.enc) (i := 5) (v := m.acks) w rfl
  have p6 := fun (m : Msg) (w : World) => part_bool (cs := m.enc) (i := 6) (v := m.alone) w rfl
  obtain ⟨e, he⟩ : ∃ e, e = d + 1 := ⟨_, rfl⟩
  have q0 := fun x y w => eq_u8 (d + 1) x y w
  have q1 := fun x y w => eq_bool' (d + 1) x y w
  have q2 := fun a b c f a' b' c' f' w => eq_data d a b c f a' b' c' f' w
  simp only [Op.eqFields, ne_eq, String.reduceEq, not_false_eq_true, if_true, Sem.run_bind, Sem.run_ite, p0, p1, p2, p3, p4, p5, p6, part_data, Result.andThen_ok, q0, q1, q2, Sem.run_pure]
  obtain ⟨a0, a1, a2, a3, a4, a5, a6, a7, a8, a9, a10⟩ := m
  obtain ⟨b0, b1, b2, b3, b4, b5, b6, b7, b8, b9, b10⟩ := n
  simp only [Msg.mk.injEq]
  by_cases h0 : a0 = b0
  · by_cases h1 : a1 = b1
    · by_cases h2 : a2 = b2
      · by_cases h3 : a3 = b3
        · by_cases h4 : a4 = b4
          · by_cases h5 : a5 = b5
            · by_cases h6 : a6 = b6
              · simp [h0, h1, h2, h3, h4, h5, h6]
                by_cases h7 : a7 = b7 <;> by_cases h8 : a8 = b8 <;> by_cases h9 : a9 = b9 <;> by_cases h10 : a10 = b10 <;> simp [h7, h8, h9, h10]
              · simp [h0, h1, h2, h3, h4, h5, h6]
            · simp [h0, h1, h2, h3, h4, h5]
          · simp [h0, h1, h2, h3, h4]
        · simp [h0, h1, h2, h3]
      · simp [h0, h1, h2]
    · simp [h0, h1]
  · simp [h0]
theorem neq_msg (x y : Operand) (m n : Msg) (w : World) : (do eqGuard .neq 27 x y m.val n.val; binOp .neq 27 m.val n.val).run Tryz.prog w = .ok (.bool (!decide (m = n))) w := by
  have h : (Op.equal 27 m.val n.val).run Tryz.prog w = .ok (decide (m = n)) w := eq_msg 9997 m n w
  have hg : Tryz.prog.eqGuardType Tryz.prog.depth 27 = false := by kernel_rfl
  have h1 : (eqGuard .neq 27 x y m.val n.val).run Tryz.prog w = .ok () w := by
    simp only [eqGuard, Msg.val, Bool.not_true, Bool.false_eq_true, if_false, Sem.run_bind, run_program, Result.andThen_ok, hg, Bool.not_false, if_true, Sem.run_pure]
  rw [Sem.run_bind, h1]
  rw [Msg.val, Msg.val] at h
  simp only [Result.andThen_ok, binOp, Msg.val, Sem.run_bind, h, Sem.run_pure]
end Go.Proofs.YtkekidalckflhaaGreatDoor
namespace Go.Proofs.YtkekidalckflhaaGreatDoor
open Go.Vc Go.RowKit Go.Sei

def codeOf (m : Msg) : List UInt8 := [m.kind, m.from_, m.to, m.line, m.asker, m.acks, if m.alone then 1 else 0, m.d0, m.d1, m.d2, m.d3]

theorem code_c (m : Msg) (w : World) : Calls Tryz.prog 27 #[m.val] w fun e w' => e = .returned (.agg ((codeOf m).map u8).toArray) ∧ Below w.heap.size w w' := by
  refine calls_of_E (S := sg 25) (sgOk _) (args := [m.val]) Tryz.func27 rfl rfl (Nat.le_of_ble_eq_true rfl) rfl ?_
  have c1 := cells_block (hold (.cells #[.int .u8 0, .int .u8 0, .int .u8 0, .int .u8 0, .int .u8 0, .int .u8 0, .int .u8 0, .int .u8 0, .int .u8 0, .int .u8 0, .int .u8 0] 48) (hnew w (.cells m.val.cells 27)))
  refine ⟨_, cells_at c1 (i := 0) rfl, ?_⟩
  refine ⟨_, cells_at c1 (i := 1) rfl, ?_⟩
  refine ⟨_, cells_at c1 (i := 2) rfl, ?_⟩
  refine ⟨_, cells_at c1 (i := 3) rfl, ?_⟩
  refine ⟨_, cells_at c1 (i := 4) rfl, ?_⟩
  refine ⟨_, cells_at c1 (i := 5) rfl, ?_⟩
  refine ⟨[u8 m.kind, u8 m.from_, u8 m.to, u8 m.line, u8 m.asker, u8 m.acks, u8 0, u8 0, u8 0, u8 0, u8 0], rfl, ?_⟩
  obtain ⟨X, hX⟩ : ∃ X, X = (w.alloc (.cells m.val.cells 27)).alloc (.cells #[.int .u8 0, .int .u8 0, .int .u8 0, .int .u8 0, .int .u8 0, .int .u8 0, .int .u8 0, .int .u8 0, .int .u8 0, .int .u8 0, .int .u8 0] 48) := ⟨_, rfl⟩
  have hbX : Below w.heap.size w X := hX ▸ ((Below.refl _ _).alloc (Nat.le_refl _) _).alloc (by simp) _
  have f1 : X.heap[w.heap.size]? = some (.cells m.val.cells 27 (0, 0)) := by rw [hX]; exact hold _ (hnew w _)
  have f2 : X.heap[w.heap.size + 1]? = some (.cells #[.int .u8 0, .int .u8 0, .int .u8 0, .int .u8 0, .int .u8 0, .int .u8 0, .int .u8 0, .int .u8 0, .int .u8 0, .int .u8 0, .int .u8 0] 48 (0, 0)) := by
    have := hnew (w.alloc (.cells m.val.cells 27)) (.cells #[.int .u8 0, .int .u8 0, .int .u8 0, .int .u8 0, .int .u8 0, .int .u8 0, .int .u8 0, .int .u8 0, .int .u8 0, .int .u8 0, .int .u8 0] 48)
    rw [World.size_alloc] at this
    rw [hX]; exact this
  refine store_new (X := (w.alloc (.cells m.val.cells 27)).alloc (.cells #[.int .u8 0, .int .u8 0, .int .u8 0, .int .u8 0, .int .u8 0, .int .u8 0, .int .u8 0, .int .u8 0, .int .u8 0, .int .u8 0, .int .u8 0] 48)) (ttOk.get 48 _ rfl) (by rfl) rfl (by rfl) fun Y hbY f3 sY => ?_
  rw [← hX] at hbY f3 sY
  refine ⟨_, cells_at (cells_block (block_below hbY f1)) (i := 6) rfl, ?_⟩
  have hXs : X.heap.size = w.heap.size + 2 := by rw [hX]; simp
  have hbwY : Below w.heap.size w Y := hbX.trans (hbY.mono hbX.size)
  have f1Y := block_below hbY f1
  have f2Y := block_below hbY f2
  subst hX
  refine And.intro (fun h => ?_) (fun h => ?_)
  · refine ⟨6, rfl, by decide, ?_⟩
    refine store_cell (o := 6) (v := .int .u8 1) (ttOk.get 5 _ rfl) rfl f3 (Nat.le_of_ble_eq_true rfl) rfl rfl fun Z f4 gZ sZ => ?_
    have F : Z.heap[((w.alloc (.cells m.val.cells 27)).alloc (.cells #[.int .u8 0, .int .u8 0, .int .u8 0, .int .u8 0, .int .u8 0, .int .u8 0, .int .u8 0, .int .u8 0, .int .u8 0, .int .u8 0, .int .u8 0] 48)).heap.size]? =
        some (.cells (((codeOf m).take 7).map u8 ++ [u8 0, u8 0, u8 0, u8 0]).toArray 48 (0, 0)) := by
      rw [f4]; simp only [codeOf, h, if_true]; rfl
    refine DrawE.ord [3] [0, 1, 2, 3] (by kernel_rfl) ?_
    refine ⟨7, rfl, by decide, ?_⟩
    have hs5 : (Tryz.prog.info? 5).map (·.size) = some 1 := by kernel_rfl
    have cZ : Cells Z.drew ⟨w.heap.size, 7, none⟩ [u8 m.d0, u8 m.d1, u8 m.d2, u8 m.d3] := by
      have hZ1 : Z.heap[w.heap.size]? = some (.cells m.val.cells 27 (0, 0)) := (gZ.block _ (hlt f1Y) (by simp; omega)).trans f1Y
      exact cells_sub (n := 7) (m := 4) (cells_block (hdr hZ1))
    refine SatR.mk (run_copy_row _ Z.drew 33 33 _ 5 _ 7 4 4 ⟨w.heap.size, 7, none⟩ 4 4 _ _ [u8 m.d0, u8 m.d1, u8 m.d2, u8 m.d3] Tryz.underlying33 hs5 (hdr F) rfl cZ (Nat.le_of_ble_eq_true rfl) (by simp [u8, Value.oneCell'])) ?_
    have G := setRow_new (cs' := ((((codeOf m).take 7).map u8 ++ [u8 0, u8 0, u8 0, u8 0]).toArray.toList.take 7 ++ [u8 m.d0, u8 m.d1, u8 m.d2, u8 m.d3] ++ (((codeOf m).take 7).map u8 ++ [u8 0, u8 0, u8 0, u8 0]).toArray.toList.drop (7 + 4)).toArray) (hdr F)
    have hZ2 := (gZ.block _ (hlt f2Y) (by simp)).trans f2Y
    refine ⟨(codeOf m).map u8, rfl, cells_block G, hlt G, ?_⟩
    refine store_box (v := .agg ((codeOf m).map u8).toArray) (ttOk.get 48 _ rfl) ((setRow_old (g := ((w.alloc (.cells m.val.cells 27)).alloc (.cells #[.int .u8 0, .int .u8 0, .int .u8 0, .int .u8 0, .int .u8 0, .int .u8 0, .int .u8 0, .int .u8 0, .int .u8 0, .int .u8 0, .int .u8 0] 48)).heap.size) (k := (w.alloc (.cells m.val.cells 27)).heap.size) (by simp)).trans (hdr (by rw [World.size_alloc]; exact hZ2))) (by rfl) rfl (by rfl) ?_
    have hbZ : Below w.heap.size w Z := hbwY.grown gZ hbwY.size (fun k e => by simp at e; omega)
    refine ⟨(codeOf m).map u8, rfl, cells_block (setRow_new ((setRow_old (by simp)).trans (hdr (by rw [World.size_alloc]; exact hZ2)))), And.intro rfl ?_⟩
    exact below_setRow (below_setRow hbZ.drew (by simp; omega) _) (by simp) _
  · have F : Y.heap[((w.alloc (.cells m.val.cells 27)).alloc (.cells #[.int .u8 0, .int .u8 0, .int .u8 0, .int .u8 0, .int .u8 0, .int .u8 0, .int .u8 0, .int .u8 0, .int .u8 0, .int .u8 0, .int .u8 0] 48)).heap.size]? =
        some (.cells (((codeOf m).take 7).map u8 ++ [u8 0, u8 0, u8 0, u8 0]).toArray 48 (0, 0)) := by
      rw [f3]; simp only [codeOf, h, Bool.false_eq_true, if_false]; rfl
    refine DrawE.ord [3] [0, 1, 2, 3] (by kernel_rfl) ?_
    refine ⟨7, rfl, by decide, ?_⟩
    have hs5 : (Tryz.prog.info? 5).map (·.size) = some 1 := by kernel_rfl
    have cZ : Cells Y.drew ⟨w.heap.size, 7, none⟩ [u8 m.d0, u8 m.d1, u8 m.d2, u8 m.d3] := by
      have hZ1 : Y.heap[w.heap.size]? = some (.cells m.val.cells 27 (0, 0)) := f1Y
      exact cells_sub (n := 7) (m := 4) (cells_block (hdr hZ1))
    refine SatR.mk (run_copy_row _ Y.drew 33 33 _ 5 _ 7 4 4 ⟨w.heap.size, 7, none⟩ 4 4 _ _ [u8 m.d0, u8 m.d1, u8 m.d2, u8 m.d3] Tryz.underlying33 hs5 (hdr F) rfl cZ (Nat.le_of_ble_eq_true rfl) (by simp [u8, Value.oneCell'])) ?_
    have G := setRow_new (cs' := ((((codeOf m).take 7).map u8 ++ [u8 0, u8 0, u8 0, u8 0]).toArray.toList.take 7 ++ [u8 m.d0, u8 m.d1, u8 m.d2, u8 m.d3] ++ (((codeOf m).take 7).map u8 ++ [u8 0, u8 0, u8 0, u8 0]).toArray.toList.drop (7 + 4)).toArray) (hdr F)
    have hZ2 := f2Y
    refine ⟨(codeOf m).map u8, rfl, cells_block G, hlt G, ?_⟩
    refine store_box (v := .agg ((codeOf m).map u8).toArray) (ttOk.get 48 _ rfl) ((setRow_old (g := ((w.alloc (.cells m.val.cells 27)).alloc (.cells #[.int .u8 0, .int .u8 0, .int .u8 0, .int .u8 0, .int .u8 0, .int .u8 0, .int .u8 0, .int .u8 0, .int .u8 0, .int .u8 0, .int .u8 0] 48)).heap.size) (k := (w.alloc (.cells m.val.cells 27)).heap.size) (by simp)).trans (hdr (by rw [World.size_alloc]; exact hZ2))) (by rfl) rfl (by rfl) ?_
    have hbZ : Below w.heap.size w Y := hbwY
    refine ⟨(codeOf m).map u8, rfl, cells_block (setRow_new ((setRow_old (by simp)).trans (hdr (by rw [World.size_alloc]; exact hZ2)))), And.intro rfl ?_⟩
    exact below_setRow (below_setRow hbZ.drew (by simp; omega) _) (by simp) _
end Go.Proofs.YtkekidalckflhaaGreatDoor
namespace Go.Vc
open Go.RowKit

def freeB (ind : Nat → Nat → Bool) (ops : Array Oper) (k : Nat) (listed : Array Bool) : Bool :=
  (List.range ops.size).all fun i => Nat.beq i k || listed.getD i false || ind k i || waits ops ops.size k i

def covF (rec_ : Array Bool → OT → Bool) (ind : Nat → Nat → Bool) (ops : Array Oper) (listed : Array Bool) (T : OT) : Bool :=
  !(Region.ready .any ops listed).isEmpty && (Region.ready .any ops listed).all fun i =>
      match OT.first ind i T with
      | some T' => rec_ (listed.setIfInBounds i true) T'
      | none => false

def covQ (ind : Nat → Nat → Bool) (ops : Array Oper) : Nat → Array Bool → OT → Bool
  | 0, listed, T => (Region.ready .any ops listed).isEmpty && (match T with | .nil => true | _ => false)
  | m + 1, listed, .op k T' => (match (Region.ready .any ops listed).contains k && freeB ind ops k listed with
    | true => covQ ind ops m (listed.setIfInBounds k true) T'
    | false => covF (covQ ind ops m) ind ops listed (.op k T'))
  | m + 1, listed, .nil => covF (covQ ind ops m) ind ops listed .nil
  | m + 1, listed, .alt x y => covF (covQ ind ops m) ind ops listed (.alt x y)

section
variable {ind : Nat → Nat → Bool} {ops : Array Oper}

def Closed (ops : Array Oper) (L : Array Bool) : Prop := ∀ j o, L.getD j false = true → ops[j]? = some o → ∀ e ∈ o.after, Region.binds .any e = true → L.getD e.on false = true

theorem getD_set {L : Array Bool} {k j : Nat} {d : Bool} (h : j ≠ k) : (L.setIfInBounds k true).getD j d = L.getD j d := by
  have : ¬ k = j := fun e => h e.symm
  simp [Array.getD_eq_getD_getElem?, Array.getElem?_setIfInBounds, this]
theorem getD_mono {L : Array Bool} {k j : Nat} (h : L.getD j false = true) : (L.setIfInBounds k true).getD j false = true := by
  by_cases e : j = k
  · subst e
    have hl : j < L.size := by
      by_cases hl : j < L.size
      · exact hl
      · simp [hl] at h
    simp [Array.getD_eq_getD_getElem?, hl]
  · rw [getD_set e]; exact h

theorem ready_mono {L : Array Bool} {k i : Nat} (h : i ∈ Region.ready .any ops L) (hne : i ≠ k) : i ∈ Region.ready .any ops (L.setIfInBounds k true) := by
  obtain ⟨h1, o, ho, h2⟩ := mem_ready.1 h
  exact mem_ready.2 ⟨by rw [getD_set hne]; exact h1, o, ho, fun e he hb => getD_mono (h2 e he hb)⟩
theorem ready_unlisted {L : Array Bool} {i : Nat} (h : i ∈ Region.ready .any ops L) : L.getD i false = false ∧ i < L.size := by
  obtain ⟨h1, _⟩ := mem_ready.1 h
  by_cases hl : i < L.size
  · simp [Array.getD_eq_getD_getElem?, hl] at h1 ⊢; exact h1
  · simp [hl] at h1
theorem closed_set {L : Array Bool} (hc : Closed ops L) {k : Nat} (hk : k ∈ Region.ready .any ops L) : Closed ops (L.setIfInBounds k true) := by
  obtain ⟨h1, o, ho, h2⟩ := mem_ready.1 hk
  intro j oj hj hoj e he hb
  by_cases e1 : j = k
  · subst e1
    rw [ho] at hoj; cases hoj
    exact getD_mono (h2 e he hb)
  · rw [getD_set e1] at hj
    exact getD_mono (hc j oj hj hoj e he hb)
theorem set_comm {L : Array Bool} {i k : Nat} : (L.setIfInBounds i true).setIfInBounds k true = (L.setIfInBounds k true).setIfInBounds i true := by
  apply Array.ext_getElem?
  intro j
  simp only [Array.getElem?_setIfInBounds, Array.size_setIfInBounds]
  split <;> split <;> simp_all

theorem freeB_mono {k i : Nat} {L : Array Bool} (h : freeB ind ops k L = true) : freeB ind ops k (L.setIfInBounds i true) = true := by
  simp only [freeB, List.all_eq_true, Bool.or_eq_true, List.mem_range] at h ⊢
  intro j hj
  rcases h j hj with ((h | h) | h) | h
  · exact .inl (.inl (.inl h))
  · exact .inl (.inl (.inr (getD_mono h)))
  · exact .inl (.inr h)
  · exact .inr h

theorem free_ind {k i : Nat} {L : Array Bool} (hc : Closed ops L) (hf : freeB ind ops k L = true) (hk : k ∈ Region.ready .any ops L) (hi : i ∈ Region.ready .any ops L) (hne : i ≠ k) : ind k i = true := by
  obtain ⟨h1, o, ho, h2⟩ := mem_ready.1 hi
  simp only [freeB, List.all_eq_true, Bool.or_eq_true, List.mem_range] at hf
  rcases hf i (Array.getElem?_eq_some_iff.1 ho).1 with ((h | h) | h) | h
  · exact absurd (Nat.eq_of_beq_eq_true h) hne
  · rw [(ready_unlisted hi).1] at h; cases h
  · exact h
  · have := waits_listed hc _ k i o ho h2 h
    rw [(ready_unlisted hk).1] at this; cases this

theorem covF_next {rec_ : Array Bool → OT → Bool} {L : Array Bool} {T : OT} (h : covF rec_ ind ops L T = true) : (Region.ready .any ops L).isEmpty = false ∧ ∀ i ∈ Region.ready .any ops L, ∃ T', OT.first ind i T = some T' ∧ rec_ (L.setIfInBounds i true) T' = true := by
  simp only [covF, Bool.and_eq_true, Bool.not_eq_true', List.all_eq_true] at h
  refine ⟨h.1, fun i hi => ?_⟩
  have := h.2 i hi
  split at this
  · rename_i T' hT; exact ⟨T', hT, this⟩
  · cases this

theorem covQ_next : ∀ (m : Nat) (L : Array Bool) (T : OT), Closed ops L → covQ ind ops (m + 1) L T = true →
    (Region.ready .any ops L).isEmpty = false ∧ ∀ i ∈ Region.ready .any ops L, ∃ T', OT.first ind i T = some T' ∧ covQ ind ops m (L.setIfInBounds i true) T' = true := by
  intro m
  induction m with
  | zero =>
    intro L T hc h
    cases T with
    | nil => exact covF_next h
    | alt x y => exact covF_next h
    | op k T' =>
      simp only [covQ] at h
      split at h
      · rename_i hf
        simp only [Bool.and_eq_true, List.contains_eq_mem, decide_eq_true_eq] at hf
        refine ⟨List.isEmpty_eq_false_iff.2 (List.ne_nil_of_mem hf.1), fun i hi => ?_⟩
        by_cases e : i = k
        · subst e; exact ⟨T', by simp [OT.first], h⟩
        · have := ready_mono hi e
          simp only [Bool.and_eq_true, List.isEmpty_iff] at h
          rw [h.1] at this; cases this
      · exact covF_next h
  | succ m ih =>
    intro L T hc h
    cases T with
    | nil => exact covF_next h
    | alt x y => exact covF_next h
    | op k T' =>
      unfold covQ at h
      split at h
      · rename_i hf
        simp only [Bool.and_eq_true, List.contains_eq_mem, decide_eq_true_eq] at hf
        refine ⟨List.isEmpty_eq_false_iff.2 (List.ne_nil_of_mem hf.1), fun i hi => ?_⟩
        by_cases e : i = k
        · subst e; exact ⟨T', by simp [OT.first], h⟩
        · obtain ⟨T'', h1, h2⟩ := (ih _ T' (closed_set hc hf.1) h).2 i (ready_mono hi e)
          refine ⟨.op k T'', ?_, ?_⟩
          · have : ¬ k = i := fun e2 => e e2.symm
            rw [OT.first, if_neg this, if_pos (free_ind hc hf.2 hf.1 hi e), h1]; rfl
          · have hk2 : k ∈ Region.ready .any ops (L.setIfInBounds i true) := ready_mono hf.1 (fun e2 => e e2.symm)
            have hb : ((Region.ready .any ops (L.setIfInBounds i true)).contains k && freeB ind ops k (L.setIfInBounds i true)) = true := by
              simp only [Bool.and_eq_true, List.contains_eq_mem, decide_eq_true_eq]
              exact ⟨hk2, freeB_mono hf.2⟩
            unfold covQ
            rw [hb]
            rw [set_comm]
            exact h2
      · exact covF_next h

theorem covQ_covT : ∀ (m : Nat) (L : Array Bool) (T : OT), Closed ops L → covQ ind ops m L T = true → covT ind ops m L T = true
  | 0, L, T, _, h => h
  | m + 1, L, T, hc, h => by
    obtain ⟨h1, h2⟩ := covQ_next m L T hc h
    simp only [covT, Bool.and_eq_true, Bool.not_eq_true', List.all_eq_true]
    refine ⟨h1, fun i hi => ?_⟩
    obtain ⟨T', h3, h4⟩ := h2 i hi
    rw [h3]
    exact covQ_covT m _ T' (closed_set hc hi) h4

theorem DrawE.treeQ {S : Sig} {ops : Array Oper} {E : Env} {w : World} {K : Env → World → Prop} (X : List Nat) (T : OT)
    (h : (covQ (indepB S.τ X ops) ops ops.size (Array.replicate ops.size false) T && ops.all (fun o => noSel o.op)) = true) (k : opsT S ops.toList X T E w.drew K) : DrawE S ops E w K :=
  .inr ⟨X, T, by
    simp only [Bool.and_eq_true] at h ⊢
    refine ⟨covQ_covT _ _ _ (fun j o hj => ?_) h.1, h.2⟩
    by_cases hl : j < ops.size <;> simp [hl] at hj, k⟩
end
end Go.Vc
namespace Go.Proofs.YtkekidalckflhaaGreatDoor
open Go.Vc Go.RowKit Go.Sei

def strE : Enc (List UInt8) := ⟨fun l => [strV l], 1, fun _ => rfl, by decide, fun a u hu => by
  simp only [List.mem_cons, List.not_mem_nil, or_false] at hu; subst hu; rfl⟩
theorem strE_flat (l : List (List UInt8)) : l.flatMap strE.enc = l.map strV := by
  induction l with
  | nil => rfl
  | cons a r ih => rw [List.flatMap_cons, ih]; rfl

theorem add_str (x y : Operand) (a b : List UInt8) (h : a.length + b.length ≤ 1000000000) (w : World) : (do eqGuard .add 9 x y (strV a) (strV b); binOp .add 9 (strV a) (strV b)).run Tryz.prog w = .ok (strV (a ++ b)) w := by
  have h1 : (eqGuard .add 9 x y (strV a) (strV b)).run Tryz.prog w = .ok () w := rfl
  have hsz : ¬ (((bs a).size + (bs b).size : Nat) : Int) > IntKind.i64.max := by
    have e1 : (bs a).size = a.length := rfl
    have e2 : (bs b).size = b.length := rfl
    rw [e1, e2]
    have : IntKind.i64.max = 9223372036854775807 := by decide
    omega
  have h3 : bs a ++ bs b = bs (a ++ b) := by
    apply ByteArray.ext
    simp [bs, ByteArray.data_append]
  rw [Sem.run_bind, h1, Result.andThen_ok]
  show (Op.stringOp .add (bs a) (bs b)).run Tryz.prog w = _
  simp only [Op.stringOp, if_neg hsz, Sem.run_pure, h3]; rfl
theorem neq_data (x y : Operand) (a b c e a' b' c' e' : UInt8) (w : World) : (do eqGuard .neq 25 x y (.agg (dcells a b c e).toArray) (.agg (dcells a' b' c' e').toArray); binOp .neq 25 (.agg (dcells a b c e).toArray) (.agg (dcells a' b' c' e').toArray)).run Tryz.prog w =
    .ok (.bool (!(decide (a = a') && decide (b = b') && decide (c = c') && decide (e = e')))) w := by
  have h : (Op.equal 25 (.agg (dcells a b c e).toArray) (.agg (dcells a' b' c' e').toArray)).run Tryz.prog w = .ok (decide (a = a') && decide (b = b') && decide (c = c') && decide (e = e')) w := eq_data 9998 a b c e a' b' c' e' w
  have hg : Tryz.prog.eqGuardType Tryz.prog.depth 25 = false := by kernel_rfl
  have h1 : (eqGuard .neq 25 x y (.agg (dcells a b c e).toArray) (.agg (dcells a' b' c' e').toArray)).run Tryz.prog w = .ok () w := by
    simp only [eqGuard, Bool.not_true, Bool.false_eq_true, if_false, Sem.run_bind, run_program, Result.andThen_ok, hg, Bool.not_false, if_true, Sem.run_pure]
  rw [Sem.run_bind, h1]
  simp only [Result.andThen_ok, binOp, Sem.run_bind, h, Sem.run_pure]

/-- The words of a message, as they come. -/
def w0 (m : Msg) : List (List UInt8) := if classOf m.kind = 0 then [[107, 105, 110, 100], dig m.kind] else [kindNames.getD m.kind.toNat []]
def w1 (m : Msg) : List (List UInt8) := w0 m ++ [dig m.from_ ++ [62] ++ dig m.to, [108, 105, 110, 101], dig m.line]
def w2 (m : Msg) : List (List UInt8) := w1 m ++ (if m.asker = 0 then [] else [[97, 115, 107, 101, 114], dig m.asker])
def w3 (m : Msg) : List (List UInt8) := w2 m ++ (if m.acks = 0 then [] else [[97, 99, 107, 115], dig m.acks])
def w4 (m : Msg) : List (List UInt8) := w3 m ++ (if m.alone then [[97, 108, 111, 110, 101]] else [])
def w5 (m : Msg) : List (List UInt8) := w4 m ++ (if m.d0 = 0 ∧ m.d1 = 0 ∧ m.d2 = 0 ∧ m.d3 = 0 then [] else [[100, 97, 116, 97], dig m.d0, dig m.d1, dig m.d2, dig m.d3])
def textOf (m : Msg) : List UInt8 := Lib.join (w5 m) [32]
theorem w_len (m : Msg) : (w0 m).length ≤ 2 ∧ (w1 m).length ≤ 5 ∧ (w2 m).length ≤ 7 ∧ (w3 m).length ≤ 9 ∧ (w4 m).length ≤ 10 ∧ (w5 m).length ≤ 15 := by
  have h0 : (w0 m).length ≤ 2 := by unfold w0; split <;> simp
  have h1 : (w1 m).length ≤ 5 := by unfold w1; simp; omega
  have h2 : (w2 m).length ≤ 7 := by unfold w2; split <;> simp <;> omega
  have h3 : (w3 m).length ≤ 9 := by unfold w3; split <;> simp <;> omega
  have h4 : (w4 m).length ≤ 10 := by unfold w4; split <;> simp <;> omega
  have h5 : (w5 m).length ≤ 15 := by unfold w5; split <;> simp <;> omega
  exact ⟨h0, h1, h2, h3, h4, h5⟩

/-- The box of the message, the row of words. -/
structure TxS (w : World) (m : Msg) (p : Option Addr) (cap : Nat) (ws : List (List UInt8)) (V : World) : Prop where
  box : V.heap[w.heap.size]? = some (.cells m.val.cells 27 (0, 0))
  own : OwnS strE 9 (w.heap.size + 1) V p cap ws
  bel : Below w.heap.size w V
theorem TxS.below {w V V2 : World} {m : Msg} {p : Option Addr} {cap : Nat} {ws : List (List UInt8)} (h : TxS w m p cap ws V) (hb : Below V.heap.size V V2) : TxS w m p cap ws V2 :=
  ⟨block_below hb h.box, h.own.below hb, h.bel.trans (hb.mono h.bel.size)⟩

theorem app_words {w V : World} {m : Msg} {p : Option Addr} {cap n c : Nat} {ws : List (List UInt8)} (news : List (List UInt8)) (h : TxS w m p cap ws V) (hn : news.length = n) (hlen : ws.length + n ≤ 100) {K : Value → World → Prop}
    (k : ∀ p' cap' W, TxS w m p' cap' (ws ++ news) W → K (.slice p' (ws ++ news).length cap') W) :
    SatR ((Builtin.append_ #[36, 36] 36 #[.slice p ws.length cap, .slice (some ⟨V.heap.size, 0, none⟩) n c]).run Tryz.prog (V.alloc (.cells (news.map strV).toArray 9))) K := by
  have hs := hlt h.box
  refine app_own (E := strE) (news := news) (B := w.heap.size + 1) Tryz.underlying36 (ttOk.get 9 _ rfl) rfl rfl rfl (h.own.alloc _) hn (by rw [strE_flat]; exact cells_new) (by simp; omega) (by omega) (by show (ws.length + n) * 16 ≤ 140737488355328; omega) ?_
  intro p' cap' W ho hg hb _
  refine k p' cap' W ⟨?_, ho, (h.bel.alloc h.bel.size _).trans (hb.mono (by omega))⟩
  rw [hb.block _ (by omega)]
  exact hold _ h.box
end Go.Proofs.YtkekidalckflhaaGreatDoor
namespace Go.Proofs.YtkekidalckflhaaGreatDoor
open Go.Vc Go.RowKit Go.Sei

theorem dig_len (n : UInt8) : (dig n).length ≤ 21 := Lib.itoa_length_le _ (by omega) (by have := u8_lt n; omega)
theorem join_len : ∀ (xs : List (List UInt8)), (∀ x ∈ xs, x.length ≤ 60) → (Lib.join xs [32]).length ≤ xs.length * 61
  | [], _ => by simp [Lib.join_nil]
  | x :: r, h => by
    rw [Lib.join_cons, List.length_append]
    have h1 := h x (by simp)
    have h2 : ∀ (r : List (List UInt8)), (∀ x ∈ r, x.length ≤ 60) → (Lib.joinTail [32] r).length ≤ r.length * 61 := by
      intro r
      induction r with
      | nil => intro _; simp [Lib.joinTail]
      | cons y t ih =>
        intro hr
        have h3 := hr y (by simp)
        have h4 := ih fun x hx => hr x (by simp [hx])
        simp only [Lib.joinTail, List.map_cons, List.flatten_cons, List.length_append, List.length_cons, List.length_nil] at h4 ⊢
        omega
    have h3 := h2 r fun x hx => h x (by simp [hx])
    simp only [List.length_cons]; omega
theorem w_word (m : Msg) : ∀ x ∈ w5 m, x.length ≤ 60 := by
  have hd := fun n => dig_len n
  have hk : (kindNames.getD m.kind.toNat []).length ≤ 60 := by
    rw [List.getD_eq_getElem?_getD]
    cases h : kindNames[m.kind.toNat]? with
    | none => simp
    | some l =>
      have hm := List.mem_of_getElem? h
      have : ∀ l ∈ kindNames, l.length ≤ 60 := by decide
      exact this l hm
  intro x hx
  simp only [w5, w4, w3, w2, w1, w0, List.mem_append] at hx
  have d := hd m.from_; have d1 := hd m.to
  rcases hx with ((((( hx | hx) | hx) | hx) | hx) | hx)
  · split at hx
    · simp only [List.mem_cons, List.not_mem_nil, or_false] at hx
      rcases hx with rfl | rfl
      · decide
      · have := hd m.kind; omega
    · simp only [List.mem_cons, List.not_mem_nil, or_false] at hx; subst hx; exact hk
  · simp only [List.mem_cons, List.not_mem_nil, or_false] at hx
    rcases hx with rfl | rfl | rfl
    · simp; omega
    · decide
    · have := hd m.line; omega
  · split at hx
    · cases hx
    · simp only [List.mem_cons, List.not_mem_nil, or_false] at hx
      rcases hx with rfl | rfl
      · decide
      · have := hd m.asker; omega
  · split at hx
    · cases hx
    · simp only [List.mem_cons, List.not_mem_nil, or_false] at hx
      rcases hx with rfl | rfl
      · decide
      · have := hd m.acks; omega
  · split at hx
    · simp only [List.mem_cons, List.not_mem_nil, or_false] at hx; subst hx; decide
    · cases hx
  · split at hx
    · cases hx
    · simp only [List.mem_cons, List.not_mem_nil, or_false] at hx
      rcases hx with rfl | rfl | rfl | rfl | rfl
      · decide
      · have := hd m.d0; omega
      · have := hd m.d1; omega
      · have := hd m.d2; omega
      · have := hd m.d3; omega

theorem nqf {a b : Int} (h : (!decide (a = b)) = false) : a = b := by simpa using h
theorem nqt {a b : Int} (h : (!decide (a = b)) = true) : ¬ a = b := by simpa using h
theorem TxS.drew {w V : World} {m : Msg} {p : Option Addr} {cap : Nat} {ws : List (List UInt8)} (h : TxS w m p cap ws V) : TxS w m p cap ws V.drew := h.below (Below.refl _ V).drew

abbrev txEnv (w : World) (p : Option Addr) (n cap : Nat) : VEnv := [(1, .pointer (some ⟨w.heap.size, 0, none⟩)), (3, .slice p n cap), (4, .func (.func 28) #[] #[])]

theorem Text_c (m : Msg) (w : World) (hg : GlobM w) : Calls Tryz.prog 14 #[m.val] w fun e w' => e = .returned (strV (textOf m)) ∧ Below w.heap.size w w' := by
  obtain ⟨l0, l1, l2, l3, l4, l5⟩ := w_len m
  refine calls_of_M (S := sg 88) (sgOk _) (args := [m.val]) (.s .p (.s .p (.s .p (.c .p (.c .p (.c .p (.c .p (.c .p (.c (.s .p (.d (.s .p (.s .p .p)) .p)) .p))))))))) Tryz.func14 rfl rfl (Nat.le_of_ble_eq_true rfl) rfl ?_
  have hb1 : Below w.heap.size w (w.alloc (.cells m.val.cells 27)) := (Below.refl _ _).alloc (Nat.le_refl _) _
  have f1 := hnew w (.cells m.val.cells 27)
  have T0 : TxS w m none 0 [] (w.alloc (.cells m.val.cells 27)) := ⟨f1, .nil, hb1⟩
  refine ⟨Option Addr × Nat, fun s => ⟨txEnv w s.1 (w0 m).length s.2, []⟩, fun s V => TxS w m s.1 s.2 (w0 m) V, ?_, ?_⟩
  · refine ⟨_, cells_at (cells_block f1) (i := 0) rfl, ?_⟩
    refine Calls.mono (Class_c m.kind _ (hg.below hb1)) ?_
    rintro e _ ⟨rfl, rfl⟩
    refine And.intro (fun h => ?_) (fun h => ?_)
    · have hc : classOf m.kind ≠ 0 := fun e => by rw [e] at h; simp at h
      have hkl : m.kind.toNat < 13 := by
        by_cases h13 : m.kind.toNat < 13
        · exact h13
        · exact absurd (by unfold classOf; rw [List.getD_eq_getElem?_getD, List.getElem?_eq_none (by simp only [classes, List.length_cons, List.length_nil]; omega)]; rfl) hc
      have hw0 : w0 m = [kindNames.getD m.kind.toNat []] := by unfold w0; rw [if_neg hc]
      refine ⟨_, cells_at (cells_block f1) (i := 0) rfl, ?_⟩
      refine ⟨m.kind.toNat, rfl, hkl, ?_⟩
      have hk : (kindNames.map strV)[m.kind.toNat]? = some (strV (kindNames.getD m.kind.toNat [])) := by
        have : m.kind.toNat < kindNames.length := hkl
        rw [List.getElem?_map, List.getElem?_eq_getElem this, List.getD_eq_getElem?_getD, List.getElem?_eq_getElem this]; rfl
      refine ⟨_, by rw [Nat.mul_one]; exact cells_at (hg.below hb1).nms hk, ?_⟩
      refine ⟨⟨by decide, by decide, rfl⟩, [strV (kindNames.getD m.kind.toNat [])], rfl, ?_⟩
      refine app_words (ws := []) [kindNames.getD m.kind.toNat []] T0 rfl (Nat.le_of_ble_eq_true rfl) fun p' cap' W hW => ?_
      exact ⟨(p', cap'), ⟨.cons rfl (.cons (by dsimp only; rw [hw0]; rfl) (.cons rfl .nil)), rfl⟩, by dsimp only; rw [hw0]; exact hW⟩
    · have hc : classOf m.kind = 0 := u8_eq.1 (nqf h)
      have hw0 : w0 m = [[107, 105, 110, 100], dig m.kind] := by unfold w0; rw [if_pos hc]
      refine ⟨_, cells_at (cells_block f1) (i := 0) rfl, ?_⟩
      refine Calls.mono (number_c m.kind _ (hg.below hb1)) ?_
      rintro e V ⟨rfl, hbV⟩
      refine ⟨⟨by decide, by decide, rfl⟩, [strV [107, 105, 110, 100], strV (dig m.kind)], rfl, ?_⟩
      refine app_words (ws := []) [[107, 105, 110, 100], dig m.kind] (T0.below hbV) rfl (Nat.le_of_ble_eq_true rfl) fun p' cap' W hW => ?_
      exact ⟨(p', cap'), ⟨.cons rfl (.cons (by dsimp only; rw [hw0]; rfl) (.cons rfl .nil)), rfl⟩, by dsimp only; rw [hw0]; exact hW⟩
  rintro ⟨p, cap⟩ V T
  refine ⟨Option Addr × Nat, fun s => ⟨txEnv w s.1 (w1 m).length s.2, []⟩, fun s V => TxS w m s.1 s.2 (w1 m) V, ?_, ?_⟩
  · refine DrawE.ord [16] [0, 1, 2, 3, 6, 7, 8, 11, 12, 13, 4, 5, 9, 10, 14, 15, 16, 17] (by kernel_rfl) ?_
    have Ta := T.drew
    refine ⟨_, cells_at (cells_block Ta.box) (i := 1) rfl, ?_⟩
    refine ⟨_, cells_at (cells_block Ta.box) (i := 2) rfl, ?_⟩
    refine ⟨_, cells_at (cells_block Ta.box) (i := 3) rfl, ?_⟩
    refine Calls.mono (number_c m.from_ _ (hg.below Ta.bel)) ?_
    rintro e V1 ⟨rfl, hbV1⟩
    refine ⟨hbV1, ?_⟩
    have Tb := Ta.below hbV1
    have d1 := dig_len m.from_
    have d2 := dig_len m.to
    refine ⟨_, fun w => add_str _ _ (dig m.from_) [62] (by simp; omega) w, ?_⟩
    refine Calls.mono (number_c m.to _ (hg.below Tb.bel)) ?_
    rintro e V2 ⟨rfl, hbV2⟩
    refine ⟨hbV2, ?_⟩
    have Tc := Tb.below hbV2
    refine ⟨_, fun w => add_str _ _ (dig m.from_ ++ [62]) (dig m.to) (by simp; omega) w, ?_⟩
    refine Calls.mono (number_c m.line _ (hg.below Tc.bel)) ?_
    rintro e V3 ⟨rfl, hbV3⟩
    refine ⟨hbV3, ?_⟩
    have Td := Tc.below hbV3
    refine ⟨⟨by decide, by decide, rfl⟩, [strV (dig m.from_ ++ [62] ++ dig m.to), strV [108, 105, 110, 101], strV (dig m.line)], rfl, ?_⟩
    refine ⟨(Below.refl _ _).alloc (Nat.le_refl _) _, ?_⟩
    refine app_words [dig m.from_ ++ [62] ++ dig m.to, [108, 105, 110, 101], dig m.line] Td rfl (by simp only [List.length_cons, List.length_nil]; omega) fun p' cap' W hW => ?_
    have hw : w1 m = w0 m ++ [dig m.from_ ++ [62] ++ dig m.to, [108, 105, 110, 101], dig m.line] := rfl
    exact ⟨(p', cap'), ⟨.cons rfl (.cons rfl (.cons rfl .nil)), rfl⟩, hW⟩
  clear T p cap V
  rintro ⟨p, cap⟩ V T
  refine ⟨Option Addr × Nat, fun s => ⟨txEnv w s.1 (w2 m).length s.2, []⟩, fun s V => TxS w m s.1 s.2 (w2 m) V, ?_, ?_⟩
  · refine ⟨_, cells_at (cells_block T.box) (i := 4) rfl, ?_⟩
    refine And.intro (fun h => ?_) (fun h => ?_)
    · have hc : ¬ m.asker = 0 := fun e => nqt h (by rw [e]; rfl)
      have hw : w2 m = w1 m ++ [[97, 115, 107, 101, 114], dig m.asker] := by unfold w2; rw [if_neg hc]
      refine ⟨_, cells_at (cells_block T.box) (i := 4) rfl, ?_⟩
      refine Calls.mono (number_c m.asker _ (hg.below T.bel)) ?_
      rintro e V1 ⟨rfl, hbV1⟩
      refine ⟨⟨by decide, by decide, rfl⟩, [strV [97, 115, 107, 101, 114], strV (dig m.asker)], rfl, ?_⟩
      refine app_words [[97, 115, 107, 101, 114], dig m.asker] (T.below hbV1) rfl (by simp only [List.length_cons, List.length_nil]; omega) fun p' cap' W hW => ?_
      exact ⟨(p', cap'), ⟨.cons rfl (.cons (by dsimp only; rw [hw]; rfl) (.cons rfl .nil)), rfl⟩, by dsimp only; rw [hw]; exact hW⟩
    · have hc : m.asker = 0 := u8_eq.1 (nqf h)
      have hw : w2 m = w1 m := by unfold w2; rw [if_pos hc, List.append_nil]
      exact ⟨(p, cap), ⟨.cons rfl (.cons (by dsimp only; rw [hw]; rfl) (.cons rfl .nil)), rfl⟩, by dsimp only; rw [hw]; exact T⟩
  clear T p cap V
  rintro ⟨p, cap⟩ V T
  refine ⟨Option Addr × Nat, fun s => ⟨txEnv w s.1 (w3 m).length s.2, []⟩, fun s V => TxS w m s.1 s.2 (w3 m) V, ?_, ?_⟩
  · refine ⟨_, cells_at (cells_block T.box) (i := 5) rfl, ?_⟩
    refine And.intro (fun h => ?_) (fun h => ?_)
    · have hc : ¬ m.acks = 0 := fun e => nqt h (by rw [e]; rfl)
      have hw : w3 m = w2 m ++ [[97, 99, 107, 115], dig m.acks] := by unfold w3; rw [if_neg hc]
      refine ⟨_, cells_at (cells_block T.box) (i := 5) rfl, ?_⟩
      refine Calls.mono (number_c m.acks _ (hg.below T.bel)) ?_
      rintro e V1 ⟨rfl, hbV1⟩
      refine ⟨⟨by decide, by decide, rfl⟩, [strV [97, 99, 107, 115], strV (dig m.acks)], rfl, ?_⟩
      refine app_words [[97, 99, 107, 115], dig m.acks] (T.below hbV1) rfl (by simp only [List.length_cons, List.length_nil]; omega) fun p' cap' W hW => ?_
      exact ⟨(p', cap'), ⟨.cons rfl (.cons (by dsimp only; rw [hw]; rfl) (.cons rfl .nil)), rfl⟩, by dsimp only; rw [hw]; exact hW⟩
    · have hc : m.acks = 0 := u8_eq.1 (nqf h)
      have hw : w3 m = w2 m := by unfold w3; rw [if_pos hc, List.append_nil]
      exact ⟨(p, cap), ⟨.cons rfl (.cons (by dsimp only; rw [hw]; rfl) (.cons rfl .nil)), rfl⟩, by dsimp only; rw [hw]; exact T⟩
  clear T p cap V
  rintro ⟨p, cap⟩ V T
  refine ⟨Option Addr × Nat, fun s => ⟨txEnv w s.1 (w4 m).length s.2, []⟩, fun s V => TxS w m s.1 s.2 (w4 m) V, ?_, ?_⟩
  · refine ⟨_, cells_at (cells_block T.box) (i := 6) rfl, ?_⟩
    refine And.intro (fun h => ?_) (fun h => ?_)
    · have hw : w4 m = w3 m ++ [[97, 108, 111, 110, 101]] := by unfold w4; rw [if_pos h]
      refine ⟨⟨by decide, by decide, rfl⟩, [strV [97, 108, 111, 110, 101]], rfl, ?_⟩
      refine app_words [[97, 108, 111, 110, 101]] T rfl (by simp only [List.length_cons, List.length_nil]; omega) fun p' cap' W hW => ?_
      exact ⟨(p', cap'), ⟨.cons rfl (.cons (by dsimp only; rw [hw]; rfl) (.cons rfl .nil)), rfl⟩, by dsimp only; rw [hw]; exact hW⟩
    · have hw : w4 m = w3 m := by unfold w4; rw [if_neg (by rw [h]; decide), List.append_nil]
      exact ⟨(p, cap), ⟨.cons rfl (.cons (by dsimp only; rw [hw]; rfl) (.cons rfl .nil)), rfl⟩, by dsimp only; rw [hw]; exact T⟩
  clear T p cap V
  rintro ⟨p, cap⟩ V T
  refine ⟨Option Addr × Nat, fun s => ⟨txEnv w s.1 (w5 m).length s.2, []⟩, fun s V => TxS w m s.1 s.2 (w5 m) V, ?_, ?_⟩
  · refine ⟨dcells m.d0 m.d1 m.d2 m.d3, rfl, cells_sub (n := 7) (m := 4) (cells_block T.box), hlt T.box, ?_⟩
    refine ⟨dcells 0 0 0 0, rfl, ?_⟩
    refine ⟨_, fun w => neq_data _ _ _ _ _ _ _ _ _ _ w, ?_⟩
    refine And.intro (fun h => ?_) (fun h => ?_)
    · have hc : ¬ (m.d0 = 0 ∧ m.d1 = 0 ∧ m.d2 = 0 ∧ m.d3 = 0) := fun ⟨a, b, c, d⟩ => by rw [a, b, c, d] at h; simp at h
      have hw : w5 m = w4 m ++ [[100, 97, 116, 97]] ++ [m.d0, m.d1, m.d2, m.d3].map dig := by unfold w5; rw [if_neg hc, List.append_assoc]; rfl
      refine ⟨⟨by decide, by decide, rfl⟩, [strV [100, 97, 116, 97]], rfl, ?_⟩
      refine app_words [[100, 97, 116, 97]] T rfl (by simp only [List.length_cons, List.length_nil]; omega) fun p1 cap1 W hW => ?_
      refine ⟨dcells m.d0 m.d1 m.d2 m.d3, rfl, cells_sub (n := 7) (m := 4) (cells_block hW.box), hlt hW.box, ?_⟩
      refine ⟨Nat × Option Addr × Nat, fun s => ⟨txEnv w s.2.1 (w4 m ++ [[100, 97, 116, 97]] ++ ([m.d0, m.d1, m.d2, m.d3].take s.1).map dig).length s.2.2 ++ [(75, .agg (dcells m.d0 m.d1 m.d2 m.d3).toArray), (76, .int .i64 s.1)], []⟩,
        fun s V => s.1 ≤ 4 ∧ TxS w m s.2.1 s.2.2 (w4 m ++ [[100, 97, 116, 97]] ++ ([m.d0, m.d1, m.d2, m.d3].take s.1).map dig) V, fun s => 4 - s.1, (0, p1, cap1),
        ⟨.cons rfl (.cons (by dsimp only [List.take, List.map]; rw [List.append_nil]; rfl) (.cons rfl (.cons rfl (.cons rfl .nil)))), rfl⟩, ⟨by dsimp only; omega, by dsimp only [List.take, List.map]; rw [List.append_nil]; exact hW⟩, ?_⟩
      rintro ⟨k, q, qc⟩ X ⟨hk, hX⟩
      dsimp only at hk hX
      refine And.intro (fun h => ?_) (fun h => ?_)
      · have h : (k : Int) < 4 := of_decide_eq_true h
        refine ⟨k, rfl, by omega, ?_⟩
        have hk4 : k = 0 ∨ k = 1 ∨ k = 2 ∨ k = 3 := by omega
        rcases hk4 with rfl | rfl | rfl | rfl
        · refine Calls.mono (number_c m.d0 _ (hg.below hX.bel)) ?_
          rintro e X1 ⟨rfl, hbX1⟩
          refine ⟨⟨by decide, by decide, rfl⟩, [strV (dig m.d0)], rfl, ?_⟩
          refine app_words [dig m.d0] (hX.below hbX1) rfl (by simp; omega) fun p' cap' W hW => ?_
          refine ⟨1, (wrap_i64 (by omega)).trans (by omega), ?_⟩
          rw [List.append_assoc (w4 m ++ [[100, 97, 116, 97]])] at hW ⊢
          exact ⟨(1, p', cap'), ⟨.cons rfl (.cons rfl (.cons rfl (.cons rfl (.cons rfl .nil)))), rfl⟩, ⟨by dsimp only; omega, hW⟩, by dsimp only; omega⟩
        · refine Calls.mono (number_c m.d1 _ (hg.below hX.bel)) ?_
          rintro e X1 ⟨rfl, hbX1⟩
          refine ⟨⟨by decide, by decide, rfl⟩, [strV (dig m.d1)], rfl, ?_⟩
          refine app_words [dig m.d1] (hX.below hbX1) rfl (by simp; omega) fun p' cap' W hW => ?_
          refine ⟨2, (wrap_i64 (by omega)).trans (by omega), ?_⟩
          rw [List.append_assoc (w4 m ++ [[100, 97, 116, 97]])] at hW ⊢
          exact ⟨(2, p', cap'), ⟨.cons rfl (.cons rfl (.cons rfl (.cons rfl (.cons rfl .nil)))), rfl⟩, ⟨by dsimp only; omega, hW⟩, by dsimp only; omega⟩
        · refine Calls.mono (number_c m.d2 _ (hg.below hX.bel)) ?_
          rintro e X1 ⟨rfl, hbX1⟩
          refine ⟨⟨by decide, by decide, rfl⟩, [strV (dig m.d2)], rfl, ?_⟩
          refine app_words [dig m.d2] (hX.below hbX1) rfl (by simp; omega) fun p' cap' W hW => ?_
          refine ⟨3, (wrap_i64 (by omega)).trans (by omega), ?_⟩
          rw [List.append_assoc (w4 m ++ [[100, 97, 116, 97]])] at hW ⊢
          exact ⟨(3, p', cap'), ⟨.cons rfl (.cons rfl (.cons rfl (.cons rfl (.cons rfl .nil)))), rfl⟩, ⟨by dsimp only; omega, hW⟩, by dsimp only; omega⟩
        · refine Calls.mono (number_c m.d3 _ (hg.below hX.bel)) ?_
          rintro e X1 ⟨rfl, hbX1⟩
          refine ⟨⟨by decide, by decide, rfl⟩, [strV (dig m.d3)], rfl, ?_⟩
          refine app_words [dig m.d3] (hX.below hbX1) rfl (by simp; omega) fun p' cap' W hW => ?_
          refine ⟨4, (wrap_i64 (by omega)).trans (by omega), ?_⟩
          rw [List.append_assoc (w4 m ++ [[100, 97, 116, 97]])] at hW ⊢
          exact ⟨(4, p', cap'), ⟨.cons rfl (.cons rfl (.cons rfl (.cons rfl (.cons rfl .nil)))), rfl⟩, ⟨by dsimp only; omega, hW⟩, by dsimp only; omega⟩
      · have h : ¬ (k : Int) < 4 := of_decide_eq_false h
        have hk4 : k = 4 := by omega
        subst hk4
        exact ⟨(q, qc), ⟨.cons rfl (.cons (by dsimp only; rw [hw]; rfl) (.cons rfl .nil)), rfl⟩, by dsimp only; rw [hw]; exact hX⟩
    · have hc : m.d0 = 0 ∧ m.d1 = 0 ∧ m.d2 = 0 ∧ m.d3 = 0 := by
        have h : (decide (m.d0 = 0) && decide (m.d1 = 0) && decide (m.d2 = 0) && decide (m.d3 = 0)) = true := by simpa using h
        simp only [Bool.and_eq_true, decide_eq_true_eq] at h
        exact ⟨h.1.1.1, h.1.1.2, h.1.2, h.2⟩
      have hw : w5 m = w4 m := by unfold w5; rw [if_pos hc, List.append_nil]
      exact ⟨(p, cap), ⟨.cons rfl (.cons (by dsimp only; rw [hw]; rfl) (.cons rfl .nil)), rfl⟩, by dsimp only; rw [hw]; exact T⟩
  clear T p cap V
  rintro ⟨p, cap⟩ V T
  have hne : 0 < (w5 m).length := by unfold w5 w4 w3 w2 w1; simp; omega
  rcases T.own.inv with ⟨_, _, e3⟩ | ⟨g, cur, e1, _, hgr, hlc, _, _, htk⟩
  · rw [e3] at hne; cases hne
  dsimp only at e1 hlc
  subst e1
  have hrow := T.own.row
  obtain ⟨bk, o, he, hbk, hc⟩ := hrow.at hne
  cases he
  have hmm : ((w5 m).map bs).map (fun x => x.data.toList) = w5 m := by rw [List.map_map]; exact List.map_id _
  have hjl := join_len (w5 m) (w_word m)
  have hJ := Tryz.strings_Join g 0 cap ((w5 m).map bs) (bs [32]) V (fun j x hx => by
      rw [List.getElem?_map, Option.map_eq_some_iff] at hx
      obtain ⟨a, ha, rfl⟩ := hx
      obtain ⟨hj, rfl⟩ := List.getElem?_eq_some_iff.1 ha
      have := cells_head (hc j hj)
      rwa [show strE.sz = 1 from rfl, Nat.mul_one] at this) hbk (by rw [List.length_map]; omega) (by rw [List.length_map]; exact hlc) (by rw [hmm]; show (Lib.join (w5 m) [32]).length ≤ _; omega)
  rw [List.length_map, hmm] at hJ
  refine Calls.mono hJ ?_
  rintro e W ⟨rfl, hbW⟩
  exact And.intro rfl (T.bel.trans (hbW.mono T.bel.size))
end Go.Proofs.YtkekidalckflhaaGreatDoor
namespace Go.Proofs.YtkekidalckflhaaGreatDoor
open Go.Vc Go.RowKit Go.Sei

theorem eql_str (x y : Operand) (a b : List UInt8) (w : World) : (do eqGuard .eql 9 x y (strV a) (strV b); binOp .eql 9 (strV a) (strV b)).run Tryz.prog w = .ok (.bool (decide (a = b))) w := by
  have h1 : (eqGuard .eql 9 x y (strV a) (strV b)).run Tryz.prog w = .ok () w := rfl
  rw [Sem.run_bind, h1, Result.andThen_ok]
  show (Op.stringOp .eql (bs a) (bs b)).run Tryz.prog w = _
  simp only [Op.stringOp, Sem.run_pure, ByteArray.toList_eq, bs_list]
  have hd : (a == b) = decide (a = b) := by by_cases h : a = b <;> simp [h]
  rw [hd]
theorem neq_str (x y : Operand) (a b : List UInt8) (w : World) : (do eqGuard .neq 9 x y (strV a) (strV b); binOp .neq 9 (strV a) (strV b)).run Tryz.prog w = .ok (.bool (!decide (a = b))) w := by
  have h1 : (eqGuard .neq 9 x y (strV a) (strV b)).run Tryz.prog w = .ok () w := rfl
  rw [Sem.run_bind, h1, Result.andThen_ok]
  show (Op.stringOp .neq (bs a) (bs b)).run Tryz.prog w = _
  simp only [Op.stringOp, Sem.run_pure, ByteArray.toList_eq, bs_list]
  have hd : (a == b) = decide (a = b) := by by_cases h : a = b <;> simp [h]
  rw [hd]
theorem partE_at {off sz : Nat} {cs : List Value} {v : Value} {K : Value → Prop} (h : cs[off]? = some v) (k : K v) : partE off sz false cs K := by
  unfold partE; rw [h]; exact k

/-- What the words are read into: the words that are left, and whether all went well. -/
abbrev Wst := List (List UInt8) × Bool
def nxt (st : Wst) : List UInt8 × Wst := match st.1 with
  | [] => ([], ([], false))
  | w :: r => (w, (r, st.2))
def num (s : List UInt8) (st : Wst) : UInt8 × Wst := match Lib.parseUintB 8 s with
  | .ok u => (UInt8.ofNat u, st)
  | _ => (0, (st.1, false))
def skp (w : List UInt8) (st : Wst) : Bool × Wst := match st.1 with
  | [] => (false, st)
  | x :: r => if x = w then (true, (r, st.2)) else (false, st)

/-- The boxes of a scan, from block b on: the words, the message, 'ok', the closure 'next'. -/
structure Sc (w0 : World) (st : Wst) (m : Msg) (V : World) : Prop where
  w : ∃ p cap, V.heap[w0.heap.size]? = some (.cells #[.slice p st.1.length cap] 36 (0, 0)) ∧ SlR strE w0 p st.1 ∧ st.1.length ≤ cap
  m : V.heap[w0.heap.size + 1]? = some (.cells m.val.cells 27 (0, 0))
  o : V.heap[w0.heap.size + 2]? = some (.cells #[.bool st.2] 4 (0, 0))
  n : V.heap[w0.heap.size + 3]? = some (.cells #[.func (.func 51) #[] #[.pointer (some ⟨w0.heap.size, 0, none⟩), .pointer (some ⟨w0.heap.size + 2, 0, none⟩)]] 75 (0, 0))
  bel : Below w0.heap.size w0 V
  glob : GlobM w0
  short : ∀ x ∈ st.1, x.length ≤ 4294967280
theorem Sc.below {w0 V V2 : World} {st : Wst} {m : Msg} (h : Sc w0 st m V) (hb : Below V.heap.size V V2) : Sc w0 st m V2 := by
  obtain ⟨⟨p, cap, h1, h2, h3⟩, h4, h5, h6, h7, h8, h9⟩ := h
  exact ⟨⟨p, cap, block_below hb h1, h2, h3⟩, block_below hb h4, block_below hb h5, block_below hb h6, h7.trans (hb.mono h7.size), h8, h9⟩
theorem Sc.lt {w0 V : World} {st : Wst} {m : Msg} (h : Sc w0 st m V) : w0.heap.size + 3 < V.heap.size := hlt h.n

theorem next_c (w0 : World) (st : Wst) (m : Msg) (V : World) (h : Sc w0 st m V) :
    Calls Tryz.prog 51 #[.pointer (some ⟨w0.heap.size, 0, none⟩), .pointer (some ⟨w0.heap.size + 2, 0, none⟩)] V fun e V' => e = .returned (strV (nxt st).1) ∧ Sc w0 (nxt st).2 m V' := by
  obtain ⟨⟨p, cap, f1, hr, hc⟩, fm, fo, fn, hb, hg, hsh⟩ := h
  refine calls_of_E (S := sg 13) (sgOk _) (args := [.pointer (some ⟨w0.heap.size, 0, none⟩), .pointer (some ⟨w0.heap.size + 2, 0, none⟩)]) Tryz.func51 rfl rfl (Nat.le_of_ble_eq_true rfl) rfl ?_
  refine ⟨_, cells_head (cells_block f1), ?_⟩
  refine And.intro (fun h => ?_) (fun h => ?_)
  · have h : (st.1.length : Int) = 0 := of_decide_eq_true h
    have he : st.1 = [] := List.eq_nil_of_length_eq_zero (by omega)
    have hn : nxt st = ([], ([], false)) := by unfold nxt; rw [he]
    refine store_box (v := .bool false) (ttOk.get 4 _ rfl) fo (by rfl) rfl (by rfl) ?_
    rw [hn]
    refine And.intro rfl ⟨⟨p, cap, ?_, .nil, Nat.zero_le _⟩, (setRow_old (by omega)).trans fm, setRow_new fo, (setRow_old (by omega)).trans fn, below_setRow hb (by omega) _, hg, fun x hx => by cases hx⟩
    rw [he] at f1
    exact (setRow_old (by omega)).trans f1
  · have h : ¬ (st.1.length : Int) = 0 := of_decide_eq_false h
    obtain ⟨x, r, he⟩ : ∃ x r, st.1 = x :: r := by
      cases hs : st.1 with
      | nil => rw [hs] at h; simp at h
      | cons x r => exact ⟨x, r, rfl⟩
    have hn : nxt st = (x, (r, st.2)) := by unfold nxt; rw [he]
    have hlen : st.1.length = r.length + 1 := by rw [he]; rfl
    have hr' := hr
    rw [he] at hr'
    obtain ⟨bk, o, hp, hbk, hcl⟩ := hr'.at (i := 0) (by simp)
    subst hp
    refine ⟨_, cells_head (cells_block f1), ?_⟩
    refine ⟨0, rfl, by omega, ?_⟩
    have hx := cells_head (cells_below hb (hcl 0 (by simp)))
    refine ⟨_, hx, ?_⟩
    refine ⟨_, cells_head (cells_block f1), ?_⟩
    refine ⟨1, rfl, by omega, ?_⟩
    refine store_box (ttOk.get 36 _ rfl) f1 (by rfl) rfl (by rfl) ?_
    rw [hn]
    have hsub := hr'.sub (cap := cap) (lo := 1) (hi := (x :: r).length) (by simp) (Nat.le_refl _) (by rw [← he]; exact hc)
    have hd : ((x :: r).drop 1).take ((x :: r).length - 1) = r := by simp
    rw [hd] at hsub
    refine And.intro rfl ⟨⟨cutBase (some ⟨bk, o, none⟩) cap 1 1, cap - 1, ?_, hsub, by dsimp only; omega⟩, (setRow_old (by omega)).trans fm, (setRow_old (by omega)).trans fo, (setRow_old (by omega)).trans fn, below_setRow hb (Nat.le_refl _) _, hg, fun y hy => hsh y (by rw [he]; exact List.mem_cons_of_mem _ hy)⟩
    have e1 : r.length = st.1.length - 1 := by omega
    dsimp only
    rw [e1]
    exact setRow_new f1
end Go.Proofs.YtkekidalckflhaaGreatDoor
namespace Go.Proofs.YtkekidalckflhaaGreatDoor
open Go.Vc Go.RowKit Go.Sei

theorem eq_nil0 (d : Nat) (w : World) : (Op.equalIn (d + 1) 72 .nilIface .nilIface).run Tryz.prog w = .ok true w := by
  simp [Op.equalIn, run_underlying Tryz.underlying72]
theorem eq_nil1 (d : Nat) (t : TypeId) (v : Value) (w : World) : (Op.equalIn (d + 1) 72 (.iface t v) .nilIface).run Tryz.prog w = .ok false w := by
  simp [Op.equalIn, run_underlying Tryz.underlying72]
theorem neq_nil0 (x : Operand) (w : World) : (do eqGuard .neq 72 x (.const .nilIface) .nilIface .nilIface; binOp .neq 72 .nilIface .nilIface).run Tryz.prog w = .ok (.bool false) w := by
  have h : (Op.equal 72 .nilIface .nilIface).run Tryz.prog w = .ok true w := eq_nil0 9999 w
  have h1 : (eqGuard .neq 72 x (.const .nilIface) .nilIface .nilIface).run Tryz.prog w = .ok () w := by
    simp [eqGuard]
  rw [Sem.run_bind, h1]
  simp only [Result.andThen_ok, binOp, Sem.run_bind, h, Sem.run_pure]; rfl
theorem neq_nil1 (x : Operand) (t : TypeId) (v : Value) (w : World) : (do eqGuard .neq 72 x (.const .nilIface) (.iface t v) .nilIface; binOp .neq 72 (.iface t v) .nilIface).run Tryz.prog w = .ok (.bool true) w := by
  have h : (Op.equal 72 (.iface t v) .nilIface).run Tryz.prog w = .ok false w := eq_nil1 9999 t v w
  have h1 : (eqGuard .neq 72 x (.const .nilIface) (.iface t v) .nilIface).run Tryz.prog w = .ok () w := by
    simp [eqGuard]
  rw [Sem.run_bind, h1]
  simp only [Result.andThen_ok, binOp, Sem.run_bind, h, Sem.run_pure]; rfl
theorem wrap_u8_nat (u : Nat) : IntKind.u8.wrap (u : Int) = ((UInt8.ofNat u).toNat : Int) := by
  rw [UInt8.toNat_ofNat']
  unfold IntKind.wrap
  simp only [IntKind.bits, IntKind.signed, Bool.false_and, Bool.false_eq_true, if_false]
  omega

theorem num_c (s : List UInt8) (hs : s.length ≤ 4294967280) (w0 : World) (st : Wst) (m : Msg) (V : World) (h : Sc w0 st m V) :
    Calls Tryz.prog 52 #[strV s, .pointer (some ⟨w0.heap.size + 2, 0, none⟩)] V fun e V' => e = .returned (u8 (num s st).1) ∧ Sc w0 (num s st).2 m V' := by
  refine calls_of_E (S := sg 15) (sgOk _) (args := [strV s, .pointer (some ⟨w0.heap.size + 2, 0, none⟩)]) Tryz.func52 rfl rfl (Nat.le_of_ble_eq_true rfl) rfl ?_
  have hg := h.glob.below h.bel
  have hsz : (bs s).size = s.length := rfl
  have hl := h.lt
  have bad : ∀ V1, Sc w0 st m V1 → Sc w0 (st.1, false) m (V1.setRow (w0.heap.size + 2) #[.bool false]) := fun V1 h => by
    obtain ⟨⟨p, cap, f1, hr, hc⟩, fm, fo, fn, hb, hg, hsh⟩ := h
    exact ⟨⟨p, cap, (setRow_old (by omega)).trans f1, hr, hc⟩, (setRow_old (by omega)).trans fm, setRow_new fo, (setRow_old (by omega)).trans fn, below_setRow hb (by omega) _, hg, hsh⟩
  cases hp : Lib.parseUintB 8 s
  · rename_i u
    have hn : num s st = (UInt8.ofNat u, st) := by unfold num; rw [hp]
    refine Calls.mono (Tryz.strconv_ParseUint_10_at8_ok (bs s) (by omega) u hp V) ?_
    rintro e V1 ⟨rfl, hV⟩
    have hb1 : Below V.heap.size V V1 := by
      rcases hV with rfl | rfl
      · exact Below.refl _ _
      · exact Go.Joins.below_bytesWorld _ _ _ _ (Nat.le_refl _)
    refine ⟨_, fun w => neq_nil0 _ w, ?_⟩
    refine And.intro (fun h => by cases h) (fun _ => ?_)
    rw [hn]
    refine ⟨((UInt8.ofNat u).toNat : Int), wrap_u8_nat u, ?_⟩
    exact And.intro rfl (h.below hb1)
  · have hn : num s st = (0, (st.1, false)) := by unfold num; rw [hp]
    obtain ⟨ev, he, he2⟩ := hg.syn
    refine Calls.mono (Any.strconv_ParseUint_10_at8_syntax Tryz.laysPu14 (bs s) (by omega) hp ev V he he2) ?_
    rintro e V1 ⟨N, rfl, _, _, hb1⟩
    refine ⟨_, fun w => neq_nil1 _ _ _ w, ?_⟩
    refine And.intro (fun _ => ?_) (fun h => by cases h)
    have h1 := h.below hb1
    refine store_box (v := .bool false) (ttOk.get 4 _ rfl) h1.o (by rfl) rfl (by rfl) ?_
    rw [hn]
    exact And.intro rfl (bad V1 h1)
  · have hn : num s st = (0, (st.1, false)) := by unfold num; rw [hp]
    obtain ⟨ev, he, he2⟩ := hg.rng
    refine Calls.mono (Tryz.strconv_ParseUint_10_at8_range (bs s) (by omega) hp ev V he he2) ?_
    rintro e V1 ⟨N, rfl, _, _, hb1⟩
    refine ⟨_, fun w => neq_nil1 _ _ _ w, ?_⟩
    refine And.intro (fun _ => ?_) (fun h => by cases h)
    have h1 := h.below hb1
    refine store_box (v := .bool false) (ttOk.get 4 _ rfl) h1.o (by rfl) rfl (by rfl) ?_
    rw [hn]
    exact And.intro rfl (bad V1 h1)

theorem skip_c (wd : List UInt8) (w0 : World) (st : Wst) (m : Msg) (V : World) (h : Sc w0 st m V) :
    Calls Tryz.prog 54 #[strV wd, .pointer (some ⟨w0.heap.size, 0, none⟩), .pointer (some ⟨w0.heap.size + 3, 0, none⟩)] V fun e V' => e = .returned (.bool (skp wd st).1) ∧ Sc w0 (skp wd st).2 m V' := by
  refine calls_of_E (S := sg 17) (sgOk _) (args := [strV wd, .pointer (some ⟨w0.heap.size, 0, none⟩), .pointer (some ⟨w0.heap.size + 3, 0, none⟩)]) Tryz.func54 rfl rfl (Nat.le_of_ble_eq_true rfl) rfl ?_
  obtain ⟨p, cap, f1, hr, hc⟩ := h.w
  refine ⟨_, cells_head (cells_block f1), ?_⟩
  refine And.intro (fun h0 => ?_) (fun h0 => ?_)
  · have h0 : (st.1.length : Int) = 0 := of_decide_eq_true h0
    have he : st.1 = [] := List.eq_nil_of_length_eq_zero (by omega)
    have hn : skp wd st = (false, st) := by unfold skp; rw [he]
    refine And.intro (fun _ => ?_) (fun h => by cases h)
    rw [hn]
    exact And.intro rfl h
  · have h0 : ¬ (st.1.length : Int) = 0 := of_decide_eq_false h0
    obtain ⟨x, r, he⟩ : ∃ x r, st.1 = x :: r := by
      cases hs : st.1 with
      | nil => rw [hs] at h0; simp at h0
      | cons x r => exact ⟨x, r, rfl⟩
    have hlen : st.1.length = r.length + 1 := by rw [he]; rfl
    have hr' := hr
    rw [he] at hr'
    obtain ⟨bk, o, hp, hbk, hcl⟩ := hr'.at (i := 0) (by simp)
    subst hp
    refine ⟨_, cells_head (cells_block f1), ?_⟩
    refine ⟨0, rfl, by omega, ?_⟩
    have hx := cells_head (cells_below h.bel (hcl 0 (by simp)))
    refine ⟨_, hx, ?_⟩
    refine ⟨_, fun w => neq_str _ _ x wd w, ?_⟩
    refine And.intro (fun h1 => ?_) (fun h1 => ?_)
    · have h1 : ¬ x = wd := by simpa using h1
      have hn : skp wd st = (false, st) := by unfold skp; rw [he]; simp only [if_neg h1]
      rw [hn]
      exact And.intro rfl h
    · have h1 : x = wd := by simpa using h1
      have hn : skp wd st = (true, (r, st.2)) := by unfold skp; rw [he]; simp only [if_pos h1]
      have hnx : nxt st = (x, (r, st.2)) := by unfold nxt; rw [he]
      refine ⟨_, cells_head (cells_block h.n), ?_⟩
      refine Calls.mono (next_c w0 st m V h) ?_
      rintro e V1 ⟨rfl, h2⟩
      rw [hnx] at h2
      rw [hn]
      exact And.intro rfl h2

def kindL (s : List UInt8) : UInt8 := if kindNames.idxOf s < 13 then UInt8.ofNat (kindNames.idxOf s) else 0
theorem kindOf_c (s : List UInt8) (w : World) (hg : GlobM w) : Calls Tryz.prog 55 #[strV s] w fun e w' => e = .returned (u8 (kindL s)) ∧ w = w' := by
  refine calls_of_E (S := sg 16) (sgOk _) (args := [strV s]) Tryz.func55 rfl rfl (Nat.le_of_ble_eq_true rfl) rfl ?_
  refine ⟨kindNames.map strV, rfl, hg.nms, hg.lt, ?_⟩
  refine ⟨Nat, fun k => ⟨[(0, strV s), (5, .agg (kindNames.map strV).toArray), (6, .int .i64 (k : Nat))], []⟩, fun k V => k ≤ 13 ∧ (∀ j (hj : j < kindNames.length), j < k → kindNames[j] ≠ s) ∧ w = V, fun k => 13 - k, 0,
    ⟨.cons rfl (.cons rfl (.cons rfl .nil)), rfl⟩, ⟨Nat.zero_le _, fun _ _ h => absurd h (by omega), rfl⟩, ?_⟩
  rintro k _ ⟨hk, hno, rfl⟩
  refine And.intro (fun h => ?_) (fun h => ?_)
  · have h : (k : Int) < 13 := of_decide_eq_true h
    have hkl : k < kindNames.length := by show k < 13; omega
    refine ⟨k, rfl, by omega, ?_⟩
    have hget : (kindNames.map strV)[k * 1]? = some (strV kindNames[k]) := by
      rw [Nat.mul_one, List.getElem?_map, List.getElem?_eq_getElem hkl]; rfl
    refine partE_at hget ?_
    refine ⟨_, fun w => eql_str _ _ kindNames[k] s w, ?_⟩
    refine And.intro (fun h1 => ?_) (fun h1 => ?_)
    · have h1 : kindNames[k] = s := of_decide_eq_true h1
      have hi : kindNames.idxOf s = k := by
        have h2 : kindNames.idxOf s ≤ k := by
          refine Nat.le_of_not_lt fun hlt2 => ?_
          have hlt2 : k < kindNames.findIdx (fun x => x == s) := hlt2
          have := List.not_of_lt_findIdx hlt2
          simp [h1] at this
        have h3 : kindNames.idxOf s < kindNames.length := by omega
        have h4 : kindNames[kindNames.idxOf s] = s := List.getElem_idxOf h3
        rcases Nat.lt_or_ge (kindNames.idxOf s) k with h5 | h5
        · exact absurd h4 (hno _ h3 h5)
        · omega
      refine ⟨((UInt8.ofNat k).toNat : Int), wrap_u8_nat k, ?_⟩
      refine And.intro ?_ rfl
      unfold kindL; rw [hi, if_pos (by omega)]; rfl
    · have h1 : ¬ kindNames[k] = s := of_decide_eq_false h1
      refine ⟨(k + 1 : Nat), (wrap_i64 (by omega)).trans (by omega), ?_⟩
      refine ⟨k + 1, ⟨.cons rfl (.cons rfl (.cons rfl .nil)), rfl⟩, ⟨by omega, fun j hj hjk => ?_, rfl⟩, by dsimp only; omega⟩
      by_cases e : j = k
      · subst e; exact h1
      · exact hno j hj (by omega)
  · have h : ¬ (k : Int) < 13 := of_decide_eq_false h
    have hi : ¬ kindNames.idxOf s < 13 := fun h3 => by
      have h3 : kindNames.idxOf s < kindNames.length := h3
      exact hno _ h3 (by have : kindNames.length = 13 := rfl; omega) (List.getElem_idxOf h3)
    refine And.intro ?_ rfl
    unfold kindL; rw [if_neg hi]; rfl
end Go.Proofs.YtkekidalckflhaaGreatDoor
namespace Go.Proofs.YtkekidalckflhaaGreatDoor
open Go.Vc Go.RowKit Go.Sei

def zeroM : Msg := ⟨0, 0, 0, 0, 0, 0, false, 0, 0, 0, 0⟩
def rd (f : UInt8 → Msg → Msg) (s : Msg × Wst) : Msg × Wst := (f (num (nxt s.2).1 (nxt s.2).2).1 s.1, (num (nxt s.2).1 (nxt s.2).2).2)
def c0 (ws : List (List UInt8)) : Msg × Wst := if (skp [107, 105, 110, 100] (ws, true)).1 then rd (fun n m => { m with kind := n }) (zeroM, (skp [107, 105, 110, 100] (ws, true)).2)
  else ({ zeroM with kind := kindL (nxt (skp [107, 105, 110, 100] (ws, true)).2).1 }, (nxt (skp [107, 105, 110, 100] (ws, true)).2).2)
def c1 (s : Msg × Wst) : Msg × Wst :=
  let x := nxt s.2
  let a := num (Lib.cut x.1 [62]).1 x.2
  let b := num (Lib.cut x.1 [62]).2.1 a.2
  ({ s.1 with from_ := a.1, «to» := b.1 }, b.2)
def c2 (s : Msg × Wst) : Msg × Wst := (s.1, ((skp [108, 105, 110, 101] s.2).2.1, (skp [108, 105, 110, 101] s.2).1 && (skp [108, 105, 110, 101] s.2).2.2))
def c3 (s : Msg × Wst) : Msg × Wst := rd (fun n m => { m with line := n }) s
def opt (wd : List UInt8) (f : Msg × Wst → Msg × Wst) (s : Msg × Wst) : Msg × Wst := if (skp wd s.2).1 then f (s.1, (skp wd s.2).2) else (s.1, (skp wd s.2).2)
def c4 (s : Msg × Wst) : Msg × Wst := opt [97, 115, 107, 101, 114] (rd fun n m => { m with asker := n }) s
def c5 (s : Msg × Wst) : Msg × Wst := opt [97, 99, 107, 115] (rd fun n m => { m with acks := n }) s
def c6 (s : Msg × Wst) : Msg × Wst := ({ s.1 with alone := (skp [97, 108, 111, 110, 101] s.2).1 }, (skp [97, 108, 111, 110, 101] s.2).2)
def r0 (s : Msg × Wst) : Msg × Wst := rd (fun n m => { m with d0 := n }) s
def r1 (s : Msg × Wst) : Msg × Wst := rd (fun n m => { m with d1 := n }) s
def r2 (s : Msg × Wst) : Msg × Wst := rd (fun n m => { m with d2 := n }) s
def r3 (s : Msg × Wst) : Msg × Wst := rd (fun n m => { m with d3 := n }) s
def c7 (s : Msg × Wst) : Msg × Wst := opt [100, 97, 116, 97] (fun s => r3 (r2 (r1 (r0 s)))) s
def dat (a : Msg × Wst) : Nat → Msg × Wst
  | 0 => a
  | 1 => r0 a
  | 2 => r1 (r0 a)
  | 3 => r2 (r1 (r0 a))
  | _ => r3 (r2 (r1 (r0 a)))
def scanS (ws : List (List UInt8)) : Msg × Wst := c7 (c6 (c5 (c4 (c3 (c2 (c1 (c0 ws)))))))
def scanL (ws : List (List UInt8)) : Msg × Bool := ((scanS ws).1, (scanS ws).2.2 && decide (((scanS ws).2.1.length : Int) = 0))

theorem nxt_short {st : Wst} (h : ∀ x ∈ st.1, x.length ≤ 4294967280) : (nxt st).1.length ≤ 4294967280 := by
  unfold nxt
  split
  · simp
  · rename_i w r hs; exact h w (by rw [hs]; simp)
theorem cut_short (s sep : List UInt8) : (Lib.cut s sep).1.length ≤ s.length ∧ (Lib.cut s sep).2.1.length ≤ s.length := by
  unfold Lib.cut
  split <;> simp <;> omega
theorem drewN_below (w : World) (n : Nat) : Below w.heap.size w (w.drewN n) := ⟨rfl, rfl, rfl, Nat.le_refl _, fun _ _ => rfl⟩

section
variable {w0 V : World} {st : Wst} {m : Msg}
theorem Sc.set {T : TypeId} {iT : TI} (h : Sc w0 st m V) (hT : TIok Tryz.prog T iT) (hs : iT.size = 1) {o : Nat} {v : Value} (ho : o < 11) (hv : v.cells = #[v]) (h1 : v.oneCell' = true) (m' : Msg) (he : m.enc.take o ++ [v] ++ m.enc.drop (o + 1) = m'.enc)
    {K : World → Prop} (k : ∀ V', Sc w0 st m' V' → K V') : SatR ((storeVar T ⟨w0.heap.size + 1, o, none⟩ v).run Tryz.prog V) fun _ w' => K w' := by
  have hl := h.lt
  refine store_cell hT hs h.m (by show o < 11; exact ho) hv h1 fun V' f g z => k V' ?_
  obtain ⟨⟨p, cap, f1, hr, hc⟩, fm, fo, fn, hb, hg, hsh⟩ := h
  have hoth : ∀ j, j < V.heap.size → j ≠ w0.heap.size + 1 → V'.heap[j]? = V.heap[j]? := fun j hj hne => g.block j hj (fun e => hne (by simpa using e))
  refine ⟨⟨p, cap, (hoth _ (by omega) (by omega)).trans f1, hr, hc⟩, ?_, (hoth _ (by omega) (by omega)).trans fo, (hoth _ (by omega) (by omega)).trans fn, hb.grown g hb.size (fun j e => by simp at e; omega), hg, hsh⟩
  rw [f]
  have : m.val.cells.toList = m.enc := rfl
  rw [this, he]; rfl
theorem Sc.drew (h : Sc w0 st m V) : Sc w0 st m V.drew := h.below (Below.refl _ V).drew
theorem Sc.setM (h : Sc w0 st m V) {K : World → Prop} (k : ∀ V', Sc w0 st m V' → K V') : SatR ((storeVar 27 ⟨w0.heap.size + 1, 0, none⟩ m.val).run Tryz.prog V) fun _ w' => K w' := by
  have hl := h.lt
  obtain ⟨⟨p, cap, f1, hr, hc⟩, fm, fo, fn, hb, hg, hsh⟩ := h
  refine store_box (v := m.val) (ttOk.get 27 _ rfl) fm (by rfl) rfl (by rfl) (k _ ?_)
  exact ⟨⟨p, cap, (setRow_old (by omega)).trans f1, hr, hc⟩, setRow_new fm, (setRow_old (by omega)).trans fo, (setRow_old (by omega)).trans fn, below_setRow hb (by omega) _, hg, hsh⟩
theorem Sc.setOk (h : Sc w0 st m V) (b : Bool) {K : World → Prop} (k : ∀ V', Sc w0 (st.1, b) m V' → K V') : SatR ((storeVar 4 ⟨w0.heap.size + 2, 0, none⟩ (.bool b)).run Tryz.prog V) fun _ w' => K w' := by
  have hl := h.lt
  obtain ⟨⟨p, cap, f1, hr, hc⟩, fm, fo, fn, hb, hg, hsh⟩ := h
  refine store_box (v := .bool b) (ttOk.get 4 _ rfl) fo (by rfl) rfl (by rfl) (k _ ?_)
  exact ⟨⟨p, cap, (setRow_old (by omega)).trans f1, hr, hc⟩, (setRow_old (by omega)).trans fm, setRow_new fo, (setRow_old (by omega)).trans fn, below_setRow hb (by omega) _, hg, hsh⟩
end

abbrev scEnv (w : World) : VEnv := [(1, .pointer (some ⟨w.heap.size, 0, none⟩)), (2, .pointer (some ⟨w.heap.size + 1, 0, none⟩)), (3, .pointer (some ⟨w.heap.size + 2, 0, none⟩)), (4, .pointer (some ⟨w.heap.size + 3, 0, none⟩)),
  (5, .func (.func 52) #[] #[.pointer (some ⟨w.heap.size + 2, 0, none⟩)]), (6, .func (.func 54) #[] #[.pointer (some ⟨w.heap.size, 0, none⟩), .pointer (some ⟨w.heap.size + 3, 0, none⟩)])]

theorem scan_c (p : Option Addr) (cap : Nat) (ws : List (List UInt8)) (w : World) (hr : SlR strE w p ws) (hc : ws.length ≤ cap) (hg : GlobM w) (hsh : ∀ x ∈ ws, x.length ≤ 4294967280) :
    Calls Tryz.prog 36 #[.slice p ws.length cap] w fun e w' => e = .returned (.tuple #[(scanL ws).1.val, .bool (scanL ws).2]) ∧ Below w.heap.size w w' := by
  refine calls_of_M (S := sg 87) (sgOk _) (args := [.slice p ws.length cap]) (.s .p (.s .p (.s .p (.s .p (.c .p (.c .p (.s .p (.c .p (.c .p (.c .p (.c .p (.c .p (.c .p (.c .p .p))))))))))))))
    Tryz.func36 rfl rfl (Nat.le_of_ble_eq_true rfl) rfl ?_
  obtain ⟨X, hX⟩ : ∃ X, X = (w.alloc (.cells #[.slice p ws.length cap] 36)).alloc (.cells zeroM.val.cells 27) := ⟨_, rfl⟩
  have hXs : X.heap.size = w.heap.size + 2 := by rw [hX]; simp
  have fX0 : X.heap[w.heap.size]? = some (.cells #[.slice p ws.length cap] 36 (0, 0)) := by rw [hX]; exact hold _ (hnew w _)
  have fX1 : X.heap[w.heap.size + 1]? = some (.cells zeroM.val.cells 27 (0, 0)) := by
    have := hnew (w.alloc (.cells #[.slice p ws.length cap] 36)) (.cells zeroM.val.cells 27)
    rw [World.size_alloc] at this
    rw [hX]; exact this
  have hbX : Below w.heap.size w X := by rw [hX]; exact ((Below.refl _ _).alloc (Nat.le_refl _) _).alloc (by simp) _
  refine store_new (X := (w.alloc (.cells #[.slice p ws.length cap] 36)).alloc (.cells zeroM.val.cells 27)) (v := .bool true) (ttOk.get 4 _ rfl) (by rfl) rfl (by rfl) fun Y hbY fY sY => ?_
  rw [← hX] at hbY fY sY
  refine store_new (X := Y) (ttOk.get 75 _ rfl) (by rfl) rfl (by rfl) fun Z hbZ fZ sZ => ?_
  have hS : Sc w (ws, true) zeroM Z := by
    have hY0 := block_below hbY fX0
    have hY1 := block_below hbY fX1
    refine ⟨⟨p, cap, block_below hbZ hY0, hr, hc⟩, block_below hbZ hY1, ?_, ?_, hbX.trans ((hbY.trans (hbZ.mono hbY.size)).mono hbX.size), hg, hsh⟩
    · have := block_below hbZ fY
      rw [hXs] at this; exact this
    · rw [sY, hXs] at fZ
      rw [fZ]
      simp only [World.size_alloc]; rfl
  refine ⟨Unit, fun _ => ⟨scEnv w, []⟩, fun _ V => Sc w (ws, true) zeroM V, ?_, ?_⟩
  · refine ⟨(), ⟨?_, rfl⟩, hS⟩
    have e1 : (w.alloc (.cells #[.slice p ws.length cap] 36)).heap.size = w.heap.size + 1 := World.size_alloc _ _
    have e2 : ((w.alloc (.cells #[.slice p ws.length cap] 36)).alloc (.cells zeroM.val.cells 27)).heap.size = w.heap.size + 2 := by rw [← hX]; exact hXs
    have e3 : Y.heap.size = w.heap.size + 3 := by omega
    exact .cons rfl (.cons (by rw [← e1]; rfl) (.cons (by rw [← e2]; rfl) (.cons (by rw [← e3]; rfl) (.cons (by rw [← e2]; rfl) (.cons (by rw [← e3]; rfl) .nil)))))
  rintro _ V h
  refine ⟨Unit, fun _ => ⟨scEnv w, []⟩, fun _ V => Sc w (c0 ws).2 (c0 ws).1 V, ?_, ?_⟩
  · refine Calls.mono (skip_c [107, 105, 110, 100] w (ws, true) zeroM V h) ?_
    rintro e V1 ⟨rfl, h1⟩
    refine And.intro (fun hb => ?_) (fun hb => ?_)
    · refine ⟨_, cells_head (cells_block h1.n), ?_⟩
      refine Calls.mono (next_c w _ _ V1 h1) ?_
      rintro e V2 ⟨rfl, h2⟩
      refine Calls.mono (num_c _ (nxt_short h1.short) w _ _ V2 h2) ?_
      rintro e V3 ⟨rfl, h3⟩
      refine h3.set (ttOk.get 5 _ rfl) rfl (o := 0) (by decide) rfl rfl (c0 ws).1 (by unfold c0; rw [if_pos hb]; rfl) fun V4 h4 => ?_
      refine ⟨(), ⟨.cons rfl (.cons rfl (.cons rfl (.cons rfl (.cons rfl (.cons rfl .nil))))), rfl⟩, ?_⟩
      have : (c0 ws).2 = (rd (fun n m => { m with kind := n }) (zeroM, (skp [107, 105, 110, 100] (ws, true)).2)).2 := by unfold c0; rw [if_pos hb]
      rw [this]; exact h4
    · refine ⟨_, cells_head (cells_block h1.n), ?_⟩
      refine Calls.mono (next_c w _ _ V1 h1) ?_
      rintro e V2 ⟨rfl, h2⟩
      refine Calls.mono (kindOf_c _ V2 (h2.glob.below h2.bel)) ?_
      rintro e _ ⟨rfl, rfl⟩
      refine h2.set (ttOk.get 5 _ rfl) rfl (o := 0) (by decide) rfl rfl (c0 ws).1 (by unfold c0; rw [if_neg (by rw [hb]; decide)]; rfl) fun V4 h4 => ?_
      refine ⟨(), ⟨.cons rfl (.cons rfl (.cons rfl (.cons rfl (.cons rfl (.cons rfl .nil))))), rfl⟩, ?_⟩
      have : (c0 ws).2 = (nxt (skp [107, 105, 110, 100] (ws, true)).2).2 := by unfold c0; rw [if_neg (by rw [hb]; decide)]
      rw [this]; exact h4
-- STAGES
  obtain ⟨s, hs⟩ : ∃ s, s = c0 ws := ⟨_, rfl⟩
  rw [← hs]
  rintro _ V h
  refine ⟨_, cells_head (cells_block h.n), ?_⟩
  refine Calls.mono (next_c w _ _ V h) ?_
  rintro e V1 ⟨rfl, h1⟩
  obtain ⟨mm, hmm⟩ := (h1.glob.below h1.bel).max
  have hx := nxt_short h.short
  have hcs := cut_short (nxt s.2).1 [62]
  refine Calls.mono (Tryz.strings_Cut (bs (nxt s.2).1) (bs [62]) mm V1 (by show (nxt s.2).1.length < _; omega) hmm) ?_
  rintro e _ ⟨rfl, n, rfl⟩
  have h2 := h1.below (drewN_below V1 n)
  refine ⟨Unit, fun _ => ⟨scEnv w, []⟩, fun _ V => Sc w (c1 s).2 (c1 s).1 V, ?_, ?_⟩
  · refine Calls.mono (num_c (Lib.cut (nxt s.2).1 [62]).1 (by omega) w _ _ _ h2) ?_
    rintro e V3 ⟨rfl, h3⟩
    refine Calls.mono (num_c (Lib.cut (nxt s.2).1 [62]).2.1 (by omega) w _ _ _ h3) ?_
    rintro e V4 ⟨rfl, h4⟩
    refine h4.set (ttOk.get 5 _ rfl) rfl (o := 1) (by decide) rfl rfl { s.1 with from_ := (num (Lib.cut (nxt s.2).1 [62]).1 (nxt s.2).2).1 } rfl fun V5 h5 => ?_
    refine h5.set (ttOk.get 5 _ rfl) rfl (o := 2) (by decide) rfl rfl (c1 s).1 rfl fun V6 h6 => ?_
    exact ⟨(), ⟨.cons rfl (.cons rfl (.cons rfl (.cons rfl (.cons rfl (.cons rfl .nil))))), rfl⟩, h6⟩
  clear h h1 h2 hx hcs
  obtain ⟨s1, hs1⟩ : ∃ s1, s1 = c1 s := ⟨_, rfl⟩
  rw [← hs1]
  rintro _ V h
  refine ⟨Unit, fun _ => ⟨scEnv w, []⟩, fun _ V => Sc w (c2 s1).2 (c2 s1).1 V, ?_, ?_⟩
  · refine Calls.mono (skip_c [108, 105, 110, 101] w _ _ V h) ?_
    rintro e V1 ⟨rfl, h1⟩
    refine And.intro (fun hb => ?_) (fun hb => ?_)
    · refine ⟨_, cells_head (cells_block h1.o), ?_⟩
      refine h1.setOk _ fun V2 h2 => ?_
      refine ⟨(), ⟨.cons rfl (.cons rfl (.cons rfl (.cons rfl (.cons rfl (.cons rfl .nil))))), rfl⟩, ?_⟩
      have : (c2 s1).2 = ((skp [108, 105, 110, 101] s1.2).2.1, (skp [108, 105, 110, 101] s1.2).2.2) := by unfold c2; rw [hb, Bool.true_and]
      rw [this]; exact h2
    · refine h1.setOk _ fun V2 h2 => ?_
      refine ⟨(), ⟨.cons rfl (.cons rfl (.cons rfl (.cons rfl (.cons rfl (.cons rfl .nil))))), rfl⟩, ?_⟩
      have : (c2 s1).2 = ((skp [108, 105, 110, 101] s1.2).2.1, false) := by unfold c2; rw [hb, Bool.false_and]
      rw [this]; exact h2
  clear h
  obtain ⟨s2, hs2⟩ : ∃ s2, s2 = c2 s1 := ⟨_, rfl⟩
  rw [← hs2]
  rintro _ V h
  refine ⟨Unit, fun _ => ⟨scEnv w, []⟩, fun _ V => Sc w (c3 s2).2 (c3 s2).1 V, ?_, ?_⟩
  · have h' := h
    refine ⟨_, cells_head (cells_block h.n), ?_⟩
    refine Calls.mono (next_c w _ _ V h) ?_
    rintro e V8 ⟨rfl, h8⟩
    refine Calls.mono (num_c _ (nxt_short h.short) w _ _ V8 h8) ?_
    rintro e V9 ⟨rfl, h9⟩
    refine h9.set (ttOk.get 5 _ rfl) rfl (o := 3) (by decide) rfl rfl (c3 s2).1 rfl fun V10 h10 => ?_
    exact ⟨(), ⟨.cons rfl (.cons rfl (.cons rfl (.cons rfl (.cons rfl (.cons rfl .nil))))), rfl⟩, h10⟩
  clear h
  obtain ⟨s3, hs3⟩ : ∃ s3, s3 = c3 s2 := ⟨_, rfl⟩
  rw [← hs3]
  rintro _ V h
  refine ⟨Unit, fun _ => ⟨scEnv w, []⟩, fun _ V => Sc w (c4 s3).2 (c4 s3).1 V, ?_, ?_⟩
  · refine Calls.mono (skip_c [97, 115, 107, 101, 114] w _ _ V h) ?_
    rintro e V1 ⟨rfl, h1⟩
    refine And.intro (fun hb => ?_) (fun hb => ?_)
    · have hc : c4 s3 = rd (fun n m => { m with asker := n }) (s3.1, (skp [97, 115, 107, 101, 114] s3.2).2) := by unfold c4 opt; rw [if_pos hb]
      refine ⟨_, cells_head (cells_block h1.n), ?_⟩
      refine Calls.mono (next_c w _ _ V1 h1) ?_
      rintro e V8 ⟨rfl, h8⟩
      refine Calls.mono (num_c _ (nxt_short h1.short) w _ _ V8 h8) ?_
      rintro e V9 ⟨rfl, h9⟩
      refine h9.set (ttOk.get 5 _ rfl) rfl (o := 4) (by decide) rfl rfl (rd (fun n m => { m with asker := n }) (s3.1, (skp [97, 115, 107, 101, 114] s3.2).2)).1 rfl fun V10 h10 => ?_
      refine ⟨(), ⟨.cons rfl (.cons rfl (.cons rfl (.cons rfl (.cons rfl (.cons rfl .nil))))), rfl⟩, ?_⟩
      rw [hc]; exact h10
    · have hc : c4 s3 = (s3.1, (skp [97, 115, 107, 101, 114] s3.2).2) := by unfold c4 opt; rw [if_neg (by rw [hb]; decide)]
      refine ⟨(), ⟨.cons rfl (.cons rfl (.cons rfl (.cons rfl (.cons rfl (.cons rfl .nil))))), rfl⟩, ?_⟩
      rw [hc]; exact h1
  clear h
  obtain ⟨s4, hs4⟩ : ∃ s4, s4 = c4 s3 := ⟨_, rfl⟩
  rw [← hs4]
  rintro _ V h
  refine ⟨Unit, fun _ => ⟨scEnv w, []⟩, fun _ V => Sc w (c5 s4).2 (c5 s4).1 V, ?_, ?_⟩
  · refine Calls.mono (skip_c [97, 99, 107, 115] w _ _ V h) ?_
    rintro e V1 ⟨rfl, h1⟩
    refine And.intro (fun hb => ?_) (fun hb => ?_)
    · have hc : c5 s4 = rd (fun n m => { m with acks := n }) (s4.1, (skp [97, 99, 107, 115] s4.2).2) := by unfold c5 opt; rw [if_pos hb]
      refine ⟨_, cells_head (cells_block h1.n), ?_⟩
      refine Calls.mono (next_c w _ _ V1 h1) ?_
      rintro e V8 ⟨rfl, h8⟩
      refine Calls.mono (num_c _ (nxt_short h1.short) w _ _ V8 h8) ?_
      rintro e V9 ⟨rfl, h9⟩
      refine h9.set (ttOk.get 5 _ rfl) rfl (o := 5) (by decide) rfl rfl (rd (fun n m => { m with acks := n }) (s4.1, (skp [97, 99, 107, 115] s4.2).2)).1 rfl fun V10 h10 => ?_
      refine ⟨(), ⟨.cons rfl (.cons rfl (.cons rfl (.cons rfl (.cons rfl (.cons rfl .nil))))), rfl⟩, ?_⟩
      rw [hc]; exact h10
    · have hc : c5 s4 = (s4.1, (skp [97, 99, 107, 115] s4.2).2) := by unfold c5 opt; rw [if_neg (by rw [hb]; decide)]
      refine ⟨(), ⟨.cons rfl (.cons rfl (.cons rfl (.cons rfl (.cons rfl (.cons rfl .nil))))), rfl⟩, ?_⟩
      rw [hc]; exact h1
  clear h
  obtain ⟨s5, hs5⟩ : ∃ s5, s5 = c5 s4 := ⟨_, rfl⟩
  rw [← hs5]
  rintro _ V h
  refine ⟨Unit, fun _ => ⟨scEnv w, []⟩, fun _ V => Sc w (c6 s5).2 (c6 s5).1 V, ?_, ?_⟩
  · refine Calls.mono (skip_c [97, 108, 111, 110, 101] w _ _ V h) ?_
    rintro e V1 ⟨rfl, h1⟩
    refine h1.set (ttOk.get 4 _ rfl) rfl (o := 6) (by decide) rfl rfl (c6 s5).1 rfl fun V2 h2 => ?_
    exact ⟨(), ⟨.cons rfl (.cons rfl (.cons rfl (.cons rfl (.cons rfl (.cons rfl .nil))))), rfl⟩, h2⟩
  clear h
  obtain ⟨s6, hs6⟩ : ∃ s6, s6 = c6 s5 := ⟨_, rfl⟩
  rw [← hs6]
  rintro _ V h
  refine ⟨Unit, fun _ => ⟨scEnv w, []⟩, fun _ V => Sc w (c7 s6).2 (c7 s6).1 V, ?_, ?_⟩
  · refine Calls.mono (skip_c [100, 97, 116, 97] w _ _ V h) ?_
    rintro e V1 ⟨rfl, h1⟩
    refine And.intro (fun hb => ?_) (fun hb => ?_)
    · have hc : c7 s6 = dat (s6.1, (skp [100, 97, 116, 97] s6.2).2) 4 := by unfold c7 opt; rw [if_pos hb]; rfl
      obtain ⟨a, ha⟩ : ∃ a, a = (s6.1, (skp [100, 97, 116, 97] s6.2).2) := ⟨_, rfl⟩
      rw [← ha] at hc
      have h1 : Sc w a.2 a.1 V1 := by rw [ha]; exact h1
      refine ⟨Nat, fun k => ⟨scEnv w ++ [(69, .int .i64 (k : Nat))], []⟩, fun k V => k ≤ 4 ∧ Sc w (dat a k).2 (dat a k).1 V, fun k => 4 - k, 0, ⟨.cons rfl (.cons rfl (.cons rfl (.cons rfl (.cons rfl (.cons rfl (.cons rfl .nil)))))), rfl⟩, ⟨by omega, h1⟩, ?_⟩
      rintro k V2 ⟨hk, h2⟩
      refine And.intro (fun hh => ?_) (fun hh => ?_)
      · have hh : (k : Int) < 4 := of_decide_eq_true hh
        have hk4 : k = 0 ∨ k = 1 ∨ k = 2 ∨ k = 3 := by omega
        rcases hk4 with rfl | rfl | rfl | rfl
        · have h2' := h2
          refine ⟨_, cells_head (cells_block h2.n), ?_⟩
          refine Calls.mono (next_c w _ _ V2 h2) ?_
          rintro e V8 ⟨rfl, h8⟩
          refine Calls.mono (num_c _ (nxt_short h2.short) w _ _ V8 h8) ?_
          rintro e V9 ⟨rfl, h9⟩
          refine ⟨0, rfl, by decide, ?_⟩
          refine h9.set (ttOk.get 5 _ rfl) rfl (o := 7) (by decide) rfl rfl (dat a 1).1 rfl fun V10 h10 => ?_
          refine ⟨1, (wrap_i64 (by omega)).trans (by omega), ?_⟩
          exact ⟨1, ⟨.cons rfl (.cons rfl (.cons rfl (.cons rfl (.cons rfl (.cons rfl (.cons rfl .nil)))))), rfl⟩, ⟨by omega, h10⟩, by dsimp only; omega⟩
        · have h2' := h2
          refine ⟨_, cells_head (cells_block h2.n), ?_⟩
          refine Calls.mono (next_c w _ _ V2 h2) ?_
          rintro e V8 ⟨rfl, h8⟩
          refine Calls.mono (num_c _ (nxt_short h2.short) w _ _ V8 h8) ?_
          rintro e V9 ⟨rfl, h9⟩
          refine ⟨1, rfl, by decide, ?_⟩
          refine h9.set (ttOk.get 5 _ rfl) rfl (o := 8) (by decide) rfl rfl (dat a 2).1 rfl fun V10 h10 => ?_
          refine ⟨2, (wrap_i64 (by omega)).trans (by omega), ?_⟩
          exact ⟨2, ⟨.cons rfl (.cons rfl (.cons rfl (.cons rfl (.cons rfl (.cons rfl (.cons rfl .nil)))))), rfl⟩, ⟨by omega, h10⟩, by dsimp only; omega⟩
        · have h2' := h2
          refine ⟨_, cells_head (cells_block h2.n), ?_⟩
          refine Calls.mono (next_c w _ _ V2 h2) ?_
          rintro e V8 ⟨rfl, h8⟩
          refine Calls.mono (num_c _ (nxt_short h2.short) w _ _ V8 h8) ?_
          rintro e V9 ⟨rfl, h9⟩
          refine ⟨2, rfl, by decide, ?_⟩
          refine h9.set (ttOk.get 5 _ rfl) rfl (o := 9) (by decide) rfl rfl (dat a 3).1 rfl fun V10 h10 => ?_
          refine ⟨3, (wrap_i64 (by omega)).trans (by omega), ?_⟩
          exact ⟨3, ⟨.cons rfl (.cons rfl (.cons rfl (.cons rfl (.cons rfl (.cons rfl (.cons rfl .nil)))))), rfl⟩, ⟨by omega, h10⟩, by dsimp only; omega⟩
        · have h2' := h2
          refine ⟨_, cells_head (cells_block h2.n), ?_⟩
          refine Calls.mono (next_c w _ _ V2 h2) ?_
          rintro e V8 ⟨rfl, h8⟩
          refine Calls.mono (num_c _ (nxt_short h2.short) w _ _ V8 h8) ?_
          rintro e V9 ⟨rfl, h9⟩
          refine ⟨3, rfl, by decide, ?_⟩
          refine h9.set (ttOk.get 5 _ rfl) rfl (o := 10) (by decide) rfl rfl (dat a 4).1 rfl fun V10 h10 => ?_
          refine ⟨4, (wrap_i64 (by omega)).trans (by omega), ?_⟩
          exact ⟨4, ⟨.cons rfl (.cons rfl (.cons rfl (.cons rfl (.cons rfl (.cons rfl (.cons rfl .nil)))))), rfl⟩, ⟨by omega, h10⟩, by dsimp only; omega⟩
      · have hh : ¬ (k : Int) < 4 := of_decide_eq_false hh
        have hk4 : k = 4 := by omega
        subst hk4
        refine ⟨(), ⟨.cons rfl (.cons rfl (.cons rfl (.cons rfl (.cons rfl (.cons rfl .nil))))), rfl⟩, ?_⟩
        rw [hc]; exact h2
    · have hc : c7 s6 = (s6.1, (skp [100, 97, 116, 97] s6.2).2) := by unfold c7 opt; rw [if_neg (by rw [hb]; decide)]
      refine ⟨(), ⟨.cons rfl (.cons rfl (.cons rfl (.cons rfl (.cons rfl (.cons rfl .nil))))), rfl⟩, ?_⟩
      rw [hc]; exact h1
  rintro _ V h
  have hfin : scanS ws = c7 s6 := by unfold scanS; rw [← hs, ← hs1, ← hs2, ← hs3, ← hs4, ← hs5, ← hs6]
  have hval : scanL ws = ((c7 s6).1, (c7 s6).2.2 && decide (((c7 s6).2.1.length : Int) = 0)) := by unfold scanL; rw [hfin]
  rw [hval]
  obtain ⟨a, ha⟩ : ∃ a, a = c7 s6 := ⟨_, rfl⟩
  rw [← ha] at h ⊢
  obtain ⟨m, ⟨wl, ok⟩⟩ := a
  have h : Sc w (wl, ok) m V := h
  clear ha hval hfin
  refine DrawE.treeQ [7, 8] (.op 0 (.op 1 (.op 2 (.alt (.op 3 (.alt (.op 4 (.alt (.op 5 (.alt (.op 6 (.op 7 (.op 8 (.nil)))) (.op 7 (.op 6 (.op 8 (.nil)))))) (.op 7 (.op 5 (.op 6 (.op 8 (.nil))))))) (.op 7 (.op 4 (.op 5 (.op 6 (.op 8 (.nil)))))))) (.op 7 (.op 3 (.op 4 (.op 5 (.op 6 (.op 8 (.nil))))))))))) (by kernel_rfl) ?_
  have h := h.drew
  refine ⟨m.enc, rfl, cells_block h.m, hlt h.m, ?_⟩
  refine ⟨_, cells_head (cells_block h.o), ?_⟩
  refine And.intro (fun hb => ?_) (fun hb => ?_)
  · refine And.intro ?_ ?_
    · obtain ⟨pw, cw, fw, _, _⟩ := h.w
      refine ⟨_, cells_head (cells_block fw), ?_⟩
      refine And.intro ?_ ?_
      · refine And.intro ?_ ?_
        · refine And.intro ?_ ?_
          · refine h.setM fun V7 h => ?_
            refine h.setOk _ fun V8 h => ?_
            refine ⟨_, rfl, cells_block h.m, ?_⟩
            refine ⟨_, cells_head (cells_block h.o), ?_⟩
            exact And.intro (by rw [hb, Bool.true_and]; rfl) h.bel
          · refine h.setM fun V7 h => ?_
            refine h.setOk _ fun V8 h => ?_
            refine ⟨_, rfl, cells_block h.m, ?_⟩
            refine ⟨_, cells_head (cells_block h.o), ?_⟩
            exact And.intro (by rw [hb, Bool.true_and]; rfl) h.bel
        · refine h.setM fun V7 h => ?_
          refine h.setOk _ fun V8 h => ?_
          refine ⟨_, rfl, cells_block h.m, ?_⟩
          refine ⟨_, cells_head (cells_block h.o), ?_⟩
          exact And.intro (by rw [hb, Bool.true_and]; rfl) h.bel
      · refine h.setM fun V7 h => ?_
        refine h.setOk _ fun V8 h => ?_
        refine ⟨_, rfl, cells_block h.m, ?_⟩
        refine ⟨_, cells_head (cells_block h.o), ?_⟩
        exact And.intro (by rw [hb, Bool.true_and]; rfl) h.bel
    · refine h.setM fun V7 h => ?_
      obtain ⟨pw, cw, fw, _, _⟩ := h.w
      refine ⟨_, cells_head (cells_block fw), ?_⟩
      refine h.setOk _ fun V8 h => ?_
      refine ⟨_, rfl, cells_block h.m, ?_⟩
      refine ⟨_, cells_head (cells_block h.o), ?_⟩
      exact And.intro (by rw [hb, Bool.true_and]; rfl) h.bel
  · refine And.intro ?_ ?_
    · refine And.intro ?_ ?_
      · refine And.intro ?_ ?_
        · refine And.intro ?_ ?_
          · refine h.setM fun V7 h => ?_
            refine h.setOk _ fun V8 h => ?_
            refine ⟨_, rfl, cells_block h.m, ?_⟩
            refine ⟨_, cells_head (cells_block h.o), ?_⟩
            exact And.intro (by rw [hb, Bool.false_and]; rfl) h.bel
          · refine h.setM fun V7 h => ?_
            refine h.setOk _ fun V8 h => ?_
            refine ⟨_, rfl, cells_block h.m, ?_⟩
            refine ⟨_, cells_head (cells_block h.o), ?_⟩
            exact And.intro (by rw [hb, Bool.false_and]; rfl) h.bel
        · refine h.setM fun V7 h => ?_
          refine h.setOk _ fun V8 h => ?_
          refine ⟨_, rfl, cells_block h.m, ?_⟩
          refine ⟨_, cells_head (cells_block h.o), ?_⟩
          exact And.intro (by rw [hb, Bool.false_and]; rfl) h.bel
      · refine h.setM fun V7 h => ?_
        refine h.setOk _ fun V8 h => ?_
        refine ⟨_, rfl, cells_block h.m, ?_⟩
        refine ⟨_, cells_head (cells_block h.o), ?_⟩
        exact And.intro (by rw [hb, Bool.false_and]; rfl) h.bel
    · refine h.setM fun V7 h => ?_
      refine h.setOk _ fun V8 h => ?_
      refine ⟨_, rfl, cells_block h.m, ?_⟩
      refine ⟨_, cells_head (cells_block h.o), ?_⟩
      exact And.intro (by rw [hb, Bool.false_and]; rfl) h.bel
end Go.Proofs.YtkekidalckflhaaGreatDoor
namespace Go.Proofs.YtkekidalckflhaaGreatDoor
open Go.Vc Go.RowKit Go.Sei

theorem bs_eta (b : ByteArray) : bs b.data.toList = b := by cases b; rfl
theorem splitB_len (sep : ByteArray) (save : Nat) : ∀ (k : Nat) (s : ByteArray), (Lib.splitB sep save k s).length ≤ k + 1
  | 0, s => by simp [Lib.splitB]
  | k + 1, s => by
    unfold Lib.splitB
    split
    · simp
    · rw [List.length_cons]; have := splitB_len sep save k (s.extract ((Lib.indexB s sep).toNat + sep.size) s.size); omega
theorem splitB_short (sep : ByteArray) (save : Nat) : ∀ (k : Nat) (s : ByteArray), ∀ x ∈ Lib.splitB sep save k s, x.size ≤ s.size
  | 0, s, x, h => by simp [Lib.splitB] at h; rw [h]; exact Nat.le_refl _
  | k + 1, s, x, h => by
    unfold Lib.splitB at h
    split at h
    · simp at h; rw [h]; exact Nat.le_refl _
    · rcases List.mem_cons.1 h with rfl | h
      · simp only [ByteArray.size_extract]; omega
      · have := splitB_short sep save k _ x h
        simp only [ByteArray.size_extract] at this; omega
/-- The words of a text. -/
def wordsL (s : List UInt8) : List (List UInt8) := (Lib.splitB (bs [32]) 0 (min 16 (s.length + 1) - 1) (bs s)).map fun x => x.data.toList
def parseL (s : List UInt8) : Msg × Int := if (scanL (wordsL s)).2 = true ∧ textOf (scanL (wordsL s)).1 = s then ((scanL (wordsL s)).1, 0) else (zeroM, 170)

theorem Parse_c (s : List UInt8) (hs : s.length ≤ 4294967280) (w : World) (hg : GlobM w) : Calls Tryz.prog 17 #[strV s] w fun e w' => e = .returned (.tuple #[(parseL s).1.val, .int .i64 (parseL s).2]) ∧ Below w.heap.size w w' := by
  refine calls_of_M (S := sg 22) (sgOk _) (args := [strV s]) (.s .p (.c .p .p)) Tryz.func17 rfl rfl (Nat.le_of_ble_eq_true rfl) rfl ?_
  have hb0 : Below w.heap.size w (w.alloc (.cells zeroM.val.cells 27)) := (Below.refl _ _).alloc (Nat.le_refl _) _
  have f0 := hnew w (.cells zeroM.val.cells 27)
  have hg0 := hg.below hb0
  obtain ⟨mm, hmm⟩ := hg0.max
  refine ⟨Nat, fun g => ⟨[(0, strV s), (2, .pointer (some ⟨w.heap.size, 0, none⟩)), (3, .int .i64 0), (4, .pointer (some ⟨g, 0, none⟩)), (5, .bool (scanL (wordsL s)).2)], []⟩,
    fun g V => V.heap[w.heap.size]? = some (.cells zeroM.val.cells 27 (0, 0)) ∧ V.heap[g]? = some (.cells (scanL (wordsL s)).1.val.cells 27 (0, 0)) ∧ w.heap.size < g ∧ Below w.heap.size w V, ?_, ?_⟩
  · refine Calls.mono (Tryz.strings_SplitN (bs s) (bs [32]) 16 mm (w.alloc (.cells zeroM.val.cells 27)) (by show s.length < _; omega) hmm (by decide) (by decide) (by decide)) ?_
    rintro e V ⟨rfl, hV⟩
    have hbV : Below (w.alloc (.cells zeroM.val.cells 27)).heap.size (w.alloc (.cells zeroM.val.cells 27)) V := by rw [hV]; exact (Below.refl _ _).alloc (Nat.le_refl _) _
    have hlen : (Lib.splitB (bs [32]) 0 (min 16 ((bs s).size + 1) - 1) (bs s)).length = (wordsL s).length := by unfold wordsL; rw [List.length_map]; rfl
    have hle : (wordsL s).length ≤ min 16 ((bs s).size + 1) := by
      rw [← hlen]
      have := splitB_len (bs [32]) 0 (min 16 ((bs s).size + 1) - 1) (bs s)
      omega
    have hrow : SlR strE V (some ⟨(w.alloc (.cells zeroM.val.cells 27)).heap.size, 0, none⟩) (wordsL s) := by
      rw [hV]
      refine SlR.of_cells (by simp) (cells_mk fun i v hv => cells_at cells_new ?_)
      rw [strE_flat] at hv
      have hi : i < (wordsL s).length := by have := (List.getElem?_eq_some_iff.1 hv).1; simpa using this
      unfold Lib.cellsOf
      have e1 : (Lib.splitB (bs [32]) 0 (min 16 ((bs s).size + 1) - 1) (bs s)).map Value.string = (wordsL s).map strV := by
        unfold wordsL
        rw [List.map_map]
        refine List.map_congr_left fun x _ => ?_
        show Value.string x = strV x.data.toList
        unfold strV; rw [bs_eta]
      rw [e1]
      show ((wordsL s).map strV ++ _)[i]? = some v
      rw [List.getElem?_append_left (by simpa using hi)]
      exact hv
    have hb1 := hb0.trans (hbV.mono hb0.size)
    have hshort : ∀ x ∈ wordsL s, x.length ≤ 4294967280 := fun x hx => by
      unfold wordsL at hx
      obtain ⟨y, hy, rfl⟩ := List.mem_map.1 hx
      have := splitB_short _ _ _ _ y hy
      have e2 : (bs s).size = s.length := rfl
      show y.size ≤ _
      omega
    have hsc := scan_c (some ⟨(w.alloc (.cells zeroM.val.cells 27)).heap.size, 0, none⟩) (min 16 ((bs s).size + 1)) (wordsL s) V hrow hle (hg.below hb1) hshort
    rw [← hlen] at hsc
    refine Calls.mono hsc ?_
    rintro e X ⟨rfl, hbX⟩
    have hb2 := hb1.trans (hbX.mono hb1.size)
    refine store_new (X := X) (v := (scanL (wordsL s)).1.val) (ttOk.get 27 _ rfl) (by rfl) rfl (by rfl) fun Y hbY fY sY => ?_
    refine ⟨X.heap.size, ⟨.cons rfl (.cons rfl (.cons rfl (.cons rfl (.cons rfl .nil)))), rfl⟩, block_below hbY (block_below hbX (block_below hbV f0)), fY, ?_, hb2.trans (hbY.mono hb2.size)⟩
    have := hlt (block_below hbX (block_below hbV f0))
    exact this
  rintro g V ⟨f1, f2, hgw, hb⟩
  refine And.intro (fun h => ?_) (fun h => ?_)
  · have h : (scanL (wordsL s)).2 = false := by simpa using h
    have hp : parseL s = (zeroM, 170) := by unfold parseL; rw [if_neg (by rw [h]; simp)]
    refine And.intro (fun _ => ?_) (fun h => by cases h)
    refine ⟨zeroM.enc, rfl, ?_⟩
    refine store_box (v := zeroM.val) (ttOk.get 27 _ rfl) f1 (by rfl) rfl (by rfl) ?_
    refine ⟨_, rfl, cells_block (setRow_new f1), ?_⟩
    rw [hp]
    exact And.intro rfl (below_setRow hb (Nat.le_refl _) _)
  · have h : (scanL (wordsL s)).2 = true := by simpa using h
    refine ⟨(scanL (wordsL s)).1.enc, rfl, cells_block f2, hlt f2, ?_⟩
    refine Calls.mono (Text_c (scanL (wordsL s)).1 V (hg.below hb)) ?_
    rintro e V1 ⟨rfl, hb1⟩
    have f1' := block_below hb1 f1
    have f2' := block_below hb1 f2
    have hb' := hb.trans (hb1.mono hb.size)
    refine ⟨_, fun w => neq_str _ _ (textOf (scanL (wordsL s)).1) s w, ?_⟩
    refine And.intro (fun h2 => ?_) (fun h2 => ?_)
    · have h2 : ¬ textOf (scanL (wordsL s)).1 = s := by simpa using h2
      have hp : parseL s = (zeroM, 170) := by unfold parseL; rw [if_neg (fun e => h2 e.2)]
      refine ⟨zeroM.enc, rfl, ?_⟩
      refine store_box (v := zeroM.val) (ttOk.get 27 _ rfl) f1' (by rfl) rfl (by rfl) ?_
      refine ⟨_, rfl, cells_block (setRow_new f1'), ?_⟩
      rw [hp]
      exact And.intro rfl (below_setRow hb' (Nat.le_refl _) _)
    · have h2 : textOf (scanL (wordsL s)).1 = s := by simpa using h2
      have hp : parseL s = ((scanL (wordsL s)).1, 0) := by unfold parseL; rw [if_pos ⟨h, h2⟩]
      refine ⟨(scanL (wordsL s)).1.enc, rfl, cells_block f2', hlt f2', ?_⟩
      refine store_box (v := (scanL (wordsL s)).1.val) (ttOk.get 27 _ rfl) f1' (by rfl) rfl (by rfl) ?_
      refine ⟨_, rfl, cells_block (setRow_new f1'), ?_⟩
      rw [hp]
      exact And.intro rfl (below_setRow hb' (Nat.le_refl _) _)

theorem Bytes_c (m : Msg) (w : World) : Calls Tryz.prog 12 #[m.val] w fun e w' => ∃ g, e = .returned (.slice (some ⟨g, 0, none⟩) 11 11) ∧ w'.heap[g]? = some (.cells ((codeOf m).map u8).toArray 48 (0, 0)) ∧ w.heap.size ≤ g ∧ Below w.heap.size w w' := by
  refine calls_of_E (S := sg 7) (sgOk _) (args := [m.val]) Tryz.func12 rfl rfl (Nat.le_of_ble_eq_true rfl) rfl ?_
  have hb0 : Below w.heap.size w (w.alloc (.cells m.val.cells 27)) := (Below.refl _ _).alloc (Nat.le_refl _) _
  have f0 := hnew w (.cells m.val.cells 27)
  refine ⟨m.enc, rfl, cells_block f0, hlt f0, ?_⟩
  refine Calls.mono (code_c m _) ?_
  rintro e X ⟨rfl, hbX⟩
  have hb2 := hb0.trans (hbX.mono hb0.size)
  refine store_new (X := X) (v := .agg ((codeOf m).map u8).toArray) (ttOk.get 48 _ rfl) (by rfl) rfl (by rfl) fun Y hbY fY sY => ?_
  exact ⟨X.heap.size, rfl, fY, hb2.size, hb2.trans (hbY.mono hb2.size)⟩
end Go.Proofs.YtkekidalckflhaaGreatDoor
namespace Go.Proofs.YtkekidalckflhaaGreatDoor
open Go.Vc Go.RowKit Go.Sei

def lenc (m : Msg) (g : Geo) (b : UInt8) : List Value := m.enc ++ g.enc ++ [u8 b]
def lval (m : Msg) (g : Geo) (b : UInt8) : Value := .agg (lenc m g b).toArray
def hasB (b bit : UInt8) : Bool := !decide (IntKind.u8.wrap ((BitVec.ofInt 8 (b.toNat : Int) &&& BitVec.ofInt 8 (bit.toNat : Int)).toNat) = 0)
theorem has_c (m : Msg) (g : Geo) (b bit : UInt8) (w : World) : Calls Tryz.prog 41 #[lval m g b, u8 bit] w fun e w' => e = .returned (.bool (hasB b bit)) ∧ Below w.heap.size w w' := by
  refine calls_of_E (S := sg 10) (sgOk _) (args := [lval m g b, u8 bit]) Tryz.func41 rfl rfl (Nat.le_of_ble_eq_true rfl) rfl ?_
  have hb0 : Below w.heap.size w (w.alloc (.cells (lval m g b).cells 45)) := (Below.refl _ _).alloc (Nat.le_refl _) _
  have f0 := hnew w (.cells (lval m g b).cells 45)
  refine ⟨_, cells_at (cells_block f0) (i := 16) rfl, ?_⟩
  refine ⟨_, rfl, ?_⟩
  exact And.intro rfl hb0

def fromL (m : Msg) (g : Geo) (b : UInt8) : Bool := (hasB b 16 && decide (m.from_ = homeOf g m.line)) || (hasB b 32 && isCache g m.from_)
def toL (m : Msg) (g : Geo) (b : UInt8) : Bool := (hasB b 64 && decide (m.to = homeOf g m.line)) || (hasB b 128 && isCache g m.to)
def endsL (m : Msg) (g : Geo) (b : UInt8) : Bool := fromL m g b && toL m g b && !decide (m.from_ = m.to)
theorem u8d (x y : UInt8) : decide ((x.toNat : Int) = (y.toNat : Int)) = decide (x = y) := by rw [decide_eq_decide]; exact u8_eq
section
variable {w V : World} {m : Msg} {g : Geo} {b : UInt8}
/-- A letter's box. -/
structure LBox (m : Msg) (g : Geo) (b : UInt8) (k : Nat) (V : World) : Prop where
  box : V.heap[k]? = some (.cells (lval m g b).cells 45 (0, 0))
theorem LBox.all {k : Nat} (h : LBox m g b k V) : Cells V ⟨k, 0, none⟩ (lenc m g b) := cells_block h.box
theorem LBox.lt {k : Nat} (h : LBox m g b k V) : k < V.heap.size := hlt h.box
theorem LBox.below {k : Nat} (h : LBox m g b k w) (hb : Below w.heap.size w V) : LBox m g b k V := ⟨block_below hb h.box⟩
theorem LBox.geo {k : Nat} (h : LBox m g b k V) : Cells V ⟨k, 11, none⟩ g.enc := by
  refine cells_mk fun i v hv => ?_
  have hi : i < 5 := (List.getElem?_eq_some_iff.1 hv).1
  have : (lenc m g b)[11 + i]? = some v := by
    rw [← hv]
    have h5 : i = 0 ∨ i = 1 ∨ i = 2 ∨ i = 3 ∨ i = 4 := by omega
    rcases h5 with rfl | rfl | rfl | rfl | rfl <;> rfl
  have := cells_at h.all this
  rw [Nat.zero_add] at this
  exact this
theorem LBox.msg {k : Nat} (h : LBox m g b k V) : Cells V ⟨k, 0, none⟩ m.enc := by
  refine cells_mk fun i v hv => ?_
  have hi : i < m.enc.length := (List.getElem?_eq_some_iff.1 hv).1
  have : (lenc m g b)[i]? = some v := by
    rw [← hv]; unfold lenc
    rw [List.append_assoc, List.getElem?_append_left hi]
  exact cells_at h.all this
end

theorem ends_c (m : Msg) (g : Geo) (b : UInt8) (w : World) (hB : BndM w) : Calls Tryz.prog 20 #[lval m g b] w fun e w' => e = .returned (.bool (endsL m g b)) ∧ Below w.heap.size w w' := by
  refine calls_of_M (S := sg 67) (sgOk _) (args := [lval m g b]) (.s .p (.c .p (.c .p (.c .p .p)))) Tryz.func20 rfl rfl (Nat.le_of_ble_eq_true rfl) rfl ?_
  have hb0 : Below w.heap.size w (w.alloc (.cells (lval m g b).cells 45)) := (Below.refl _ _).alloc (Nat.le_refl _) _
  have f0 := hnew w (.cells (lval m g b).cells 45)
  have l0 : LBox m g b w.heap.size (w.alloc (.cells (lval m g b).cells 45)) := ⟨f0⟩
  refine ⟨Unit, fun _ => ⟨[(1, .pointer (some ⟨w.heap.size, 0, none⟩)), (3, u8 (homeOf g m.line))], []⟩, fun _ V => LBox m g b w.heap.size V ∧ Below w.heap.size w V, ?_, ?_⟩
  · refine ⟨g.enc, rfl, l0.geo, l0.lt, ?_⟩
    refine ⟨_, cells_at l0.all (i := 3) rfl, ?_⟩
    refine Calls.mono (Home_c g m.line _ (hB.below hb0)) ?_
    rintro e V ⟨rfl, hb⟩
    exact ⟨(), ⟨.cons rfl (.cons rfl .nil), rfl⟩, l0.below hb, hb0.trans (hb.mono hb0.size)⟩
  rintro _ V ⟨l, hb⟩
  refine ⟨Unit, fun _ => ⟨[(1, .pointer (some ⟨w.heap.size, 0, none⟩)), (3, u8 (homeOf g m.line)), (4, .bool (fromL m g b))], []⟩, fun _ V => LBox m g b w.heap.size V ∧ Below w.heap.size w V, ?_, ?_⟩
  · refine ⟨lenc m g b, rfl, l.all, l.lt, ?_⟩
    refine Calls.mono (has_c m g b 16 V) ?_
    rintro e V1 ⟨rfl, hb1⟩
    have l1 := l.below hb1
    have hw1 := hb.trans (hb1.mono hb.size)
    refine And.intro (fun h1 => ?_) (fun h1 => ?_)
    · refine ⟨_, cells_at l1.all (i := 1) rfl, ?_⟩
      refine And.intro (fun h2 => ?_) (fun h2 => ?_)
      · have h2 : decide ((m.from_.toNat : Int) = ((homeOf g m.line).toNat : Int)) = true := h2
        rw [u8d] at h2
        have fact : fromL m g b = true := by unfold fromL; rw [h1, h2]; rfl
        exact ⟨(), ⟨.cons rfl (.cons rfl (.cons (by rw [fact]; rfl) .nil)), rfl⟩, l1, hw1⟩
      · have h2 : decide ((m.from_.toNat : Int) = ((homeOf g m.line).toNat : Int)) = false := h2
        rw [u8d] at h2
        refine ⟨lenc m g b, rfl, l1.all, l1.lt, ?_⟩
        refine Calls.mono (has_c m g b 32 V1) ?_
        rintro e V2 ⟨rfl, hb2⟩
        have l2 := l1.below hb2
        have hw2 := hw1.trans (hb2.mono hw1.size)
        refine And.intro (fun h3 => ?_) (fun h3 => ?_)
        · refine ⟨g.enc, rfl, l2.geo, l2.lt, ?_⟩
          refine ⟨_, cells_at l2.all (i := 1) rfl, ?_⟩
          refine Calls.mono (IsCache_c g m.from_ V2 (hB.below hw2)) ?_
          rintro e V3 ⟨rfl, hb3⟩
          have fact : fromL m g b = isCache g m.from_ := by unfold fromL; rw [h1, h2, Bool.true_and, h3, Bool.false_or, Bool.true_and]
          exact ⟨(), ⟨.cons rfl (.cons rfl (.cons (by rw [fact]; rfl) .nil)), rfl⟩, l2.below hb3, hw2.trans (hb3.mono hw2.size)⟩
        · have fact : fromL m g b = false := by unfold fromL; rw [h1, h2, Bool.true_and, h3, Bool.false_or, Bool.false_and]
          exact ⟨(), ⟨.cons rfl (.cons rfl (.cons (by rw [fact]; rfl) .nil)), rfl⟩, l2, hw2⟩
    · refine And.intro (fun h => by cases h) (fun _ => ?_)
      refine ⟨lenc m g b, rfl, l1.all, l1.lt, ?_⟩
      refine Calls.mono (has_c m g b 32 V1) ?_
      rintro e V2 ⟨rfl, hb2⟩
      have l2 := l1.below hb2
      have hw2 := hw1.trans (hb2.mono hw1.size)
      refine And.intro (fun h3 => ?_) (fun h3 => ?_)
      · refine ⟨g.enc, rfl, l2.geo, l2.lt, ?_⟩
        refine ⟨_, cells_at l2.all (i := 1) rfl, ?_⟩
        refine Calls.mono (IsCache_c g m.from_ V2 (hB.below hw2)) ?_
        rintro e V3 ⟨rfl, hb3⟩
        have fact : fromL m g b = isCache g m.from_ := by unfold fromL; rw [h1, Bool.false_and, h3, Bool.false_or, Bool.true_and]
        exact ⟨(), ⟨.cons rfl (.cons rfl (.cons (by rw [fact]; rfl) .nil)), rfl⟩, l2.below hb3, hw2.trans (hb3.mono hw2.size)⟩
      · have fact : fromL m g b = false := by unfold fromL; rw [h1, Bool.false_and, h3, Bool.false_or, Bool.false_and]
        exact ⟨(), ⟨.cons rfl (.cons rfl (.cons (by rw [fact]; rfl) .nil)), rfl⟩, l2, hw2⟩
  clear hb l V
  rintro _ V ⟨l, hb⟩
  refine ⟨Unit, fun _ => ⟨[(1, .pointer (some ⟨w.heap.size, 0, none⟩)), (4, .bool (fromL m g b)), (5, .bool (toL m g b))], []⟩, fun _ V => LBox m g b w.heap.size V ∧ Below w.heap.size w V, ?_, ?_⟩
  · refine ⟨lenc m g b, rfl, l.all, l.lt, ?_⟩
    refine Calls.mono (has_c m g b 64 V) ?_
    rintro e V1 ⟨rfl, hb1⟩
    have l1 := l.below hb1
    have hw1 := hb.trans (hb1.mono hb.size)
    refine And.intro (fun h1 => ?_) (fun h1 => ?_)
    · refine ⟨_, cells_at l1.all (i := 2) rfl, ?_⟩
      refine And.intro (fun h2 => ?_) (fun h2 => ?_)
      · have h2 : decide ((m.to.toNat : Int) = ((homeOf g m.line).toNat : Int)) = true := h2
        rw [u8d] at h2
        have fact : toL m g b = true := by unfold toL; rw [h1, h2]; rfl
        exact ⟨(), ⟨.cons rfl (.cons rfl (.cons (by rw [fact]; rfl) .nil)), rfl⟩, l1, hw1⟩
      · have h2 : decide ((m.to.toNat : Int) = ((homeOf g m.line).toNat : Int)) = false := h2
        rw [u8d] at h2
        refine ⟨lenc m g b, rfl, l1.all, l1.lt, ?_⟩
        refine Calls.mono (has_c m g b 128 V1) ?_
        rintro e V2 ⟨rfl, hb2⟩
        have l2 := l1.below hb2
        have hw2 := hw1.trans (hb2.mono hw1.size)
        refine And.intro (fun h3 => ?_) (fun h3 => ?_)
        · refine ⟨g.enc, rfl, l2.geo, l2.lt, ?_⟩
          refine ⟨_, cells_at l2.all (i := 2) rfl, ?_⟩
          refine Calls.mono (IsCache_c g m.to V2 (hB.below hw2)) ?_
          rintro e V3 ⟨rfl, hb3⟩
          have fact : toL m g b = isCache g m.to := by unfold toL; rw [h1, h2, Bool.true_and, h3, Bool.false_or, Bool.true_and]
          exact ⟨(), ⟨.cons rfl (.cons rfl (.cons (by rw [fact]; rfl) .nil)), rfl⟩, l2.below hb3, hw2.trans (hb3.mono hw2.size)⟩
        · have fact : toL m g b = false := by unfold toL; rw [h1, h2, Bool.true_and, h3, Bool.false_or, Bool.false_and]
          exact ⟨(), ⟨.cons rfl (.cons rfl (.cons (by rw [fact]; rfl) .nil)), rfl⟩, l2, hw2⟩
    · refine And.intro (fun h => by cases h) (fun _ => ?_)
      refine ⟨lenc m g b, rfl, l1.all, l1.lt, ?_⟩
      refine Calls.mono (has_c m g b 128 V1) ?_
      rintro e V2 ⟨rfl, hb2⟩
      have l2 := l1.below hb2
      have hw2 := hw1.trans (hb2.mono hw1.size)
      refine And.intro (fun h3 => ?_) (fun h3 => ?_)
      · refine ⟨g.enc, rfl, l2.geo, l2.lt, ?_⟩
        refine ⟨_, cells_at l2.all (i := 2) rfl, ?_⟩
        refine Calls.mono (IsCache_c g m.to V2 (hB.below hw2)) ?_
        rintro e V3 ⟨rfl, hb3⟩
        have fact : toL m g b = isCache g m.to := by unfold toL; rw [h1, Bool.false_and, h3, Bool.false_or, Bool.true_and]
        exact ⟨(), ⟨.cons rfl (.cons rfl (.cons (by rw [fact]; rfl) .nil)), rfl⟩, l2.below hb3, hw2.trans (hb3.mono hw2.size)⟩
      · have fact : toL m g b = false := by unfold toL; rw [h1, Bool.false_and, h3, Bool.false_or, Bool.false_and]
        exact ⟨(), ⟨.cons rfl (.cons rfl (.cons (by rw [fact]; rfl) .nil)), rfl⟩, l2, hw2⟩
  clear hb l V
  rintro _ V ⟨l, hb⟩
  refine And.intro (fun h1 => ?_) (fun h1 => ?_)
  · refine And.intro (fun h2 => ?_) (fun h2 => ?_)
    · refine ⟨_, cells_at l.all (i := 1) rfl, ?_⟩
      refine ⟨_, cells_at l.all (i := 2) rfl, ?_⟩
      refine And.intro (rb ?_) hb
      have h2 : toL m g b = true := h2
      unfold endsL; rw [h1, h2, ← u8d]; rfl
    · refine And.intro (rb ?_) hb
      have h2 : toL m g b = false := h2
      unfold endsL; rw [h1, h2]; rfl
  · refine And.intro (fun h => by cases h) (fun _ => ?_)
    refine And.intro (rb ?_) hb
    unfold endsL; rw [h1]; rfl
end Go.Proofs.YtkekidalckflhaaGreatDoor
namespace Go.Proofs.YtkekidalckflhaaGreatDoor
open Go.Vc Go.RowKit Go.Sei

def awM : Msg := ⟨10, 2, 0, 1, 0, 1, false, 7, 0, 0, 0⟩
def awT : List UInt8 := [86, 97, 108, 117, 101, 32, 50, 62, 48, 32, 108, 105, 110, 101, 32, 49, 32, 97, 99, 107, 115, 32, 49, 32, 100, 97, 116, 97, 32, 55, 32, 48, 32, 48, 32, 48]
def awZ : List UInt8 := [107, 105, 110, 100, 32, 48, 32, 48, 62, 48, 32, 108, 105, 110, 101, 32, 48]
theorem dig_one (n : UInt8) (h : n.toNat < 10) : dig n = [UInt8.ofNat (48 + n.toNat)] := by
  unfold dig Lib.itoa
  rw [if_neg (by omega), Int.toNat_natCast, Lib.decDigits_one h]
theorem aw_text : textOf awM = awT := by
  have d0 : dig 0 = [48] := dig_one 0 (by decide)
  have d1 : dig 1 = [49] := dig_one 1 (by decide)
  have d2 : dig 2 = [50] := dig_one 2 (by decide)
  have d7 : dig 7 = [55] := dig_one 7 (by decide)
  have hw : w5 awM = [[86, 97, 108, 117, 101], [50, 62, 48], [108, 105, 110, 101], [49], [97, 99, 107, 115], [49], [100, 97, 116, 97], [55], [48], [48], [48]] := by
    have e0 : w0 awM = [[86, 97, 108, 117, 101]] := by unfold w0; rw [if_neg (by decide)]; rfl
    have e1 : w1 awM = [[86, 97, 108, 117, 101], [50, 62, 48], [108, 105, 110, 101], [49]] := by
      unfold w1; rw [e0]
      show _ ++ [dig 2 ++ [62] ++ dig 0, [108, 105, 110, 101], dig 1] = _
      rw [d0, d1, d2]; rfl
    have e2 : w2 awM = w1 awM := by unfold w2; rw [if_pos (by decide), List.append_nil]
    have e3 : w3 awM = w2 awM ++ [[97, 99, 107, 115], [49]] := by
      unfold w3; rw [if_neg (by decide)]
      show _ ++ [[97, 99, 107, 115], dig 1] = _
      rw [d1]
    have e4 : w4 awM = w3 awM := by unfold w4; rw [if_neg (by decide), List.append_nil]
    unfold w5; rw [if_neg (by decide)]
    show _ ++ [[100, 97, 116, 97], dig 7, dig 0, dig 0, dig 0] = _
    rw [e4, e3, e2, e1, d0, d7]; rfl
  unfold textOf; rw [hw]; rfl
theorem aw_zero : textOf zeroM = awZ := by
  have d0 : dig 0 = [48] := dig_one 0 (by decide)
  have hw : w5 zeroM = [[107, 105, 110, 100], [48], [48, 62, 48], [108, 105, 110, 101], [48]] := by
    have e0 : w0 zeroM = [[107, 105, 110, 100], [48]] := by
      unfold w0; rw [if_pos (by decide)]
      show [_, dig 0] = _
      rw [d0]
    have e1 : w1 zeroM = [[107, 105, 110, 100], [48], [48, 62, 48], [108, 105, 110, 101], [48]] := by
      unfold w1; rw [e0]
      show _ ++ [dig 0 ++ [62] ++ dig 0, [108, 105, 110, 101], dig 0] = _
      rw [d0]; rfl
    unfold w5 w4 w3 w2; rw [if_pos (by decide), if_pos (by decide), if_neg (by decide), if_pos (by decide), e1]; rfl
  unfold textOf; rw [hw]; rfl
theorem aw_words : wordsL awT = [[86, 97, 108, 117, 101], [50, 62, 48], [108, 105, 110, 101], [49], [97, 99, 107, 115], [49], [100, 97, 116, 97], [55], [48], [48], [48]] := by kernel_rfl
theorem aw_parse : parseL awT = (awM, 0) := by
  have h : scanL (wordsL awT) = (awM, true) := by rw [aw_words]; kernel_rfl
  unfold parseL; rw [h, if_pos ⟨rfl, aw_text⟩]

theorem parse_aw (w : World) (hg : GlobM w) : Calls Tryz.prog 17 #[strV awT] w fun e w' => e = .returned (.tuple #[awM.val, .int .i64 0]) ∧ Below w.heap.size w w' := by
  have h := Parse_c awT (by decide) w hg
  rw [aw_parse] at h
  exact h
theorem text_aw (w : World) (hg : GlobM w) : Calls Tryz.prog 14 #[awM.val] w fun e w' => e = .returned (strV awT) ∧ Below w.heap.size w w' := by
  have h := Text_c awM w hg
  rw [aw_text] at h
  exact h
theorem text_zero (w : World) (hg : GlobM w) : Calls Tryz.prog 14 #[zeroM.val] w fun e w' => e = .returned (strV awZ) ∧ Below w.heap.size w w' := by
  have h := Text_c zeroM w hg
  rw [aw_zero] at h
  exact h
end Go.Proofs.YtkekidalckflhaaGreatDoor
namespace Go.Proofs.YtkekidalckflhaaGreatDoor
open Go.Vc Go.RowKit Go.Sei

theorem eql_msg (x y : Operand) (m n : Msg) (w : World) : (do eqGuard .eql 27 x y m.val n.val; binOp .eql 27 m.val n.val).run Tryz.prog w = .ok (.bool (decide (m = n))) w := by
  have h : (Op.equal 27 m.val n.val).run Tryz.prog w = .ok (decide (m = n)) w := eq_msg 9997 m n w
  have hg : Tryz.prog.eqGuardType Tryz.prog.depth 27 = false := by kernel_rfl
  have h1 : (eqGuard .eql 27 x y m.val n.val).run Tryz.prog w = .ok () w := by
    simp only [eqGuard, Msg.val, Bool.not_true, Bool.false_eq_true, if_false, Sem.run_bind, run_program, Result.andThen_ok, hg, Bool.not_false, if_true, Sem.run_pure]
  rw [Sem.run_bind, h1]
  rw [Msg.val, Msg.val] at h
  simp only [Result.andThen_ok, binOp, Msg.val, Sem.run_bind, h, Sem.run_pure]
theorem strOfNums_u8 (l : List UInt8) : strOfNums (l.map fun b => (b.toNat : Int)) = bs l := by
  unfold strOfNums bs
  congr 2
  rw [List.map_map]
  conv => rhs; rw [← List.map_id l]
  refine List.map_congr_left fun b _ => ?_
  simp
theorem conv_str {w : World} {g c n : Nat} {l : List UInt8} {t : TypeId} (h : w.heap[g]? = some (.cells (l.map u8).toArray t (0, 0))) (hn : l.length = n) (w2 : World) (hb : Below w.heap.size w w2) :
    (convert 33 9 (.slice (some ⟨g, 0, none⟩) n c)).run Tryz.prog w2 = .ok (strV l) w2 := by
  have h2 := block_below hb h
  have := run_convert_bytes_arg (P := Tryz.prog) w2 33 5 Tryz.underlying33 Tryz.underlying5 g 0 n c (l.map fun b => (b.toNat : Int)) (by simpa using hn) (fun i hi => by
    have hi' : i < l.length := by omega
    have := cells_at (cells_block h2) (i := i) (v := u8 l[i]) (by simp [hi'])
    rw [this]; simp [u8, hi']) 9 Tryz.underlying9
  rw [this, strOfNums_u8]; rfl

theorem awake_c (w : World) (hg : GlobM w) : Calls Tryz.prog 7 #[] w fun e w' => e = .returned (.bool true) ∧ Below w.heap.size w w' := by
  refine calls_of_M (S := sg 33) (sgOk _) (args := []) (.s .p (.c .p (.c .p .p))) Tryz.func7 rfl rfl (Nat.le_of_ble_eq_true rfl) rfl ?_
  refine ⟨Nat, fun g => ⟨[(1, .pointer (some ⟨g, 0, none⟩))], []⟩, fun g V => V.heap[g]? = some (.cells awM.val.cells 27 (0, 0)) ∧ Below w.heap.size w V, ?_, ?_⟩
  · refine ⟨dcells 7 0 0 0, rfl, ?_⟩
    refine ⟨awM.enc, rfl, ?_⟩
    refine store_new (X := w) (v := awM.val) (ttOk.get 27 _ rfl) (by rfl) rfl (by rfl) fun Y hbY fY sY => ?_
    exact ⟨w.heap.size, ⟨.cons rfl .nil, rfl⟩, fY, hbY⟩
  rintro g1 V ⟨f1, hb⟩
  refine ⟨Nat, fun g => ⟨[(1, .pointer (some ⟨g1, 0, none⟩)), (2, .pointer (some ⟨g, 0, none⟩)), (3, .int .i64 0)], []⟩, fun g V => V.heap[g1]? = some (.cells awM.val.cells 27 (0, 0)) ∧ V.heap[g]? = some (.cells awM.val.cells 27 (0, 0)) ∧ Below w.heap.size w V, ?_, ?_⟩
  · refine Calls.mono (parse_aw V (hg.below hb)) ?_
    rintro e X ⟨rfl, hbX⟩
    have hb2 := hb.trans (hbX.mono hb.size)
    refine store_new (X := X) (v := awM.val) (ttOk.get 27 _ rfl) (by rfl) rfl (by rfl) fun Z hbZ fZ sZ => ?_
    exact ⟨X.heap.size, ⟨.cons rfl (.cons rfl (.cons rfl .nil)), rfl⟩, block_below hbZ (block_below hbX f1), fZ, hb2.trans (hbZ.mono hb2.size)⟩
  clear f1 hb V
  rintro g2 V ⟨f1, f2, hb⟩
  refine ⟨awM.enc, rfl, cells_block f1, hlt f1, ?_⟩
  refine Calls.mono (text_aw V (hg.below hb)) ?_
  rintro e V1 ⟨rfl, hb1⟩
  have hw1 := hb.trans (hb1.mono hb.size)
  have g1' := block_below hb1 f1
  have g2' := block_below hb1 f2
  refine ⟨_, fun w => eql_str _ _ awT awT w, ?_⟩
  refine And.intro (fun _ => ?_) (fun h => absurd h (by simp))
  refine ⟨awM.enc, rfl, cells_block g1', hlt g1', ?_⟩
  refine Calls.mono (Bytes_c awM V1) ?_
  rintro e V2 ⟨k, rfl, fk, _, hb2⟩
  have hw2 := hw1.trans (hb2.mono hw1.size)
  have k1 := block_below hb2 g1'
  have k2 := block_below hb2 g2'
  refine ⟨_, fun w2 hb => conv_str (l := codeOf awM) fk rfl w2 hb, ?_⟩
  refine ⟨_, fun w => eql_str _ _ (codeOf awM) [10, 2, 0, 1, 0, 1, 0, 7, 0, 0, 0] w, ?_⟩
  refine And.intro (fun _ => ?_) (fun h => absurd h (by decide))
  refine ⟨awM.enc, rfl, cells_block k2, hlt k2, ?_⟩
  refine ⟨awM.enc, rfl, cells_block k1, hlt k1, ?_⟩
  refine ⟨_, fun w => eql_msg _ _ awM awM w, ?_⟩
  refine And.intro (fun _ => ?_) (fun h => absurd h (by simp))
  refine And.intro (fun _ => ?_) (fun h => absurd h (by decide))
  refine ⟨zeroM.enc, rfl, ?_⟩
  refine Calls.mono (text_zero V2 (hg.below hw2)) ?_
  rintro e V3 ⟨rfl, hb3⟩
  refine ⟨_, fun w => eql_str _ _ awZ awZ w, ?_⟩
  exact And.intro (rb (by simp)) (hw2.trans (hb3.mono hw2.size))
end Go.Proofs.YtkekidalckflhaaGreatDoor
namespace Go.Proofs.YtkekidalckflhaaGreatDoor
open Go.Vc Go.RowKit Go.Sei

def badAsk (m : Msg) (g : Geo) (b : UInt8) : Bool := hasB b 1 && (!isCache g m.asker || decide (m.asker = m.to))
def valuesL (m : Msg) (g : Geo) (b : UInt8) : Bool := !badAsk m g b && (decide ((m.acks.toNat : Int) < g.c) && (!m.alone || !isCache g m.from_))
theorem values_c (m : Msg) (g : Geo) (b : UInt8) (w : World) (hB : BndM w) : Calls Tryz.prog 21 #[lval m g b] w fun e w' => e = .returned (.bool (valuesL m g b)) ∧ Below w.heap.size w w' := by
  refine calls_of_M (S := sg 46) (sgOk _) (args := [lval m g b]) (.s .p (.c .p .p)) Tryz.func21 rfl rfl (Nat.le_of_ble_eq_true rfl) rfl ?_
  have hb0 : Below w.heap.size w (w.alloc (.cells (lval m g b).cells 45)) := (Below.refl _ _).alloc (Nat.le_refl _) _
  have f0 := hnew w (.cells (lval m g b).cells 45)
  have l0 : LBox m g b w.heap.size (w.alloc (.cells (lval m g b).cells 45)) := ⟨f0⟩
  refine ⟨Unit, fun _ => ⟨[(1, .pointer (some ⟨w.heap.size, 0, none⟩))], []⟩, fun _ V => LBox m g b w.heap.size V ∧ badAsk m g b = false ∧ Below w.heap.size w V, ?_, ?_⟩
  · refine ⟨lenc m g b, rfl, l0.all, l0.lt, ?_⟩
    refine Calls.mono (has_c m g b 1 _) ?_
    rintro e V1 ⟨rfl, hb1⟩
    have l1 := l0.below hb1
    have hw1 := hb0.trans (hb1.mono hb0.size)
    refine And.intro (fun h1 => ?_) (fun h1 => ?_)
    · refine ⟨g.enc, rfl, l1.geo, l1.lt, ?_⟩
      refine ⟨_, cells_at l1.all (i := 4) rfl, ?_⟩
      refine Calls.mono (IsCache_c g m.asker V1 (hB.below hw1)) ?_
      rintro e V2 ⟨rfl, hb2⟩
      have l2 := l1.below hb2
      have hw2 := hw1.trans (hb2.mono hw1.size)
      refine And.intro (fun h2 => ?_) (fun h2 => ?_)
      · have h2 := not_t h2
        have fact : valuesL m g b = false := by unfold valuesL badAsk; rw [h1, h2]; rfl
        refine And.intro (fun _ => ?_) (fun h => by cases h)
        exact And.intro (rb fact.symm) hw2
      · have h2 := not_f h2
        refine ⟨_, cells_at l2.all (i := 4) rfl, ?_⟩
        refine ⟨_, cells_at l2.all (i := 2) rfl, ?_⟩
        refine And.intro (fun h3 => ?_) (fun h3 => ?_)
        · have h3 : decide ((m.asker.toNat : Int) = (m.to.toNat : Int)) = true := h3
          rw [u8d] at h3
          have fact : valuesL m g b = false := by unfold valuesL badAsk; rw [h1, h2, h3]; rfl
          exact And.intro (rb fact.symm) hw2
        · have h3 : decide ((m.asker.toNat : Int) = (m.to.toNat : Int)) = false := h3
          rw [u8d] at h3
          exact ⟨(), ⟨.cons rfl .nil, rfl⟩, l2, by unfold badAsk; rw [h1, h2, h3]; rfl, hw2⟩
    · refine And.intro (fun h => by cases h) (fun _ => ?_)
      exact ⟨(), ⟨.cons rfl .nil, rfl⟩, l1, by unfold badAsk; rw [h1]; rfl, hw1⟩
  rintro _ V ⟨l, hn, hb⟩
  refine ⟨_, cells_at l.all (i := 5) rfl, ?_⟩
  refine ⟨_, wrap_u8_i64 m.acks, ?_⟩
  refine ⟨_, cells_at l.geo (i := 0) rfl, ?_⟩
  refine And.intro (fun h1 => ?_) (fun h1 => ?_)
  · have h1 : decide ((m.acks.toNat : Int) < g.c) = true := h1
    refine ⟨_, cells_at l.all (i := 6) rfl, ?_⟩
    refine And.intro (fun h2 => ?_) (fun h2 => ?_)
    · have h2 : (!m.alone) = true := h2
      exact And.intro (rb (by unfold valuesL; rw [hn, h1, h2]; rfl)) hb
    · have h2 : (!m.alone) = false := h2
      refine ⟨g.enc, rfl, l.geo, l.lt, ?_⟩
      refine ⟨_, cells_at l.all (i := 1) rfl, ?_⟩
      refine Calls.mono (IsCache_c g m.from_ V (hB.below hb)) ?_
      rintro e V2 ⟨rfl, hb2⟩
      exact And.intro (rb (by unfold valuesL; rw [hn, h1, h2]; rfl)) (hb.trans (hb2.mono hb.size))
  · have h1 : decide ((m.acks.toNat : Int) < g.c) = false := h1
    exact And.intro (rb (by unfold valuesL; rw [hn, h1]; rfl)) hb

/-- The message that a kind lets through. -/
def pl0 (m : Msg) : Msg := { zeroM with kind := m.kind, from_ := m.from_, «to» := m.to, line := m.line }
def pl1 (m : Msg) (b : UInt8) : Msg := if hasB b 1 then { pl0 m with asker := m.asker } else pl0 m
def pl2 (m : Msg) (b : UInt8) : Msg := if hasB b 2 then { pl1 m b with acks := m.acks } else pl1 m b
def pl3 (m : Msg) (b : UInt8) : Msg := if hasB b 4 then { pl2 m b with alone := m.alone } else pl2 m b
def dcut (m : Msg) (n : Nat) (x : Msg) : Msg := { x with d0 := if 0 < n then m.d0 else x.d0, d1 := if 1 < n then m.d1 else x.d1, d2 := if 2 < n then m.d2 else x.d2, d3 := if 3 < n then m.d3 else x.d3 }
def pl4 (m : Msg) (g : Geo) (b : UInt8) : Msg := if hasB b 8 then dcut m g.w.toNat (pl3 m b) else pl3 m b
def plainL (m : Msg) (g : Geo) (b : UInt8) : Bool := decide (pl4 m g b = m)

theorem dcut_enc (m x : Msg) (n : Nat) (h : 1 ≤ n ∧ n ≤ 4) : (x.enc.take 7 ++ ((m.enc.drop 7).take n) ++ x.enc.drop (7 + n)) = (dcut m n x).enc := by
  have h4 : n = 1 ∨ n = 2 ∨ n = 3 ∨ n = 4 := by omega
  rcases h4 with rfl | rfl | rfl | rfl <;> rfl

theorem plain_c (m : Msg) (g : Geo) (b : UInt8) (w : World) (hR : geoR g = true) : Calls Tryz.prog 22 #[lval m g b] w fun e w' => e = .returned (.bool (plainL m g b)) ∧ Below w.heap.size w w' := by
  refine calls_of_M (S := sg 50) (sgOk _) (args := [lval m g b]) (.s .p (.c .p (.c .p (.c .p (.c .p (.c .p .p)))))) Tryz.func22 rfl rfl (Nat.le_of_ble_eq_true rfl) rfl ?_
  have hb0 : Below w.heap.size w (w.alloc (.cells (lval m g b).cells 45)) := (Below.refl _ _).alloc (Nat.le_refl _) _
  have f0 := hnew w (.cells (lval m g b).cells 45)
  have l0 : LBox m g b w.heap.size (w.alloc (.cells (lval m g b).cells 45)) := ⟨f0⟩
  obtain ⟨inv, hinv⟩ : ∃ inv : Msg → World → Prop, inv = fun x V => LBox m g b w.heap.size V ∧ V.heap[w.heap.size + 1]? = some (.cells x.val.cells 27 (0, 0)) ∧ Below w.heap.size w V := ⟨_, rfl⟩
  obtain ⟨env, henv⟩ : ∃ env : Env, env = ⟨[(1, .pointer (some ⟨w.heap.size, 0, none⟩)), (3, .pointer (some ⟨w.heap.size + 1, 0, none⟩))], []⟩ := ⟨_, rfl⟩
  have hput : ∀ {V : World} {x : Msg} (x' : Msg) {T : TypeId} {iT : TI} (hT : TIok Tryz.prog T iT) (hs : iT.size = 1) {o : Nat} {v : Value}, inv x V → o < 11 → v.cells = #[v] → v.oneCell' = true → x.enc.take o ++ [v] ++ x.enc.drop (o + 1) = x'.enc →
      ∀ {K : World → Prop}, (∀ V', inv x' V' → K V') → SatR ((storeVar T ⟨w.heap.size + 1, o, none⟩ v).run Tryz.prog V) fun _ w' => K w' := by
    intro V x x' T iT hT hs o v hi ho hv h1 he K k
    rw [hinv] at hi
    obtain ⟨l, fx, hb⟩ := hi
    refine store_cell hT hs fx (by show o < 11; exact ho) hv h1 fun V' f gr z => k V' ?_
    rw [hinv]
    refine ⟨⟨(gr.block _ l.lt (by simp)).trans l.box⟩, ?_, hb.grown gr hb.size (fun j e => by simp at e; omega)⟩
    rw [f]
    have : x.val.cells.toList = x.enc := rfl
    rw [this, he]; rfl
  refine ⟨Unit, fun _ => env, fun _ V => inv (pl0 m) V, ?_, ?_⟩
  · refine ⟨_, cells_at l0.all (i := 0) rfl, ?_⟩
    refine ⟨_, cells_at l0.all (i := 1) rfl, ?_⟩
    refine ⟨_, cells_at l0.all (i := 2) rfl, ?_⟩
    refine ⟨_, cells_at l0.all (i := 3) rfl, ?_⟩
    refine ⟨(pl0 m).enc, rfl, ?_⟩
    refine store_new (X := (w.alloc (.cells (lval m g b).cells 45))) (v := (pl0 m).val) (ttOk.get 27 _ rfl) (by rfl) rfl (by rfl) fun Y hbY fY sY => ?_
    have es : (w.alloc (.cells (lval m g b).cells 45)).heap.size = w.heap.size + 1 := World.size_alloc _ _
    rw [henv, hinv]
    rw [es] at fY
    refine ⟨(), ⟨.cons rfl (.cons (by rw [← es]; rfl) .nil), rfl⟩, l0.below hbY, fY, hb0.trans (hbY.mono hb0.size)⟩
  rintro _ V hV
  refine ⟨Unit, fun _ => env, fun _ V => inv (pl1 m b) V, ?_, ?_⟩
  · rw [hinv] at hV
    obtain ⟨l, fx, hb⟩ := hV
    rw [henv]
    refine ⟨lenc m g b, rfl, l.all, l.lt, ?_⟩
    refine Calls.mono (has_c m g b 1 V) ?_
    rintro e V1 ⟨rfl, hb1⟩
    have l1 := l.below hb1
    have i1 : inv (pl0 m) V1 := by rw [hinv]; exact ⟨l1, block_below hb1 fx, hb.trans (hb1.mono hb.size)⟩
    refine And.intro (fun h => ?_) (fun h => ?_)
    · have e1 : pl1 m b = { pl0 m with asker := m.asker } := by unfold pl1; rw [h]; rfl
      refine ⟨_, cells_at l1.all (i := 4) rfl, ?_⟩
      refine hput { pl0 m with asker := m.asker } (ttOk.get 5 _ rfl) rfl (o := 4) i1 (by decide) rfl rfl rfl fun V' i' => ?_
      rw [e1]
      exact ⟨(), ⟨.cons rfl (.cons rfl .nil), rfl⟩, i'⟩
    · have e1 : pl1 m b = pl0 m := by unfold pl1; rw [h]; rfl
      rw [e1]
      exact ⟨(), ⟨.cons rfl (.cons rfl .nil), rfl⟩, i1⟩
  rintro _ V hV
  refine ⟨Unit, fun _ => env, fun _ V => inv (pl2 m b) V, ?_, ?_⟩
  · rw [hinv] at hV
    obtain ⟨l, fx, hb⟩ := hV
    rw [henv]
    refine ⟨lenc m g b, rfl, l.all, l.lt, ?_⟩
    refine Calls.mono (has_c m g b 2 V) ?_
    rintro e V1 ⟨rfl, hb1⟩
    have l1 := l.below hb1
    have i1 : inv (pl1 m b) V1 := by rw [hinv]; exact ⟨l1, block_below hb1 fx, hb.trans (hb1.mono hb.size)⟩
    refine And.intro (fun h => ?_) (fun h => ?_)
    · have e1 : pl2 m b = { pl1 m b with acks := m.acks } := by unfold pl2; rw [h]; rfl
      refine ⟨_, cells_at l1.all (i := 5) rfl, ?_⟩
      refine hput { pl1 m b with acks := m.acks } (ttOk.get 5 _ rfl) rfl (o := 5) i1 (by decide) rfl rfl rfl fun V' i' => ?_
      rw [e1]
      exact ⟨(), ⟨.cons rfl (.cons rfl .nil), rfl⟩, i'⟩
    · have e1 : pl2 m b = pl1 m b := by unfold pl2; rw [h]; rfl
      rw [e1]
      exact ⟨(), ⟨.cons rfl (.cons rfl .nil), rfl⟩, i1⟩
  rintro _ V hV
  refine ⟨Unit, fun _ => env, fun _ V => inv (pl3 m b) V, ?_, ?_⟩
  · rw [hinv] at hV
    obtain ⟨l, fx, hb⟩ := hV
    rw [henv]
    refine ⟨lenc m g b, rfl, l.all, l.lt, ?_⟩
    refine Calls.mono (has_c m g b 4 V) ?_
    rintro e V1 ⟨rfl, hb1⟩
    have l1 := l.below hb1
    have i1 : inv (pl2 m b) V1 := by rw [hinv]; exact ⟨l1, block_below hb1 fx, hb.trans (hb1.mono hb.size)⟩
    refine And.intro (fun h => ?_) (fun h => ?_)
    · have e1 : pl3 m b = { pl2 m b with alone := m.alone } := by unfold pl3; rw [h]; rfl
      refine ⟨_, cells_at l1.all (i := 6) rfl, ?_⟩
      refine hput { pl2 m b with alone := m.alone } (ttOk.get 4 _ rfl) rfl (o := 6) i1 (by decide) rfl rfl rfl fun V' i' => ?_
      rw [e1]
      exact ⟨(), ⟨.cons rfl (.cons rfl .nil), rfl⟩, i'⟩
    · have e1 : pl3 m b = pl2 m b := by unfold pl3; rw [h]; rfl
      rw [e1]
      exact ⟨(), ⟨.cons rfl (.cons rfl .nil), rfl⟩, i1⟩
  rintro _ V hV
  refine ⟨Unit, fun _ => env, fun _ V => inv (pl4 m g b) V, ?_, ?_⟩
  · rw [hinv] at hV
    obtain ⟨l, fx, hb⟩ := hV
    rw [henv]
    refine ⟨lenc m g b, rfl, l.all, l.lt, ?_⟩
    refine Calls.mono (has_c m g b 8 V) ?_
    rintro e V1 ⟨rfl, hb1⟩
    have l1 := l.below hb1
    have i1 : inv (pl3 m b) V1 := by rw [hinv]; exact ⟨l1, block_below hb1 fx, hb.trans (hb1.mono hb.size)⟩
    refine And.intro (fun h => ?_) (fun h => ?_)
    · have e1 : pl4 m g b = dcut m g.w.toNat (pl3 m b) := by unfold pl4; rw [h]; rfl
      have hs := geoR_spec hR
      refine DrawE.ord [8] [0, 1, 2, 3, 4, 5, 6, 7, 8] (by kernel_rfl) ?_
      have i2 := i1
      rw [hinv] at i2
      obtain ⟨l2, fx2, hb2⟩ := i2
      refine ⟨_, cells_at (show LBox m g b w.heap.size V1.drew from ⟨hdr l2.box⟩).geo (i := 2) rfl, ?_⟩
      obtain ⟨n, hn⟩ : ∃ n, n = g.w.toNat := ⟨_, rfl⟩
      have hn4 : 1 ≤ n ∧ n ≤ 4 := by omega
      refine ⟨n, by omega, by omega, ?_⟩
      have hs5 : (Tryz.prog.info? 5).map (·.size) = some 1 := by kernel_rfl
      have hcl : ((m.enc.drop 7).take n).length = n := by
        have : (m.enc.drop 7).length = 4 := rfl
        rw [List.length_take, this]; omega
      have hrun := run_copy_row (P := Tryz.prog) V1.drew 33 33 3 5 (w.heap.size + 1) 7 n 4 ⟨w.heap.size, 7, none⟩ 4 4 (pl3 m b).val.cells 27 ((m.enc.drop 7).take n) Tryz.underlying33 hs5 (hdr fx2)
        (by rw [hcl]; exact (Nat.min_eq_right hn4.2).symm)
        (fun j v hv => by
          have hj : j < n := by have := (List.getElem?_eq_some_iff.1 hv).1; omega
          have h4 : j = 0 ∨ j = 1 ∨ j = 2 ∨ j = 3 := by omega
          have hm : m.enc[7 + j]? = some v := by
            rw [List.getElem?_take_of_lt hj, List.getElem?_drop] at hv; exact hv
          rw [addr_add]
          have := cells_at (show Cells V1.drew ⟨w.heap.size, 0, none⟩ m.enc from (show LBox m g b w.heap.size V1.drew from ⟨hdr l2.box⟩).msg) hm
          rw [Nat.zero_add] at this; exact this)
        (by rw [hcl]; show 7 + n ≤ 11; omega)
        (by
          intro v hv
          have hv := List.mem_of_mem_take hv
          simp only [Msg.enc, List.drop_succ_cons, List.drop_zero] at hv
          simp only [List.mem_cons, List.not_mem_nil, or_false] at hv
          rcases hv with rfl | rfl | rfl | rfl <;> rfl)
      refine SatR.mk hrun ?_
      refine ⟨(), ⟨.cons rfl (.cons rfl .nil), rfl⟩, ?_⟩
      rw [e1, hinv, ← hn]
      refine ⟨⟨(setRow_old (by omega)).trans (hdr l2.box)⟩, ?_, below_setRow hb2.drew (by omega) _⟩
      rw [hcl]
      have e2 := dcut_enc m (pl3 m b) n hn4
      have e3 : (pl3 m b).val.cells.toList = (pl3 m b).enc := rfl
      rw [e3, e2]
      exact setRow_new (hdr fx2)
    · have e1 : pl4 m g b = pl3 m b := by unfold pl4; rw [h]; rfl
      rw [e1]
      exact ⟨(), ⟨.cons rfl (.cons rfl .nil), rfl⟩, i1⟩
  rintro _ V hV
  rw [hinv] at hV
  obtain ⟨l, fx, hb⟩ := hV
  rw [henv]
  refine ⟨(pl4 m g b).enc, rfl, cells_block fx, hlt fx, ?_⟩
  refine ⟨m.enc, rfl, l.msg, l.lt, ?_⟩
  refine ⟨_, fun w => eql_msg _ _ (pl4 m g b) m w, ?_⟩
  exact And.intro rfl hb
end Go.Proofs.YtkekidalckflhaaGreatDoor
namespace Go.Proofs.YtkekidalckflhaaGreatDoor
open Go.Vc Go.RowKit Go.Sei

def usesL : List UInt8 := [0, 96, 96, 104, 96, 104, 145, 147, 145, 144, 190, 146, 160]
structure GlobW (w : World) : Prop where
  m : GlobM w
  uses : Cells w ⟨0, 0, none⟩ (usesL.map u8)
  bnd : BndM w
theorem GlobW.below {w w2 : World} (h : GlobW w) (hb : Below w.heap.size w w2) : GlobW w2 := ⟨h.m.below hb, cells_below hb h.uses, h.bnd.below hb⟩
def useOf (m : Msg) : UInt8 := usesL.getD m.kind.toNat 0
def rightL (g : Geo) (m : Msg) : Bool := geoR g && decide (m.kind.toNat < 13) && !decide (useOf m = 0) && decide ((m.line.toNat : Int) < linesOf g) && (endsL m g (useOf m) && valuesL m g (useOf m) && plainL m g (useOf m))

theorem RightM_c (g : Geo) (m : Msg) (w : World) (hg : GlobW w) : Calls Tryz.prog 8 #[g.val, m.val] w fun e w' => e = .returned (.bool (rightL g m)) ∧ Below w.heap.size w w' := by
  refine calls_of_M (S := sg 47) (sgOk _) (args := [g.val, m.val]) (.s .p (.c .p (.s .p .p))) Tryz.func8 rfl rfl (Nat.le_of_ble_eq_true rfl) rfl ?_
  obtain ⟨X, hX⟩ : ∃ X, X = (w.alloc (.cells g.val.cells 23)).alloc (.cells m.val.cells 27) := ⟨_, rfl⟩
  have hb0 : Below w.heap.size w X := by rw [hX]; exact ((Below.refl _ _).alloc (Nat.le_refl _) _).alloc (by simp) _
  have f0 : X.heap[w.heap.size]? = some (.cells g.val.cells 23 (0, 0)) := by rw [hX]; exact hold _ (hnew w _)
  have es : (w.alloc (.cells g.val.cells 23)).heap.size = w.heap.size + 1 := World.size_alloc _ _
  have f1 : X.heap[w.heap.size + 1]? = some (.cells m.val.cells 27 (0, 0)) := by
    have := hnew (w.alloc (.cells g.val.cells 23)) (.cells m.val.cells 27)
    rw [es] at this
    rw [hX]; exact this
  refine ⟨Unit, fun _ => ⟨[(2, .pointer (some ⟨w.heap.size, 0, none⟩)), (3, .pointer (some ⟨w.heap.size + 1, 0, none⟩))], []⟩,
    fun _ V => V.heap[w.heap.size]? = some (.cells g.val.cells 23 (0, 0)) ∧ V.heap[w.heap.size + 1]? = some (.cells m.val.cells 27 (0, 0)) ∧ Below w.heap.size w V ∧
      (geoR g = true ∧ m.kind.toNat < 13 ∧ useOf m ≠ 0 ∧ (m.line.toNat : Int) < linesOf g), ?_, ?_⟩
  · rw [← es, ← hX]
    refine DrawE.ord [] [0, 1, 2, 3, 4, 5, 6, 7, 8, 9, 10, 11, 12, 13, 14, 15, 16, 17, 18, 19, 20, 21, 22, 23] (by kernel_rfl) ?_
    refine ⟨g.enc, rfl, cells_block (hdr f0), hlt (hdr f0), ?_⟩
    refine Calls.mono (Right_geo_c g _ ((hg.bnd.below hb0).below (Below.refl _ _).drew)) ?_
    rintro e V ⟨rfl, hb⟩
    refine ⟨hb, ?_⟩
    have hw := hb0.drew.trans (hb.mono hb0.size)
    have v0 := block_below hb (hdr f0)
    have v1 := block_below hb (hdr f1)
    have gV := hg.below hw
    rw [es]
    refine And.intro (fun h => ?_) (fun h => ?_)
    · have hR := not_t h
      have fact : rightL g m = false := by unfold rightL; rw [hR]; rfl
      refine And.intro (fun _ => ?_) (fun h => by cases h)
      refine And.intro (fun _ => ?_) (fun h => by cases h)
      refine And.intro (fun _ => ?_) (fun h => by cases h)
      exact And.intro (rb fact.symm) hw
    have hR := not_f h
    refine ⟨_, cells_at (cells_block v1) (i := 0) rfl, ?_⟩
    refine ⟨_, wrap_u8_i64 m.kind, ?_⟩
    refine And.intro (fun h1 => ?_) (fun h1 => ?_)
    · have h1 : (13 : Int) ≤ m.kind.toNat := of_decide_eq_true h1
      have fact : rightL g m = false := by unfold rightL; rw [hR, decide_eq_false (by omega)]; rfl
      refine And.intro (fun _ => ?_) (fun h => by cases h)
      refine And.intro (fun _ => ?_) (fun h => by cases h)
      exact And.intro (rb fact.symm) hw
    have h1 : ¬ (13 : Int) ≤ m.kind.toNat := of_decide_eq_false h1
    have hk : m.kind.toNat < 13 := by omega
    refine ⟨_, cells_at (cells_block v1) (i := 0) rfl, ?_⟩
    refine ⟨m.kind.toNat, rfl, hk, ?_⟩
    have hu : (usesL.map u8)[m.kind.toNat]? = some (u8 (useOf m)) := by
      have hl : m.kind.toNat < usesL.length := hk
      rw [List.getElem?_map, List.getElem?_eq_getElem hl]
      simp only [useOf, List.getD_eq_getElem?_getD, List.getElem?_eq_getElem hl, Option.map_some, Option.getD_some]
    refine ⟨_, by rw [Nat.mul_one]; exact cells_at gV.uses hu, ?_⟩
    refine And.intro (fun h2 => ?_) (fun h2 => ?_)
    · have h2 : ((useOf m).toNat : Int) = ((0 : UInt8).toNat : Int) := of_decide_eq_true h2
      have h2 : useOf m = 0 := u8_eq.1 h2
      have fact : rightL g m = false := by unfold rightL; rw [hR, decide_eq_true hk, h2]; rfl
      refine And.intro (fun _ => ?_) (fun h => by cases h)
      exact And.intro (rb fact.symm) hw
    have h2 : ¬ ((useOf m).toNat : Int) = ((0 : UInt8).toNat : Int) := of_decide_eq_false h2
    have h2 : useOf m ≠ 0 := fun e => h2 (u8_eq.2 e)
    refine ⟨_, cells_at (cells_block v1) (i := 3) rfl, ?_⟩
    refine ⟨_, wrap_u8_i64 m.line, ?_⟩
    refine ⟨g.enc, rfl, cells_block v0, hlt v0, ?_⟩
    refine Calls.mono (Lines_c g V gV.bnd) ?_
    rintro e Y ⟨rfl, hbY⟩
    refine ⟨hbY, ?_⟩
    have hwY := hw.trans (hbY.mono hw.size)
    refine And.intro (fun h3 => ?_) (fun h3 => ?_)
    · have h3 : linesOf g ≤ m.line.toNat := of_decide_eq_true h3
      have fact : rightL g m = false := by unfold rightL; rw [hR, decide_eq_true hk, decide_eq_false h2, decide_eq_false (by omega)]; rfl
      exact And.intro (rb fact.symm) hwY
    have h3 : ¬ linesOf g ≤ m.line.toNat := of_decide_eq_false h3
    exact ⟨(), ⟨.cons rfl (.cons rfl .nil), rfl⟩, block_below hbY v0, block_below hbY v1, hwY, hR, hk, h2, by omega⟩
  rintro _ V ⟨v0, v1, hb, hR, hk, h2, h3⟩
  have gV := hg.below hb
  have hfact : rightL g m = (endsL m g (useOf m) && valuesL m g (useOf m) && plainL m g (useOf m)) := by
    unfold rightL; rw [hR, decide_eq_true hk, decide_eq_false h2, decide_eq_true h3]; rfl
  have hu : (usesL.map u8)[m.kind.toNat]? = some (u8 (useOf m)) := by
    have hl : m.kind.toNat < usesL.length := hk
    rw [List.getElem?_map, List.getElem?_eq_getElem hl]
    simp only [useOf, List.getD_eq_getElem?_getD, List.getElem?_eq_getElem hl, Option.map_some, Option.getD_some]
  obtain ⟨b, hbu⟩ : ∃ b, useOf m = b := ⟨_, rfl⟩
  rw [hbu] at hu hfact
  refine DrawE.ord [8] [0, 1, 2, 3, 4, 5, 6, 7, 8] (by kernel_rfl) ?_
  refine ⟨m.enc, rfl, cells_block (hdr v1), hlt (hdr v1), ?_⟩
  refine ⟨g.enc, rfl, cells_block (hdr v0), hlt (hdr v0), ?_⟩
  refine ⟨_, cells_at (cells_block (hdr v1)) (i := 0) rfl, ?_⟩
  refine ⟨m.kind.toNat, rfl, hk, ?_⟩
  refine ⟨_, by rw [Nat.mul_one]; exact cells_at (cells_below (Below.refl _ V).drew gV.uses) hu, ?_⟩
  refine ⟨lenc m g b, by kernel_rfl, ?_⟩
  refine ⟨(Below.refl _ _).alloc (Nat.le_refl _) _, ?_⟩
  refine store_new (X := V.drew) (v := lval m g b) (ttOk.get 45 _ rfl) (by rfl) rfl (by rfl) fun Y hbY fY sY => ?_
  have hwY := hb.drew.trans (hbY.mono hb.drew.size)
  have lY : LBox m g b V.drew.heap.size Y := ⟨fY⟩
  have gY := hg.below hwY
  refine ⟨lenc m g b, rfl, lY.all, lY.lt, ?_⟩
  refine Calls.mono (ends_c m g b Y gY.bnd) ?_
  rintro e Z ⟨rfl, hbZ⟩
  have hwZ := hwY.trans (hbZ.mono hwY.size)
  have lZ := lY.below hbZ
  refine And.intro (fun k1 => ?_) (fun k1 => ?_)
  · refine ⟨lenc m g b, rfl, lZ.all, lZ.lt, ?_⟩
    refine Calls.mono (values_c m g b Z (hg.below hwZ).bnd) ?_
    rintro e Z1 ⟨rfl, hb1⟩
    have hw1 := hwZ.trans (hb1.mono hwZ.size)
    have l1 := lZ.below hb1
    refine And.intro (fun k2 => ?_) (fun k2 => ?_)
    · refine ⟨lenc m g b, rfl, l1.all, l1.lt, ?_⟩
      refine Calls.mono (plain_c m g b Z1 hR) ?_
      rintro e Z2 ⟨rfl, hb2⟩
      exact And.intro (rb (by rw [hfact, k1, k2]; rfl)) (hw1.trans (hb2.mono hw1.size))
    · have k2 : valuesL m g b = false := k2
      exact And.intro (rb (by rw [hfact, k1, k2]; rfl)) hw1
  · refine And.intro (fun h => by cases h) (fun _ => ?_)
    exact And.intro (rb (by rw [hfact, k1]; rfl)) hwZ
end Go.Proofs.YtkekidalckflhaaGreatDoor
