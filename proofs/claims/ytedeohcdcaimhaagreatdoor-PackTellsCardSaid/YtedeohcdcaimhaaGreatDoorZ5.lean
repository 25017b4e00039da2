/- Law22: readings opened: systems, worlds. Law22: the condition of a row gives what the walks need of a world; a world that meets it. Law22: what stands behind lent slices: the marks. Law22: lent slices: what makes them. Law22: marks as values; a value equals itself. Law22: LentX and KeptX of rows. Law22: cores lent. Law22: rows of cores lent. Law22: cores kept. Law22: a system lent. Law22: a lent system kept. Law22: the reference's encoders: flags, appends, cores. Law22: the reference's encoder of caches. Law22: the reference's encoder of directory entries. geo's reference: Right. Law22: the reference: Fits. Contracts of the reference of messages (for seats without msg.Text): Bytes, Class, Less. Law22: the reference: Bytes. -/
import Derived.Test.YtedeohcdcaimhaaGreatDoorZ4
import Derived.KernelRfl
import Derived.WalkKit
import Derived.ChangeOld
import Derived.SevenTiedAt
import Derived.LaidHandle
import Derived.Stop.LaidErr
import Derived.Lib.LaidTab
import Derived.Laws.MakeOwn
import Derived.Test.YtedeohcdcaimhaaGreatDoorZ2
import Derived.Test.YtedeohcdcaimhaaGreatDoorZ1
import Derived.Test.YtedeohcdcaimhaaGreatDoorZ3
set_option linter.unusedSimpArgs false
namespace Go.Proofs.YtedeohcdcaimhaaGreatDoor
open Go.Vc Go.RowKit Go.Sei
open Go.ChangeShapes Go.WideShapes Go.ChangeAt
set_option linter.unusedVariables false

section
variable {H : Type} {enc : TypeId × Value → H} {P : Program} {w : World} {base : Nat} {spare : Nat → Bool} {held : Bool} {fuel : Nat} {t e : TypeId} {cs : List Value} {x : DataW H × List MemPlace}
/-- What every reading of a type's cells comes to. -/
def Opens (enc : TypeId × Value → H) (P : Program) (w : World) (base : Nat) (spare : Nat → Bool) (held : Bool) (t : TypeId) (R : List Value → Prop) : Prop :=
  ∀ fuel cs x, DataW.trod enc P w base spare held fuel t cs = some x → R cs
theorem Opens.field {fs : Array Field} {R : List Value → Prop} {i : Nat} {f : Field} {n : Nat} {xs : List (DataW H × List MemPlace)} {m : Nat} (hel : ∀ (i : Nat) (f : Field), fs[i]? = some f → DataW.trod enc P w base spare held m f.type ((cs.drop f.offset).take (P.cellsOf f.type)) = xs[i]?)
    (hl : xs.length = fs.size) (hi : fs[i]? = some f) {o : Nat} (hoo : f.offset = o) (hn : P.cellsOf f.type = n) (ho : Opens enc P w base spare held f.type R) : R ((cs.drop o).take n) := by
  subst hoo
  have h1 := hel i f hi
  have : i < fs.size := (Array.getElem?_eq_some_iff.1 hi).1
  rw [List.getElem?_eq_getElem (by omega), hn] at h1
  exact ho _ _ _ h1
theorem opens_u8 (ht : P.underlying t = some (.int .u8)) : Opens enc P w base spare held t fun cs => ∃ b : UInt8, cs = [u8 b] := fun fuel cs x h => by
  obtain ⟨b, h, _⟩ := open_u8 ht h
  exact ⟨b, h⟩
theorem opens_bool (ht : P.underlying t = some .bool) : Opens enc P w base spare held t fun cs => ∃ b : Bool, cs = [.bool b] := fun fuel cs x h => by
  obtain ⟨b, h, _⟩ := DataW.trod_bool ht h
  exact ⟨b, h⟩
theorem opens_int (ht : P.underlying t = some (.int .i64)) : Opens enc P w base spare held t fun cs => ∃ b : Int, cs = [.int .i64 b] := fun fuel cs x h => by
  obtain ⟨n, h, _, _⟩ := DataW.trod_int ht h
  exact ⟨n, h⟩
theorem opens_i8 (ht : P.underlying t = some (.int .i8)) : Opens enc P w base spare held t fun cs => ∃ b : UInt8, cs = [.int .i8 (s8 b)] := fun fuel cs x h => by
  obtain ⟨n, rfl, _, hw⟩ := DataW.trod_int ht h
  have hb : -128 ≤ n ∧ n ≤ 127 := by
    simp only [Lit.wf, decide_eq_true_eq, Bool.and_eq_true] at hw
    first
      | exact ⟨by simpa [IntKind.min, IntKind.signed, IntKind.bits] using hw.1, by simpa [IntKind.max, IntKind.signed, IntKind.bits] using hw.2⟩
      | (simp [IntKind.min, IntKind.max, IntKind.signed, IntKind.bits] at hw; omega)
  refine ⟨UInt8.ofNat (n % 256).toNat, ?_⟩
  have e : ((UInt8.ofNat (n % 256).toNat).toNat : Int) = n % 256 := by rw [UInt8.toNat_ofNat']; omega
  unfold s8
  split <;> (congr 2; omega)
theorem opens_u64 (ht : P.underlying t = some (.int .u64)) : Opens enc P w base spare held t fun cs => ∃ n : Nat, n < 18446744073709551616 ∧ cs = [.int .u64 (n : Int)] := fun fuel cs x h => by
  obtain ⟨n, rfl, _, hw⟩ := DataW.trod_int ht h
  have hb : 0 ≤ n ∧ n ≤ 18446744073709551615 := by
    simp only [Lit.wf, decide_eq_true_eq, Bool.and_eq_true] at hw
    first
      | exact ⟨by simpa [IntKind.min, IntKind.signed, IntKind.bits] using hw.1, by simpa [IntKind.max, IntKind.signed, IntKind.bits] using hw.2⟩
      | (simp [IntKind.min, IntKind.max, IntKind.signed, IntKind.bits] at hw; omega)
  exact ⟨n.toNat, by omega, by congr 2; omega⟩
theorem opens_u8s {n : Nat} (ht : P.underlying t = some (.array n e)) (he : P.underlying e = some (.int .u8)) (hc : P.cellsOf e = 1) (hn : P.cellsOf t = n) : Opens enc P w base spare held t fun cs => ∃ bs : List UInt8, bs.length = n ∧ cs = bs.map u8 := fun fuel cs x h => by
  obtain ⟨bs, h1, h2, _⟩ := open_u8s ht he hc hn h
  exact ⟨bs, h1, h2⟩

theorem list_of {β : Type} {n : Nat} (i0 : β) {Q : Nat → β → Prop} (h : ∀ i, i < n → ∃ b, Q i b) : ∃ bs : List β, bs.length = n ∧ ∀ i (hi : i < bs.length), Q i bs[i] := by
  have h2 : ∀ i, ∃ b, i < n → Q i b := fun i => by
    by_cases hi : i < n
    · obtain ⟨b, hb⟩ := h i hi; exact ⟨b, fun _ => hb⟩
    · exact ⟨i0, fun h => absurd h hi⟩
  obtain ⟨g, hg⟩ := Classical.axiomOfChoice h2
  refine ⟨(List.range n).map g, by simp, fun i hi => ?_⟩
  simp only [List.getElem_map, List.getElem_range]
  exact hg i (by simpa using hi)
theorem flat_of {β : Type} {f : β → List Value} {sz : Nat} : ∀ (bs : List β) (cs : List Value), cs.length = bs.length * sz → (∀ i (h : i < bs.length), (cs.drop (i * sz)).take sz = f bs[i]) → cs = bs.flatMap f
  | [], cs, hl, _ => by simpa using hl
  | b :: r, cs, hl, h => by
    have h0 := h 0 (by simp)
    simp only [Nat.zero_mul, List.drop_zero, List.getElem_cons_zero] at h0
    rw [List.flatMap_cons, ← h0]
    conv => lhs; rw [← List.take_append_drop sz cs]
    congr 1
    refine flat_of (sz := sz) r (cs.drop sz) (by rw [List.length_drop, hl, List.length_cons, Nat.add_mul]; omega) fun i hi => ?_
    have h1 := h (i + 1) (by simpa using hi)
    rw [List.drop_drop]
    simpa [Nat.add_mul, Nat.add_comm] using h1
theorem opens_arr {β : Type} (i0 : β) {f : β → List Value} {Q : β → Prop} {n sz : Nat} (ht : P.underlying t = some (.array n e)) (hc : P.cellsOf e = sz) (hn : P.cellsOf t = n * sz) (ho : Opens enc P w base spare held e fun cs => ∃ b, Q b ∧ cs = f b) :
    Opens enc P w base spare held t fun cs => ∃ bs : List β, bs.length = n ∧ (∀ b ∈ bs, Q b) ∧ cs = bs.flatMap f := fun fuel cs x h => by
  obtain ⟨xs, m, rfl, rfl, hl, hx, hel⟩ := DataW.trod_array ht h
  rw [hn] at hl
  have each : ∀ i, i < n → ∃ b : β, Q b ∧ (cs.drop (i * sz)).take sz = f b := fun i hi => by
    have h1 := hel i hi
    rw [hc, List.getElem?_eq_getElem (by omega)] at h1
    exact ho _ _ _ h1
  obtain ⟨bs, h1, h2⟩ := list_of i0 each
  refine ⟨bs, h1, fun b hb => ?_, flat_of bs cs (by rw [hl, h1]) fun i hi => (h2 i hi).2⟩
  obtain ⟨i, hi, rfl⟩ := List.getElem_of_mem hb
  exact (h2 i hi).1
theorem opens_sl {β : Type} (i0 : β) {f : β → List Value} {Q : β → Prop} {sz : Nat} (hp : 0 < sz) (ht : P.underlying t = some (.slice e)) (hc : P.cellsOf e = sz) (ho : Opens enc P w base spare held e fun cs => ∃ b, Q b ∧ cs = f b) :
    Opens enc P w base spare held t fun cs => ∃ (p : Option Addr) (cap : Nat) (l : List β), cs = [.slice p l.length cap] ∧ l.length ≤ 9223372036854775807 ∧ (p = none → cap = 0) ∧ (∀ b ∈ l, Q b) ∧ ∃ b o, (l.length = 0 ∨ p = some ⟨b, o, none⟩) ∧ ∀ i (hi : i < l.length), b < w.heap.size ∧ Cells w ⟨b, o + i * sz, none⟩ (f l[i]) := fun fuel cs x h => by
  rcases DataW.trod_slice ht h with ⟨rfl, _⟩ | ⟨a, len, cap, elems, rest, n, _, rfl, _, _, hlc, hcm, hlen, hel, _, _⟩
  · exact ⟨none, 0, [], rfl, by simp, fun _ => rfl, by simp, 0, 0, .inl rfl, fun i hi => by simp at hi⟩
  · have each : ∀ i, i < len → ∃ m : β, Q m ∧ (a.add (i * sz)).spot = none ∧ (a.add (i * sz)).block < w.heap.size ∧ Cells w ⟨(a.add (i * sz)).block, (a.add (i * sz)).off, none⟩ (f m) := fun i hi => by
      have h1 := hel i hi
      rw [hc, List.getElem?_eq_getElem (by omega), Option.bind_eq_some_iff] at h1
      obtain ⟨cs, h2, h3⟩ := h1
      obtain ⟨m, hq, rfl⟩ := ho _ _ _ h3
      exact ⟨m, hq, cells_of_run hp h2⟩
    obtain ⟨l, h1, h2⟩ := list_of i0 each
    have hm : maxLen = 9223372036854775807 := rfl
    refine ⟨some a, cap, l, by rw [h1], by omega, (fun h => by cases h), fun b hb => ?_, a.block, a.off, ?_, fun i hi => ?_⟩
    · obtain ⟨i, hi, rfl⟩ := List.getElem_of_mem hb
      exact (h2 i hi).1
    · by_cases h00 : l.length = 0
      · exact .inl h00
      · right
        have hsp : a.spot = none := by
          have := (h2 0 (by omega)).2.1
          simpa [Addr.add] using this
        obtain ⟨b, o, s⟩ := a
        dsimp only at hsp
        subst hsp
        rfl
    · have hsp : a.spot = none := by
        have := (h2 0 (by omega)).2.1
        simpa [Addr.add] using this
      obtain ⟨b, o, s⟩ := a
      dsimp only at hsp
      subst hsp
      have := (h2 i hi).2.2
      rw [add_none] at this
      exact this
theorem cut (cs : List Value) (o n o' : Nat) (h : o + n = o') : cs.drop o = (cs.drop o).take n ++ cs.drop o' := by
  rw [← h, ← List.drop_drop, List.take_append_drop]
end
section
variable {H : Type} {enc : TypeId × Value → H} {w : World} {base : Nat} {spare : Nat → Bool} {held : Bool}
theorem cC (t n : Nat) (h : Tryz.prog.cellsOf t = n) : Tryz.prog.cellsOf t = n := h
theorem opens_sto : Opens enc Tryz.prog w base spare held 132 fun cs => ∃ x : Sto, True ∧ cs = stoE.enc x := fun fuel cs x h => by
  obtain ⟨xs, m, rfl, rfl, hl, hx, hel⟩ := DataW.trod_struct Tryz.underlying132 h
  rw [cC 132 2 (by kernel_rfl)] at hl
  obtain ⟨b0, e0⟩ := Opens.field (o := 0) (i := 0) hel hx rfl rfl cells5 (opens_u8 Tryz.underlying5)
  obtain ⟨b1, e1⟩ := Opens.field (o := 1) (i := 1) hel hx rfl rfl cells5 (opens_u8 Tryz.underlying5)
  refine ⟨⟨b0, b1⟩, trivial, ?_⟩
  have h0 : cs = cs.drop 0 := rfl
  have h9 : cs.drop 2 = [] := List.drop_of_length_le (by omega)
  rw [h0, cut cs 0 1 1 rfl, cut cs 1 1 2 rfl, e0, e1, h9]
  rfl
theorem opens_lin : Opens enc Tryz.prog w base spare held 88 fun cs => ∃ x : Lin, True ∧ cs = linE.enc x := fun fuel cs x h => by
  obtain ⟨xs, m, rfl, rfl, hl, hx, hel⟩ := DataW.trod_struct Tryz.underlying88 h
  rw [cC 88 8 (by kernel_rfl)] at hl
  obtain ⟨b0, e0⟩ := Opens.field (o := 0) (i := 0) hel hx rfl rfl cells5 (opens_u8 Tryz.underlying5)
  obtain ⟨b1, e1⟩ := Opens.field (o := 1) (i := 1) hel hx rfl rfl cells5 (opens_u8 Tryz.underlying5)
  obtain ⟨b2, e2⟩ := Opens.field (o := 2) (i := 2) hel hx rfl rfl (cC 86 1 (by kernel_rfl)) (opens_i8 Tryz.underlying86)
  obtain ⟨b3, e3⟩ := Opens.field (o := 3) (i := 3) hel hx rfl rfl cells4 (opens_bool Tryz.underlying4)
  obtain ⟨bs, h4, e4⟩ := Opens.field (o := 4) (i := 4) hel hx rfl rfl cells28 (opens_u8s Tryz.underlying52 Tryz.underlying5 cells5 cells28)
  match bs, h4 with
  | [d0, d1, d2, d3], _ =>
  refine ⟨⟨b0, b1, b2, b3, d0, d1, d2, d3⟩, trivial, ?_⟩
  have h0 : cs = cs.drop 0 := rfl
  have h9 : cs.drop 8 = [] := List.drop_of_length_le (by omega)
  rw [h0, cut cs 0 1 1 rfl, cut cs 1 1 2 rfl, cut cs 2 1 3 rfl, cut cs 3 1 4 rfl, cut cs 4 4 8 rfl, e0, e1, e2, e3, e4, h9]
  rfl
theorem opens_nte : Opens enc Tryz.prog w base spare held 92 fun cs => ∃ x : Nte, True ∧ cs = nteE.enc x := fun fuel cs x h => by
  obtain ⟨xs, m, rfl, rfl, hl, hx, hel⟩ := DataW.trod_struct Tryz.underlying92 h
  rw [cC 92 7 (by kernel_rfl)] at hl
  obtain ⟨b0, e0⟩ := Opens.field (o := 0) (i := 0) hel hx rfl rfl cells5 (opens_u8 Tryz.underlying5)
  obtain ⟨b1, e1⟩ := Opens.field (o := 1) (i := 1) hel hx rfl rfl (cC 3 1 (by kernel_rfl)) (opens_int Tryz.underlying3)
  obtain ⟨bs, h4, e2⟩ := Opens.field (o := 2) (i := 2) hel hx rfl rfl (cC 51 4 (by kernel_rfl)) (opens_u8s Tryz.underlying51 Tryz.underlying5 cells5 (cC 51 4 (by kernel_rfl)))
  obtain ⟨b3, e3⟩ := Opens.field (o := 6) (i := 3) hel hx rfl rfl cells5 (opens_u8 Tryz.underlying5)
  match bs, h4 with
  | [d0, d1, d2, d3], _ =>
  refine ⟨⟨b0, b1, d0, d1, d2, d3, b3⟩, trivial, ?_⟩
  have h0 : cs = cs.drop 0 := rfl
  have h9 : cs.drop 7 = [] := List.drop_of_length_le (by omega)
  rw [h0, cut cs 0 1 1 rfl, cut cs 1 1 2 rfl, cut cs 2 4 6 rfl, cut cs 6 1 7 rfl, e0, e1, e2, e3, h9]
  rfl
theorem opens_op : Opens enc Tryz.prog w base spare held 95 fun cs => ∃ k l a b : UInt8, cs = [u8 k, u8 l, u8 a, u8 b] := fun fuel cs x h => by
  obtain ⟨xs, m, rfl, rfl, hl, hx, hel⟩ := DataW.trod_struct Tryz.underlying95 h
  rw [cC 95 4 (by kernel_rfl)] at hl
  obtain ⟨b0, e0⟩ := Opens.field (o := 0) (i := 0) hel hx rfl rfl cells5 (opens_u8 Tryz.underlying5)
  obtain ⟨b1, e1⟩ := Opens.field (o := 1) (i := 1) hel hx rfl rfl cells5 (opens_u8 Tryz.underlying5)
  obtain ⟨b2, e2⟩ := Opens.field (o := 2) (i := 2) hel hx rfl rfl cells5 (opens_u8 Tryz.underlying5)
  obtain ⟨b3, e3⟩ := Opens.field (o := 3) (i := 3) hel hx rfl rfl cells5 (opens_u8 Tryz.underlying5)
  refine ⟨b0, b1, b2, b3, ?_⟩
  have h0 : cs = cs.drop 0 := rfl
  have h9 : cs.drop 4 = [] := List.drop_of_length_le (by omega)
  rw [h0, cut cs 0 1 1 rfl, cut cs 1 1 2 rfl, cut cs 2 1 3 rfl, cut cs 3 1 4 rfl, e0, e1, e2, e3, h9]
  rfl
theorem opens_cac : Opens enc Tryz.prog w base spare held 97 fun cs => ∃ x : Cac, (x.ways.length = 16 ∧ x.notes.length = 4) ∧ cs = cacCells x := fun fuel cs x h => by
  obtain ⟨xs, m, rfl, rfl, hl, hx, hel⟩ := DataW.trod_struct Tryz.underlying97 h
  rw [cC 97 160 (by kernel_rfl)] at hl
  have row : Opens enc Tryz.prog w base spare held 89 fun cs => ∃ bs : List Lin, bs.length = 4 ∧ (∀ b ∈ bs, True) ∧ cs = bs.flatMap linE.enc := opens_arr zeroLin (sz := 8) Tryz.underlying89 (by kernel_rfl) (by kernel_rfl) opens_lin
  have ways := opens_arr (enc := enc) (w := w) (base := base) (spare := spare) (held := held) (β := List Lin) [] (f := fun bs => bs.flatMap linE.enc) (Q := fun bs => bs.length = 4) (n := 4) (sz := 32) Tryz.underlying90 (by kernel_rfl) (by kernel_rfl) (fun fuel cs x h => by
    obtain ⟨bs, h1, _, h2⟩ := row fuel cs x h
    exact ⟨bs, h1, h2⟩)
  obtain ⟨wss, w1, w2, e0⟩ := Opens.field (o := 0) (i := 0) hel hx rfl rfl (cC 90 128 (by kernel_rfl)) ways
  obtain ⟨ns, n1, _, e1⟩ := Opens.field (o := 128) (i := 1) hel hx rfl rfl (cC 93 28 (by kernel_rfl)) (opens_arr zeroNte (sz := 7) Tryz.underlying93 (by kernel_rfl) (by kernel_rfl) opens_nte)
  obtain ⟨k, l, a, b, e2⟩ := Opens.field (o := 156) (i := 2) hel hx rfl rfl (cC 95 4 (by kernel_rfl)) opens_op
  have hfl : wss.flatten.length = 16 := by
    match wss, w1 with
    | [a, b, c, d], _ =>
      have := w2 a (by simp); have := w2 b (by simp); have := w2 c (by simp); have := w2 d (by simp)
      simp only [List.flatten_cons, List.flatten_nil, List.length_append, List.length_nil]; omega
  refine ⟨⟨wss.flatten, ns, k, l, a, b⟩, ⟨hfl, n1⟩, ?_⟩
  have h0 : cs = cs.drop 0 := rfl
  have h9 : cs.drop 160 = [] := List.drop_of_length_le (by omega)
  rw [h0, cut cs 0 128 128 rfl, cut cs 128 28 156 rfl, cut cs 156 4 160 rfl, e0, e1, e2, h9, flat_flat]
  simp [cacCells, opCells]
theorem opens_view : Opens enc Tryz.prog w base spare held 50 fun cs => ∃ (k : UInt8) (n : Nat) (b : Bool), n < 18446744073709551616 ∧ cs = [u8 k, .int .u64 (n : Int), .bool b] := fun fuel cs x h => by
  obtain ⟨xs, m, rfl, rfl, hl, hx, hel⟩ := DataW.trod_struct Tryz.underlying50 h
  rw [cC 50 3 (by kernel_rfl)] at hl
  obtain ⟨b0, e0⟩ := Opens.field (o := 0) (i := 0) hel hx rfl rfl cells5 (opens_u8 Tryz.underlying5)
  obtain ⟨n, hn, e1⟩ := Opens.field (o := 1) (i := 1) hel hx rfl rfl (cC 48 1 (by kernel_rfl)) (opens_u64 Tryz.underlying48)
  obtain ⟨b2, e2⟩ := Opens.field (o := 2) (i := 2) hel hx rfl rfl cells4 (opens_bool Tryz.underlying4)
  refine ⟨b0, n, b2, hn, ?_⟩
  have h0 : cs = cs.drop 0 := rfl
  have h9 : cs.drop 3 = [] := List.drop_of_length_le (by omega)
  rw [h0, cut cs 0 1 1 rfl, cut cs 1 1 2 rfl, cut cs 2 1 3 rfl, e0, e1, e2, h9]
  rfl
theorem opens_hom : Opens enc Tryz.prog w base spare held 54 fun cs => ∃ x : Hom, True ∧ cs = homE.enc x := fun fuel cs x h => by
  obtain ⟨xs, m, rfl, rfl, hl, hx, hel⟩ := DataW.trod_struct Tryz.underlying54 h
  rw [cC 54 11 (by kernel_rfl)] at hl
  obtain ⟨b0, e0⟩ := Opens.field (o := 0) (i := 0) hel hx rfl rfl cells5 (opens_u8 Tryz.underlying5)
  obtain ⟨b1, e1⟩ := Opens.field (o := 1) (i := 1) hel hx rfl rfl cells5 (opens_u8 Tryz.underlying5)
  obtain ⟨k, n, al, hn, e2⟩ := Opens.field (o := 2) (i := 2) hel hx rfl rfl (cC 50 3 (by kernel_rfl)) opens_view
  obtain ⟨b3, e3⟩ := Opens.field (o := 5) (i := 3) hel hx rfl rfl cells5 (opens_u8 Tryz.underlying5)
  obtain ⟨b4, e4⟩ := Opens.field (o := 6) (i := 4) hel hx rfl rfl cells5 (opens_u8 Tryz.underlying5)
  obtain ⟨bs, h4, e5⟩ := Opens.field (o := 7) (i := 5) hel hx rfl rfl cells28 (opens_u8s Tryz.underlying52 Tryz.underlying5 cells5 cells28)
  match bs, h4 with
  | [d0, d1, d2, d3], _ =>
  have by8 : ∀ k : Nat, (UInt8.ofNat (k % 256)).toNat = k % 256 := fun k => by rw [UInt8.toNat_ofNat']; omega
  refine ⟨⟨b0, b1, k, UInt8.ofNat (n % 256), UInt8.ofNat (n / 256 % 256), UInt8.ofNat (n / 65536 % 256), UInt8.ofNat (n / 16777216 % 256), UInt8.ofNat (n / 4294967296 % 256), UInt8.ofNat (n / 1099511627776 % 256), UInt8.ofNat (n / 281474976710656 % 256), UInt8.ofNat (n / 72057594037927936 % 256), al, b3, b4, d0, d1, d2, d3⟩, trivial, ?_⟩
  have h0 : cs = cs.drop 0 := rfl
  have h9 : cs.drop 11 = [] := List.drop_of_length_le (by omega)
  rw [h0, cut cs 0 1 1 rfl, cut cs 1 1 2 rfl, cut cs 2 3 5 rfl, cut cs 5 1 6 rfl, cut cs 6 1 7 rfl, cut cs 7 4 11 rfl, e0, e1, e2, e3, e4, e5, h9]
  have e : leM ⟨b0, b1, k, UInt8.ofNat (n % 256), UInt8.ofNat (n / 256 % 256), UInt8.ofNat (n / 65536 % 256), UInt8.ofNat (n / 16777216 % 256), UInt8.ofNat (n / 4294967296 % 256), UInt8.ofNat (n / 1099511627776 % 256), UInt8.ofNat (n / 281474976710656 % 256), UInt8.ofNat (n / 72057594037927936 % 256), al, b3, b4, d0, d1, d2, d3⟩ = n := by
    unfold leM
    simp only [by8]
    omega
  simp only [homE, e]
  rfl
theorem opens_core : Opens enc Tryz.prog w base spare held 66 fun cs => ∃ x : Cor × Option Addr × Nat, (x.1.buf.length ≤ 9223372036854775807 ∧ RowB stoE w.heap.size w x.2.1 x.1.buf) ∧ cs = corCells x.1 (.slice x.2.1 x.1.buf.length x.2.2) := fun fuel cs x h => by
  obtain ⟨xs, m, rfl, rfl, hl, hx, hel⟩ := DataW.trod_struct Tryz.underlying66 h
  rw [cC 66 12 (by kernel_rfl)] at hl
  obtain ⟨b0, e0⟩ := Opens.field (o := 0) (i := 0) hel hx rfl rfl cells5 (opens_u8 Tryz.underlying5)
  obtain ⟨bs, h8, e1⟩ := Opens.field (o := 1) (i := 1) hel hx rfl rfl (cC 63 8 (by kernel_rfl)) (opens_u8s Tryz.underlying63 Tryz.underlying5 cells5 (cC 63 8 (by kernel_rfl)))
  obtain ⟨p, cap, l, e2, hlen, _, _, b, o, hp, hc⟩ := Opens.field (o := 9) (i := 2) hel hx rfl rfl (cC 64 1 (by kernel_rfl)) (opens_sl (⟨0, 0⟩ : Sto) (sz := 2) (by decide) Tryz.underlying64 (by kernel_rfl) opens_sto)
  obtain ⟨b3, e3⟩ := Opens.field (o := 10) (i := 3) hel hx rfl rfl cells4 (opens_bool Tryz.underlying4)
  obtain ⟨b4, e4⟩ := Opens.field (o := 11) (i := 4) hel hx rfl rfl cells4 (opens_bool Tryz.underlying4)
  match bs, h8 with
  | [r0, r1, r2, r3, r4, r5, r6, r7], _ =>
  refine ⟨(⟨b0, r0, r1, r2, r3, r4, r5, r6, r7, l, b3, b4⟩, p, cap), ⟨hlen, ?_⟩, ?_⟩
  · rcases hp with hp | rfl
    · exact .inl (List.eq_nil_of_length_eq_zero hp)
    · by_cases h0 : l = []
      · exact .inl h0
      · have hl0 : 0 < l.length := List.length_pos_iff.2 h0
        have hlt := (hc 0 hl0).1
        exact RowB.of_slr (.inr ⟨b, o, rfl, hlt, fun i hi => (hc i hi).2⟩)
  · have h0 : cs = cs.drop 0 := rfl
    have h9 : cs.drop 12 = [] := List.drop_of_length_le (by omega)
    rw [h0, cut cs 0 1 1 rfl, cut cs 1 8 9 rfl, cut cs 9 1 10 rfl, cut cs 10 1 11 rfl, cut cs 11 1 12 rfl, e0, e1, e2, e3, e4, h9]
    rfl
/-- The bounds of what was read. -/
structure LensOk (s : Sy) : Prop where
  c : s.cores.length ≤ 9223372036854775807
theorem opens_sys : Opens enc Tryz.prog w base spare held 58 fun cs => ∃ s : Sy, SysV w.heap.size w cs s ∧ LensOk s := fun fuel cs x h => by
  obtain ⟨xs, m, rfl, rfl, hl, hx, hel⟩ := DataW.trod_struct Tryz.underlying58 h
  rw [cC 58 69 (by kernel_rfl)] at hl
  obtain ⟨p0, c0, l0, e0, k0, _, q0, b0, o0, hp0, hc0⟩ := Opens.field (o := 0) (i := 0) hel hx rfl rfl (cC 45 1 (by kernel_rfl)) (opens_sl ((zeroCor, none, 0) : Cor × Option Addr × Nat) (f := fun x => corCells x.1 (.slice x.2.1 x.1.buf.length x.2.2)) (sz := 12) (by decide) Tryz.underlying45 (by kernel_rfl) opens_core)
  obtain ⟨p1, c1, l1, e1, k1, _, q1, b1, o1, hp1, hc1⟩ := Opens.field (o := 1) (i := 1) hel hx rfl rfl (cC 46 1 (by kernel_rfl)) (opens_sl zeroCac (sz := 160) (by decide) Tryz.underlying46 (by kernel_rfl) opens_cac)
  obtain ⟨hs, h6, _, e2⟩ := Opens.field (o := 2) (i := 2) hel hx rfl rfl (cC 55 66 (by kernel_rfl)) (opens_arr zeroH (sz := 11) Tryz.underlying55 (by kernel_rfl) (by kernel_rfl) opens_hom)
  obtain ⟨p3, c3, l3, e3, k3, hn3, q3, b3, o3, hp3, hc3⟩ := Opens.field (o := 68) (i := 3) hel hx rfl rfl (cC 56 1 (by kernel_rfl)) (opens_sl zeroM (f := Msg.enc) (Q := fun _ => True) (sz := 11) (by decide) Tryz.underlying56 (by kernel_rfl) (fun fuel cs x h => by
    obtain ⟨m, hm⟩ := open_msg h
    exact ⟨m, trivial, hm⟩))
  refine ⟨⟨l0.map (·.1), l1, hs, l3⟩, ⟨⟨p0, c0, p1, c1, p3, c3, ?_, ⟨b0, o0, by simpa using hp0, fun i hi => ?_⟩, ⟨b1, o1, hp1, fun i hi => ?_⟩, ?_, hn3⟩, h6⟩, ⟨by simpa using k0⟩⟩
  · have h0 : cs = cs.drop 0 := rfl
    have h9 : cs.drop 69 = [] := List.drop_of_length_le (by omega)
    rw [h0, cut cs 0 1 1 rfl, cut cs 1 1 2 rfl, cut cs 2 66 68 rfl, cut cs 68 1 69 rfl, e0, e1, e2, e3, h9]
    simp
  · simp only [List.length_map] at hi
    obtain ⟨g1, g2⟩ := hc0 i hi
    obtain ⟨_, g3⟩ := q0 _ (List.getElem_mem hi)
    simp only [List.getElem_map]
    exact ⟨l0[i].2.1, l0[i].2.2, g1, g2, g3⟩
  · obtain ⟨g1, g2⟩ := hc1 i hi
    obtain ⟨g3, g4⟩ := q1 _ (List.getElem_mem hi)
    exact ⟨g1, g2, g3, g4⟩
  · rcases hp3 with hp | rfl
    · exact .inl (List.eq_nil_of_length_eq_zero hp)
    · by_cases h0 : l3 = []
      · exact .inl h0
      · have hl0 : 0 < l3.length := List.length_pos_iff.2 h0
        have hlt := (hc3 0 hl0).1
        exact RowB.of_slr (E := Msg.E) (.inr ⟨b3, o3, rfl, hlt, fun i hi => (hc3 i hi).2⟩)
theorem opens_geo : Opens enc Tryz.prog w base spare held 31 fun cs => ∃ g : Geo, cs = g.enc := fun fuel cs x h => by
  obtain ⟨xs, m, rfl, rfl, hl, hx, hel⟩ := DataW.trod_struct Tryz.underlying31 h
  rw [cC 31 5 (by kernel_rfl)] at hl
  obtain ⟨b0, e0⟩ := Opens.field (o := 0) (i := 0) hel hx rfl rfl (cC 3 1 (by kernel_rfl)) (opens_int Tryz.underlying3)
  obtain ⟨b1, e1⟩ := Opens.field (o := 1) (i := 1) hel hx rfl rfl (cC 3 1 (by kernel_rfl)) (opens_int Tryz.underlying3)
  obtain ⟨b2, e2⟩ := Opens.field (o := 2) (i := 2) hel hx rfl rfl (cC 3 1 (by kernel_rfl)) (opens_int Tryz.underlying3)
  obtain ⟨b3, e3⟩ := Opens.field (o := 3) (i := 3) hel hx rfl rfl (cC 3 1 (by kernel_rfl)) (opens_int Tryz.underlying3)
  obtain ⟨b4, e4⟩ := Opens.field (o := 4) (i := 4) hel hx rfl rfl (cC 3 1 (by kernel_rfl)) (opens_int Tryz.underlying3)
  refine ⟨⟨b0, b1, b2, b3, b4⟩, ?_⟩
  have h0 : cs = cs.drop 0 := rfl
  have h9 : cs.drop 5 = [] := List.drop_of_length_le (by omega)
  rw [h0, cut cs 0 1 1 rfl, cut cs 1 1 2 rfl, cut cs 2 1 3 rfl, cut cs 3 1 4 rfl, cut cs 4 1 5 rfl, e0, e1, e2, e3, e4, h9]
  rfl
theorem opens_mode : Opens enc Tryz.prog w base spare held 33 fun cs => ∃ m : UInt8, cs[0]? = some (u8 m) := fun fuel cs x h => by
  obtain ⟨xs, m, rfl, rfl, hl, hx, hel⟩ := DataW.trod_struct Tryz.underlying33 h
  obtain ⟨b0, e0⟩ := Opens.field (o := 0) (i := 0) hel hx rfl rfl cells5 (opens_u8 Tryz.underlying5)
  refine ⟨b0, ?_⟩
  have := congrArg (fun l => l[0]?) e0
  simpa using this
theorem opens_world : Opens enc Tryz.prog w base spare held 44 fun cs => ∃ (g : Geo) (mode : UInt8), WorV cs g.enc mode := fun fuel cs x h => by
  obtain ⟨xs, m, rfl, rfl, hl, hx, hel⟩ := DataW.trod_struct Tryz.underlying44 h
  rw [cC 44 585 (by kernel_rfl)] at hl
  obtain ⟨g, e1⟩ := Opens.field (o := 10) (i := 1) hel hx rfl rfl (cC 31 5 (by kernel_rfl)) opens_geo
  obtain ⟨mode, e2⟩ := Opens.field (o := 15) (i := 2) hel hx rfl rfl (cC 33 5 (by kernel_rfl)) opens_mode
  refine ⟨g, mode, hl, e1, ?_⟩
  have e2 : ((cs.drop 15).take 5)[0]? = some (u8 mode) := e2
  rw [List.getElem?_take, if_pos (by decide), List.getElem?_drop] at e2
  exact e2
theorem open_sysv {a : Array Value} {d : DataW H} {p : List MemPlace} (h : DataW.Trod enc Tryz.prog w base spare held 58 (.agg a) d p) : ∃ s : Sy, SysV w.heap.size w a.toList s ∧ LensOk s := by
  obtain ⟨fuel, h⟩ := h
  exact opens_sys _ _ _ h
theorem open_worv {a : Array Value} {d : DataW H} {p : List MemPlace} (h : DataW.Trod enc Tryz.prog w base spare held 44 (.agg a) d p) : ∃ (g : Geo) (mode : UInt8), WorV a.toList g.enc mode := by
  obtain ⟨fuel, h⟩ := h
  exact opens_world _ _ _ h
end
end Go.Proofs.YtedeohcdcaimhaaGreatDoor
namespace Go.Proofs.YtedeohcdcaimhaaGreatDoor
open Go.Vc Go.RowKit Go.Sei
set_option linter.unusedVariables false

section
variable {H : Type} {enc : TypeId × Value → H} {P : Program} {w : World} {base : Nat} {spare : Nat → Bool} {held : Bool} {fuel : Nat} {t : TypeId} {cs : List Value} {x : DataW H × List MemPlace}
theorem open_i (ht : P.underlying t = some (.int .i64)) (h : DataW.trod enc P w base spare held fuel t cs = some x) : ∃ b : Int, cs = [i64 b] ∧ x.1 = .lit (.int .i64 b) := by
  obtain ⟨n, rfl, rfl, _⟩ := DataW.trod_int ht h
  exact ⟨n, rfl, rfl⟩
theorem open_is {n : Nat} {e : TypeId} (ht : P.underlying t = some (.array n e)) (he : P.underlying e = some (.int .i64)) (hc : P.cellsOf e = 1) (hn : P.cellsOf t = n)
    (h : DataW.trod enc P w base spare held fuel t cs = some x) : ∃ bs : List Int, bs.length = n ∧ cs = bs.map i64 ∧ x.1 = .agg (bs.map fun b => .lit (.int .i64 b)) := by
  obtain ⟨xs, m, rfl, rfl, hl, hx, hel⟩ := DataW.trod_array ht h
  rw [hn] at hl
  have each : ∀ i (h : i < n), ∃ b : Int, cs[i]? = some (i64 b) ∧ xs[i]?.map (·.1) = some (.lit (.int .i64 b)) := fun i hi => by
    have h1 := hel i hi
    rw [hc, List.getElem?_eq_getElem (by omega)] at h1
    obtain ⟨b, h2, h3⟩ := open_i he h1
    refine ⟨b, ?_, by rw [List.getElem?_eq_getElem (by omega), Option.map_some, h3]⟩
    have : ((cs.drop (i * 1)).take 1)[0]? = some (i64 b) := by rw [h2]; rfl
    simpa using this
  have : ∀ k, k ≤ n → ∃ bs : List Int, bs.length = k ∧ cs.take k = bs.map i64 ∧ (xs.take k).map (·.1) = bs.map fun b => .lit (.int .i64 b) := by
    intro k
    induction k with
    | zero => exact fun _ => ⟨[], rfl, by simp, by simp⟩
    | succ k ih =>
      intro hk
      obtain ⟨bs, h1, h2, h3⟩ := ih (by omega)
      obtain ⟨b, h4, h5⟩ := each k (by omega)
      have hk1 : k < cs.length := by omega
      have hk2 : k < xs.length := by omega
      rw [List.getElem?_eq_getElem hk1] at h4
      rw [List.getElem?_eq_getElem hk2] at h5
      refine ⟨bs ++ [b], by simp [h1], ?_, ?_⟩
      · rw [List.take_succ_eq_append_getElem hk1, h2, Option.some.inj h4]; simp
      · rw [List.take_succ_eq_append_getElem hk2, List.map_append, h3]
        simp at h5
        simp [h5]
  obtain ⟨bs, h1, h2, h3⟩ := this n (Nat.le_refl _)
  rw [List.take_of_length_le (by omega)] at h2 h3
  exact ⟨bs, h1, h2, by rw [← h3]⟩

end
abbrev seatLaid : List (String × DataW Unit) := [("seisin/geo.bounds", Rows.laid_seisin_geo_bounds), ("seisin/msg.classes", Rows.laid_seisin_msg_classes)]
structure GlobP (w : World) : Prop where
  bnd : BndM w
  cls : Glob w
theorem globp_of_laid {W : World} (h : laidMetH Tryz.prog seatLaid W) (hsh : W.ShapedOpen Tryz.prog) : GlobP W := by
  have h0 : laidMet Tryz.prog seatLaid W := h
  have h1 := h0.tail
  have bnd : Cells W ⟨0, 0, none⟩ (bndL.map i64) := by
    obtain ⟨ps, ⟨g', t', cs, fuel, p, q, hg', ht', hv, hd, _, _⟩, _⟩ := h0
    obtain rfl := Option.some.inj ((show Tryz.prog.globalNamed "seisin/geo.bounds" = some 0 by kernel_rfl).symm.trans hg')
    obtain rfl := Option.some.inj ((show (Tryz.prog.globals[0]?).map (·.type) = some 126 by kernel_rfl).symm.trans ht')
    obtain ⟨bs, h1, h2, h3⟩ := open_is Tryz.underlying126 Tryz.underlying3 (by kernel_rfl) (by kernel_rfl) hd
    have hbs : bs = bndL := by
      match bs, h1 with
      | [b0, b1, b2, b3, b4], _ =>
        simp only [Rows.laid_seisin_geo_bounds, List.map_cons, List.map_nil, DataW.agg.injEq, List.cons.injEq, DataW.lit.injEq, Lit.int.injEq, true_and, and_true] at h3
        simp only [bndL, List.cons.injEq, and_true]
        obtain ⟨a0, a1, a2, a3, a4⟩ := h3
        exact ⟨a0.symm, a1.symm, a2.symm, a3.symm, a4.symm⟩
    subst hbs
    refine cells_mk fun i v hvv => ?_
    have hc := World.var?_cell hg' hv i
    rw [← hvv, ← h2]
    simpa using hc
  have cls : Cells W ⟨1, 0, none⟩ (classes.map u8) := by
    obtain ⟨ps, ⟨g', t', cs, fuel, p, q, hg', ht', hv, hd, _, _⟩, _⟩ := h1
    obtain rfl := Option.some.inj ((show Tryz.prog.globalNamed "seisin/msg.classes" = some 1 by kernel_rfl).symm.trans hg')
    obtain rfl := Option.some.inj ((show (Tryz.prog.globals[1]?).map (·.type) = some 183 by kernel_rfl).symm.trans ht')
    obtain ⟨bs, h1, h2, h3⟩ := open_u8s Tryz.underlying183 Tryz.underlying5 (by kernel_rfl) (by kernel_rfl) hd
    have hbs : bs = classes := by
      match bs, h1 with
      | [b0, b1, b2, b3, b4, b5, b6, b7, b8, b9, b10, b11, b12], _ =>
        simp only [Rows.laid_seisin_msg_classes, List.map_cons, List.map_nil, DataW.agg.injEq, List.cons.injEq, DataW.lit.injEq, Lit.int.injEq, true_and, and_true] at h3
        simp only [classes, List.cons.injEq, and_true]
        obtain ⟨a0, a1, a2, a3, a4, a5, a6, a7, a8, a9, a10, a11, a12⟩ := h3
        refine ⟨?_, ?_, ?_, ?_, ?_, ?_, ?_, ?_, ?_, ?_, ?_, ?_, ?_⟩ <;> (apply UInt8.toNat_inj.1; simp; omega)
    subst hbs
    refine cells_mk fun i v hvv => ?_
    have hc := World.var?_cell hg' hv i
    rw [← hvv, ← h2]
    simpa using hc
  exact ⟨bnd, cls⟩

def lit1 : DataW Unit → List Value
  | .lit (.int k n) => [.int k n]
  | .lit (.string s) => [.string ⟨s.toArray⟩]
  | _ => []
def lit2 : DataW Unit → List Value
  | .agg ps => ps.flatMap lit1
  | x => lit1 x
def lit3 : DataW Unit → List Value
  | .agg ps => ps.flatMap lit2
  | x => lit1 x
def setG (h : Array Obj) (g : Nat) (cs : List Value) : Array Obj := h.modify g fun
  | .cells _ t frozen => .cells cs.toArray t frozen
  | o => o
def layH (h : Array Obj) : Array Obj :=
  let h1 := setG h 0 (lit3 Rows.laid_seisin_geo_bounds)
  setG h1 1 (lit3 Rows.laid_seisin_msg_classes)
noncomputable def laidWorld (os : Os) : World :=
  { World.holding Tryz.prog os ⟨#[], #[], []⟩ with heap := layH (World.holding Tryz.prog os ⟨#[], #[], []⟩).heap }
theorem laidWorld_met (os : Os) (args : Array Value) : laidMetH Tryz.prog seatLaid ((laidWorld os).forCall (fun _ _ => 0) ⟨#[], args, []⟩).memory := by
  show laidMet Tryz.prog seatLaid _
  exact laidMet_of_run' 8 (by kernel_rfl) (by kernel_rfl)
end Go.Proofs.YtedeohcdcaimhaaGreatDoor
namespace Go.Proofs.YtedeohcdcaimhaaGreatDoor
open Go.Vc Go.RowKit Go.Sei
set_option linter.unusedVariables false

/-- The mark of the first slice, as a byte. -/
def mB (i : Nat) : UInt8 := UInt8.ofNat ((((8000024 + i) * 11400714819323198485) % 18446744073709551616 / 72057594037927936) % 256)
def mkSto (i : Nat) : Sto := ⟨mB i, UInt8.ofNat i⟩
def mkMsg (i : Nat) : Msg := ⟨mB i, 1, UInt8.ofNat i, 0, 0, 0, false, 0, 0, 0, 0⟩
def mkCac (i : Nat) : Cac := { zeroCac with k := mB i, l := 1, a := UInt8.ofNat i }
def mkCor (i : Nat) : Cor := { zeroCor with pc := mB i, r0 := 1, r1 := UInt8.ofNat i }

theorem mark_c (i : Nat) (hi : i < 12) (w : World) : Calls Tryz.prog 109 #[.int .i64 1, .int .i64 i] w fun e w' => e = .returned (.int .i64 (8000024 + i : Nat)) ∧ w = w' := by
  refine calls_of_E (S := sg 10) (sgOk _) (args := [.int .i64 1, .int .i64 i]) Tryz.func109 rfl rfl (Nat.le_of_ble_eq_true rfl) rfl ?_
  refine ⟨8, rfl, ?_⟩
  refine ⟨8000024, rfl, ?_⟩
  refine ⟨(8000024 + i : Nat), (wrap_i64 (by omega)).trans (by omega), ?_⟩
  exact ⟨rfl, rfl⟩
theorem markByte_c (i : Nat) (hi : i < 12) (w : World) : Calls Tryz.prog 100 #[.int .i64 1, .int .i64 i] w fun e w' => e = .returned (u8 (mB i)) ∧ w = w' := by
  refine calls_of_E (S := sg 12) (sgOk _) (args := [.int .i64 1, .int .i64 i]) Tryz.func100 rfl rfl (Nat.le_of_ble_eq_true rfl) rfl ?_
  refine Calls.mono (mark_c i hi w) ?_
  rintro e _ ⟨rfl, rfl⟩
  have h12 : i = 0 ∨ i = 1 ∨ i = 2 ∨ i = 3 ∨ i = 4 ∨ i = 5 ∨ i = 6 ∨ i = 7 ∨ i = 8 ∨ i = 9 ∨ i = 10 ∨ i = 11 := by omega
  rcases h12 with rfl | rfl | rfl | rfl | rfl | rfl | rfl | rfl | rfl | rfl | rfl | rfl
  all_goals
    refine ⟨_, rfl, ?_⟩
    refine ⟨_, rfl, ?_⟩
    refine ⟨by decide, _, rfl, ?_⟩
    refine ⟨_, rfl, ?_⟩
    exact ⟨rfl, rfl⟩
end Go.Proofs.YtedeohcdcaimhaaGreatDoor
namespace Go.Proofs.YtedeohcdcaimhaaGreatDoor
open Go.Vc Go.RowKit Go.Sei
set_option linter.unusedVariables false

section
variable {α : Type} {E : Enc α}
/-- append of any slice to one's own, whatever the capacity that an empty one shows. -/
theorem app_any0 {P : Program} {w : World} {t T ty B cap m c : Nat} {p a : Option Addr} {l news : List α} {iT : TI} {z : List Value} (hu : P.underlying t = some (.slice T)) (hT : TIok P T iT) (hz : iT.zero = some z)
    (hs : iT.size = E.sz) (hzl : z.length = E.sz) (ho : OwnS E T B w p cap l) (hm : news.length = m) (hn : SlR E w a news) (hB : B ≤ w.heap.size)
    (h1 : l.length + m ≤ 9223372036854775807) (h2 : (l.length + m) * iT.bytes ≤ 140737488355328) {K : Value → World → Prop}
    (k : ∀ p' cap' w', OwnS E T B w' p' cap' (l ++ news) → w.grownBy w' (Value.slice p l.length cap).ownBlock → Below B w w' → K (.slice p' (l ++ news).length cap') w') :
    SatR ((Builtin.append_ #[t, t] ty #[.slice p l.length cap, .slice a m c]).run P w) K := by
  cases a with
  | some a => exact app_any hu hT hz hs hzl ho hm hn (fun h => by cases h) hB h1 h2 k
  | none =>
    have hn := hn.none
    subst hn
    simp at hm
    subst hm
    obtain ⟨⟨inf, hi, hsz, hby, hzz⟩, _⟩ := hT
    have hr : (Builtin.append_ #[t, t] ty #[.slice p l.length cap, .slice none 0 c]).run P w = .ok (.slice p l.length cap) w := by
      rcases ho.inv with ⟨rfl, rfl, rfl⟩ | ⟨g, cur, rfl, _, _, hnc, _⟩
      · simp [Builtin.append_, run_underlying hu, sizeOf, typeInfo, hi, Builtin.lenOf, Builtin.firstCells]
      · simp [Builtin.append_, run_underlying hu, sizeOf, typeInfo, hi, Builtin.lenOf, Builtin.firstCells, hnc, storeCells]
    refine SatR.mk hr ?_
    have := k p cap w (by rw [List.append_nil]; exact ho) ⟨rfl, rfl, rfl, Nat.le_refl _, fun _ _ _ => rfl⟩ (Below.refl _ _)
    rwa [List.append_nil] at this
theorem make_cap {P : Program} {w : World} {t T : TypeId} {iT : TI} {z : List Value} {kl kc : IntKind} (hu : P.underlying t = some (.slice T)) (hT : TIok P T iT) (hz : iT.zero = some z)
    (hs : iT.size = E.sz) (n : Nat) (hc : n * E.sz ≤ 16777216) (h1 : iT.bytes * n ≤ 281474976710656) (h63 : n ≤ maxLen) {K : Value → World → Prop}
    (k : ∀ w', OwnS E T w.heap.size w' (some ⟨w.heap.size, 0, none⟩) n ([] : List α) → Below w.heap.size w w' → K (.slice (some ⟨w.heap.size, 0, none⟩) 0 n) w') :
    SatR ((Instr.makeSlice t (.int kl 0) (.int kc (n : Int))).run P w) K := by
  obtain ⟨⟨inf, hi, hsz, hby, hzz⟩, _⟩ := hT
  obtain ⟨zv, hzv, hzc⟩ := hzz z hz
  obtain ⟨w', hr, ho, hg⟩ := run_makeSlice_owned (P := P) (w := w) w.heap.size t T inf zv E.sz hu hi hzv (hsz.trans hs) kl kc n hc (by rw [hby]; exact h1) h63 (Nat.le_refl _)
  exact SatR.mk hr (k w' ho ((Below.refl _ w).grown hg (Nat.le_refl _) (fun k e => by cases e)))
theorem putAt_all : ∀ (A B C : List Value), B.length = C.length → putAt (A ++ B) A.length C = A ++ C
  | A, B, [], h => by
    have : B = [] := List.eq_nil_of_length_eq_zero h
    subst this; rfl
  | A, [], c :: C, h => by simp at h
  | A, b :: B, c :: C, h => by
    have e : (A ++ b :: B).set A.length c = (A ++ [c]) ++ B := by
      rw [List.set_append_right _ _ (Nat.le_refl _), Nat.sub_self]; simp
    rw [putAt, e]
    have := putAt_all (A ++ [c]) B C (by simpa using h)
    rw [List.length_append] at this
    exact this.trans (by simp)
theorem fill_one {n : Nat} {x : Operand} {z cs : List Value} (hc : cs.length = n) (hz : z.length = n) : fillL (fun i => some (i * n, n)) (zrep z 1) (zipN [(0, x)] [.agg cs.toArray]) = some cs := by
  have e1 : zrep z 1 = z := by simp [zrep]
  have e2 : (Value.agg cs.toArray).cells.size = n := by show cs.length = n; exact hc
  simp only [zipN, fillL, e1, e2, Nat.zero_mul, Nat.zero_add, hz]
  simp only [Nat.beq_refl, Nat.ble_self_eq_true, Bool.and_self]
  have : (Value.agg cs.toArray).cells.toList = cs := rfl
  rw [this]
  have := putAt_all [] z cs (by rw [hz, hc])
  simp at this
  rw [this]
/-- A lent row: the elements, then the marks, within the capacity. -/
def LentR (E : Enc α) (w : World) (q : Option Addr) (cq : Nat) (l mk : List α) : Prop := SlR E w q (l ++ mk) ∧ l.length + mk.length ≤ cq
theorem LentR.below {w w2 : World} {q : Option Addr} {cq : Nat} {l mk : List α} (h : LentR E w q cq l mk) (hb : Below w.heap.size w w2) : LentR E w2 q cq l mk := ⟨h.1.below hb, h.2⟩
theorem SlR.prefix {w : World} {q : Option Addr} {l m : List α} (h : SlR E w q (l ++ m)) : SlR E w q l := by
  rcases h with h | ⟨b, o, h1, h2, h3⟩
  · exact .inl (List.append_eq_nil_iff.1 h).1
  · refine .inr ⟨b, o, h1, h2, fun i hi => ?_⟩
    have := h3 i (by rw [List.length_append]; omega)
    rwa [List.getElem_append_left hi] at this
theorem LentR.of_own {T B cap : Nat} {w : World} {p : Option Addr} {l mk : List α} (h : OwnS E T B w p cap (l ++ mk)) : LentR E w p cap l mk := by
  refine ⟨h.row, ?_⟩
  rcases h.inv with ⟨_, h2, h3⟩ | ⟨g, cur, h1, _, _, h2, _⟩
  · have := congrArg List.length h3
    simp only [List.length_append, List.length_nil] at this; omega
  · rwa [List.length_append] at h2
end
theorem one_new {α : Type} (E : Enc α) (a : α) {w : World} {t : TypeId} : Cells (w.alloc (.cells (E.enc a).toArray t)) ⟨w.heap.size, 0, none⟩ ([a].flatMap E.enc) := by
  rw [List.flatMap_singleton]; exact cells_new
/-- The first marks. -/
def mks {α : Type} (f : Nat → α) (k : Nat) : List α := (List.range k).map f
theorem mks_succ {α : Type} (f : Nat → α) (k : Nat) : mks f (k + 1) = mks f k ++ [f k] := by unfold mks; rw [List.range_succ, List.map_append]; rfl
theorem mks_len {α : Type} (f : Nat → α) (k : Nat) : (mks f k).length = k := by unfold mks; simp
theorem mks_get {α : Type} (f : Nat → α) {k i : Nat} (h : i < (mks f k).length) : (mks f k)[i] = f i := by
  simp only [mks, List.getElem_map, List.getElem_range]
end Go.Proofs.YtedeohcdcaimhaaGreatDoor
namespace Go.Proofs.YtedeohcdcaimhaaGreatDoor
open Go.Vc Go.RowKit Go.Sei
set_option linter.unusedVariables false

/-- Caches of the full shape. -/
def CacS : Type := { c : Cac // c.ways.length = 16 ∧ c.notes.length = 4 }
theorem cacC_len {c : Cac} (h1 : c.ways.length = 16) (h2 : c.notes.length = 4) : (cacCells c).length = 160 := by
  simp only [cacCells, List.length_append, flat_len (E := linE), flat_len (E := nteE), h1, h2]; rfl
def cacE : Enc CacS := ⟨fun c => cacCells c.1, 160, fun c => cacC_len c.2.1 c.2.2, by decide, fun c u hu => by
  simp only [cacCells, List.mem_append, opCells, List.mem_cons, List.not_mem_nil, or_false] at hu
  rcases hu with hu | hu | rfl | rfl | rfl | rfl
  · exact flat_one _ u hu
  · exact flat_one _ u hu
  all_goals rfl⟩
def mkCacS (i : Nat) : CacS := ⟨mkCac i, rfl, rfl⟩

theorem markSto_c (i : Nat) (hi : i < 12) (w : World) : Calls Tryz.prog 108 #[.int .i64 1, .int .i64 i] w fun e w' => e = .returned (.agg (stoE.enc (mkSto i)).toArray) ∧ Below w.heap.size w w' := by
  refine calls_of_E (S := sg 11) (sgOk _) (args := [.int .i64 1, .int .i64 i]) Tryz.func108 rfl rfl (Nat.le_of_ble_eq_true rfl) rfl ?_
  refine Calls.mono (markByte_c i hi _) ?_
  rintro e _ ⟨rfl, rfl⟩
  refine ⟨((UInt8.ofNat i).toNat : Int), (wrap_u8 (by omega)).trans (by rw [UInt8.toNat_ofNat']; omega), ?_⟩
  refine ⟨stoE.enc (mkSto i), rfl, ?_⟩
  refine store_new (X := w) (v := .agg (stoE.enc (mkSto i)).toArray) (ttOk.get 132 _ rfl) (by rfl) (by rfl) (by rfl) fun Y hbY fY sY => ?_
  refine ⟨stoE.enc (mkSto i), by rfl, cells_block fY, ?_⟩
  exact ⟨rfl, hbY⟩
theorem markMsg_c (i : Nat) (hi : i < 12) (w : World) : Calls Tryz.prog 79 #[.int .i64 1, .int .i64 i] w fun e w' => e = .returned (.agg (Msg.E.enc (mkMsg i)).toArray) ∧ Below w.heap.size w w' := by
  refine calls_of_E (S := sg 13) (sgOk _) (args := [.int .i64 1, .int .i64 i]) Tryz.func79 rfl rfl (Nat.le_of_ble_eq_true rfl) rfl ?_
  refine Calls.mono (markByte_c i hi _) ?_
  rintro e _ ⟨rfl, rfl⟩
  refine ⟨1, rfl, ?_⟩
  refine ⟨((UInt8.ofNat i).toNat : Int), (wrap_u8 (by omega)).trans (by rw [UInt8.toNat_ofNat']; omega), ?_⟩
  refine ⟨Msg.E.enc (mkMsg i), rfl, ?_⟩
  refine store_new (X := w) (v := .agg (Msg.E.enc (mkMsg i)).toArray) (ttOk.get 107 _ rfl) (by rfl) (by rfl) (by rfl) fun Y hbY fY sY => ?_
  refine ⟨Msg.E.enc (mkMsg i), by rfl, cells_block fY, ?_⟩
  exact ⟨rfl, hbY⟩
theorem markCac_c (i : Nat) (hi : i < 12) (w : World) : Calls Tryz.prog 78 #[.int .i64 1, .int .i64 i] w fun e w' => e = .returned (.agg (cacE.enc (mkCacS i)).toArray) ∧ Below w.heap.size w w' := by
  refine calls_of_E (S := sg 14) (sgOk _) (args := [.int .i64 1, .int .i64 i]) Tryz.func78 rfl rfl (Nat.le_of_ble_eq_true rfl) rfl ?_
  refine Calls.mono (markByte_c i hi _) ?_
  rintro e _ ⟨rfl, rfl⟩
  refine ⟨1, rfl, ?_⟩
  refine ⟨((UInt8.ofNat i).toNat : Int), (wrap_u8 (by omega)).trans (by rw [UInt8.toNat_ofNat']; omega), ?_⟩
  refine ⟨opCells (mkCac i), by kernel_rfl, ?_⟩
  refine ⟨cacE.enc (mkCacS i), by kernel_rfl, ?_⟩
  refine store_new (X := w) (v := .agg (cacE.enc (mkCacS i)).toArray) (ttOk.get 97 _ rfl) (by rfl) (by rfl) (by rfl) fun Y hbY fY sY => ?_
  refine ⟨cacE.enc (mkCacS i), by rfl, cells_block fY, ?_⟩
  exact ⟨rfl, hbY⟩
theorem markCor_c (i : Nat) (hi : i < 12) (w : World) : Calls Tryz.prog 77 #[.int .i64 1, .int .i64 i] w fun e w' => e = .returned (.agg (corCells (mkCor i) nilSl).toArray) ∧ Below w.heap.size w w' := by
  refine calls_of_E (S := sg 14) (sgOk _) (args := [.int .i64 1, .int .i64 i]) Tryz.func77 rfl rfl (Nat.le_of_ble_eq_true rfl) rfl ?_
  refine Calls.mono (markByte_c i hi _) ?_
  rintro e _ ⟨rfl, rfl⟩
  refine ⟨1, rfl, ?_⟩
  refine ⟨((UInt8.ofNat i).toNat : Int), (wrap_u8 (by omega)).trans (by rw [UInt8.toNat_ofNat']; omega), ?_⟩
  refine ⟨[u8 1, u8 (UInt8.ofNat i), u8 0, u8 0, u8 0, u8 0, u8 0, u8 0], rfl, ?_⟩
  refine ⟨corCells (mkCor i) nilSl, rfl, ?_⟩
  refine store_new (X := w) (v := .agg (corCells (mkCor i) nilSl).toArray) (ttOk.get 66 _ rfl) (by rfl) (by rfl) (by rfl) fun Y hbY fY sY => ?_
  refine ⟨corCells (mkCor i) nilSl, by rfl, cells_block fY, ?_⟩
  exact ⟨rfl, hbY⟩
theorem self_ty {T : TypeId} {n k : Nat} {G : List Value → Prop} (h : TyEq Tryz.prog T true n k G) (d : Nat) (hd : d + k = 10000) (hg : Tryz.prog.eqGuardType Tryz.prog.depth T = false) {a : List Value} (ha : a.length = n) (ga : G a) (x y : Operand) (w : World) :
    (do eqGuard .eql T x y (.agg a.toArray) (.agg a.toArray); binOp .eql T (.agg a.toArray) (.agg a.toArray)).run Tryz.prog w = .ok (.bool true) w := by
  have := eql_ty h d hd hg ha ha ga ga x y w
  rw [cdec_iff (p := a = a) (q := True) (by simp)] at this
  simpa using this
theorem self_Sto (x y : Operand) (a : Sto) (w : World) : (do eqGuard .eql 132 x y (.agg (stoE.enc a).toArray) (.agg (stoE.enc a).toArray); binOp .eql 132 (.agg (stoE.enc a).toArray) (.agg (stoE.enc a).toArray)).run Tryz.prog w = .ok (.bool true) w := by
  obtain ⟨G, h, hG⟩ := tSto
  exact self_ty h 9998 rfl (by kernel_rfl) rfl (hG a) x y w
theorem self_CacS (x y : Operand) (a : CacS) (w : World) : (do eqGuard .eql 97 x y (.agg (cacE.enc a).toArray) (.agg (cacE.enc a).toArray); binOp .eql 97 (.agg (cacE.enc a).toArray) (.agg (cacE.enc a).toArray)).run Tryz.prog w = .ok (.bool true) w := by
  obtain ⟨G, h, hG⟩ := tCac
  exact self_ty h 9994 rfl (by kernel_rfl) (cacC_len a.2.1 a.2.2) (hG a.1 a.2.1 a.2.2) x y w
theorem self_Msg (x y : Operand) (m : Msg) (w : World) : (do eqGuard .eql 107 x y (.agg (Msg.E.enc m).toArray) (.agg (Msg.E.enc m).toArray); binOp .eql 107 (.agg (Msg.E.enc m).toArray) (.agg (Msg.E.enc m).toArray)).run Tryz.prog w = .ok (.bool true) w := by
  have he : (Op.equal 107 m.val m.val).run Tryz.prog w = .ok (decide (m = m)) w := eq_msg 9997 m m w
  rw [decide_eq_true rfl] at he
  have h1 : (eqGuard .eql 107 x y m.val m.val).run Tryz.prog w = .ok () w := by
    have hg : Tryz.prog.eqGuardType Tryz.prog.depth 107 = false := by kernel_rfl
    simp only [eqGuard, Msg.val, Bool.not_true, Bool.false_eq_true, if_false, Sem.run_bind, run_program, Result.andThen_ok, hg, Bool.not_false, if_true, Sem.run_pure]
  show (do eqGuard .eql 107 x y m.val m.val; binOp .eql 107 m.val m.val).run Tryz.prog w = _
  rw [Sem.run_bind, h1]
  simp only [Msg.val] at he ⊢
  simp only [Result.andThen_ok, binOp, Sem.run_bind, he, Sem.run_pure]
end Go.Proofs.YtedeohcdcaimhaaGreatDoor
namespace Go.Proofs.YtedeohcdcaimhaaGreatDoor
open Go.Vc Go.RowKit Go.Sei
set_option linter.unusedVariables false

theorem LentStores_c {p : Option Addr} {cap : Nat} {l : List Sto} {w : World} (hr : SlR stoE w p l) (hn : l.length ≤ 1000) :
    Calls Tryz.prog 99 #[.slice p l.length cap] w fun e w' => ∃ q cq, e = .returned (.slice q l.length cq) ∧ OwnS stoE 132 w.heap.size w' q cq (l ++ mks mkSto 12) ∧ Below w.heap.size w w' := by
  refine calls_of_M (S := sg 25) (sgOk _) (args := [.slice p l.length cap]) (.s .p (.s .p (.s .p (.c .p (.s .p .p))))) Tryz.func99 rfl rfl (Nat.le_of_ble_eq_true rfl) rfl ?_
  refine ⟨(l.length + 12 : Nat), (wrap_i64 (by omega)).trans (by omega), ?_⟩
  refine make_cap (E := stoE) Tryz.underlying64 (ttOk.get 132 _ rfl) rfl rfl (l.length + 12) (by show (l.length + 12) * 2 ≤ _; omega) (by dsimp only; omega) (by unfold maxLen; omega) ?_
  intro W1 ho1 hb1
  refine app_any0 (E := stoE) (B := w.heap.size) Tryz.underlying64 (ttOk.get 132 _ rfl) rfl rfl rfl ho1 rfl (hr.below hb1) hb1.size (by simp; omega) (by dsimp only [List.length_nil]; omega) ?_
  intro p2 c2 W2 ho2 _ hb2
  have hw2 := hb1.trans hb2
  rw [List.nil_append] at ho2 ⊢
  have e0 : (l ++ mks mkSto 0).length = l.length := by rw [List.length_append, mks_len]; rfl
  refine ⟨Option Addr × Nat, fun s => ⟨[(0, .slice p l.length cap), (3, .slice s.1 (l.length + 12) s.2)], []⟩, fun s X => OwnS stoE 132 w.heap.size X s.1 s.2 (l ++ mks mkSto 12) ∧ Below w.heap.size w X, ?_, ?_⟩
  · refine ⟨Option Addr × Nat × Nat, fun s => ⟨[(0, .slice p l.length cap), (3, .slice s.1 (l ++ mks mkSto s.2.2).length s.2.1), (4, .int .i64 (s.2.2 : Nat))], []⟩, fun s X => s.2.2 ≤ 12 ∧ OwnS stoE 132 w.heap.size X s.1 s.2.1 (l ++ mks mkSto s.2.2) ∧ Below w.heap.size w X, fun s => 12 - s.2.2, (p2, c2, 0), ⟨.cons rfl (.cons (by dsimp only; rw [e0]; rfl) (.cons rfl .nil)), rfl⟩, ⟨Nat.zero_le _, by simpa [mks] using ho2, hw2⟩, ?_⟩
    rintro ⟨q, c, k⟩ X ⟨hk, ho, hX⟩
    dsimp only at hk ho hX ⊢
    refine And.intro (fun h => ?_) (fun h => ?_)
    · have h : (k : Int) < 12 := of_decide_eq_true h
      refine Calls.mono (markSto_c k (by omega) X) ?_
      rintro e Y ⟨rfl, hbY⟩
      have hoY := ho.below hbY
      refine ⟨⟨by decide, by decide, rfl⟩, stoE.enc (mkSto k), fill_one (stoE.len _) rfl, ?_⟩
      refine app_own (E := stoE) (news := [mkSto k]) (B := w.heap.size) Tryz.underlying64 (ttOk.get 132 _ rfl) rfl rfl rfl (hoY.alloc _) rfl (one_new stoE (mkSto k)) (by have := hX.size; have := hbY.size; simp; omega) (by rw [List.length_append, mks_len]; show l.length + k + 1 ≤ _; omega) (by rw [List.length_append, mks_len]; dsimp only [List.length_cons, List.length_nil]; omega) ?_
      intro p3 c3 Z ho3 _ hb3 _
      have hZ : Below w.heap.size w Z := (hX.trans (hbY.mono hX.size)).trans (((Below.refl _ Y).alloc (Nat.le_refl _) _ |>.mono (by have := hX.size; have := hbY.size; omega)).trans hb3)
      refine ⟨(k + 1 : Nat), (wrap_i64 (by omega)).trans (by omega), ?_⟩
      rw [List.append_assoc, ← mks_succ] at ho3
      exact ⟨(p3, c3, k + 1), ⟨.cons rfl (.cons (by dsimp only; rw [List.append_assoc, ← mks_succ]; rfl) (.cons rfl .nil)), rfl⟩, ⟨by show k + 1 ≤ 12; omega, ho3, hZ⟩, by show 12 - (k + 1) < 12 - k; omega⟩
    · have h : ¬ (k : Int) < 12 := of_decide_eq_false h
      obtain rfl : k = 12 := by omega
      exact ⟨(q, c), ⟨.cons rfl (.cons (by dsimp only; rw [List.length_append, mks_len]; rfl) .nil), rfl⟩, ho, hX⟩
  rintro ⟨q, c⟩ X ⟨ho, hX⟩
  dsimp only at ho hX ⊢
  have hL := LentR.of_own ho
  have hcq := hL.2
  rw [mks_len] at hcq
  refine ⟨l.length, rfl, by omega, ?_⟩
  refine ⟨_, _, rfl, ?_, hX⟩
  rw [cutBase_zero]; exact ho

theorem KeptStores_c {q p : Option Addr} {cq cap : Nat} {l : List Sto} {w : World} (hq : LentR stoE w q cq l (mks mkSto 12)) (hp : SlR stoE w p l) (hn : l.length ≤ 1000) :
    Calls Tryz.prog 107 #[.slice q l.length cq, .slice p l.length cap] w fun e w' => e = .returned (.bool true) ∧ Below w.heap.size w w' := by
  refine calls_of_M (S := sg 58) (sgOk _) (args := [.slice q l.length cq, .slice p l.length cap]) (.s .p (.c .p (.s .p (.c .p .p)))) Tryz.func107 rfl rfl (Nat.le_of_ble_eq_true rfl) rfl ?_
  obtain ⟨hq1, hq2⟩ := hq
  rw [mks_len] at hq2
  have hlm : (l ++ mks mkSto 12).length = l.length + 12 := by rw [List.length_append, mks_len]
  obtain ⟨b0, o0, rfl, _, _⟩ := hq1.at (i := 0) (by omega)
  refine ⟨Unit, fun _ => ⟨[(0, .slice (some ⟨b0, o0, none⟩) l.length cq), (1, .slice p l.length cap)], []⟩, fun _ X => w = X, ?_, ?_⟩
  · refine And.intro (fun h => absurd rfl (nt h)) (fun _ => ?_)
    exact ⟨(), ⟨.cons rfl (.cons rfl .nil), rfl⟩, rfl⟩
  rintro _ _ rfl
  dsimp only
  refine ⟨(l.length + 12 : Nat), (wrap_i64 (by omega)).trans (by omega), ?_⟩
  refine ⟨l.length + 12, rfl, hq2, ?_⟩
  refine ⟨Unit, fun _ => ⟨[], []⟩, fun _ X => Below w.heap.size w X, ?_, ?_⟩
  · refine ⟨Nat, fun k => ⟨[(1, .slice p l.length cap), (5, .slice (some ⟨b0, o0, none⟩) (l.length + 12) cq), (6, .int .i64 (k : Nat))], []⟩, fun k X => k ≤ l.length + 12 ∧ Below w.heap.size w X, fun k => l.length + 12 - k, 0, ⟨.cons rfl (.cons (congrArg some (by rw [cutBase_zero]; rfl)) (.cons rfl .nil)), rfl⟩, ⟨Nat.zero_le _, Below.refl _ _⟩, ?_⟩
    rintro k X ⟨hk, hX⟩
    dsimp only at hk hX ⊢
    have hqX : SlR stoE X.drew (some ⟨b0, o0, none⟩) (l ++ mks mkSto 12) := hq1.below hX.drew
    have hpX : SlR stoE X.drew p l := hp.below hX.drew
    refine And.intro (fun h => ?_) (fun h => ?_)
    · have h : (k : Int) < ((l.length + 12 : Nat) : Int) := of_decide_eq_true h
      have hkl : k < (l ++ mks mkSto 12).length := by omega
      refine DrawE.ord [] [0, 1, 2, 3, 4, 5, 6, 7, 8, 9, 10, 11, 12, 13, 14, 15, 16, 17, 18, 19, 20, 21, 22, 23, 24, 25, 26, 27, 28, 29, 30, 31, 32, 33, 34] (by kernel_rfl) ?_
      obtain ⟨b, o, hqe, hb, hc⟩ := hqX.at hkl
      cases hqe
      have hce := hc k hkl
      refine And.intro (fun h1 => ?_) (fun h1 => ?_)
      · have h1 : (k : Int) < (l.length : Int) := of_decide_eq_true h1
        have hk1 : k < l.length := by omega
        obtain ⟨b2, o2, rfl, hb2, hc2⟩ := hpX.at hk1
        rw [List.getElem_append_left hk1] at hce
        refine ⟨k, rfl, by omega, ?_⟩
        refine ⟨stoE.enc l[k], stoE.len _, hce, hb, ?_⟩
        refine ⟨k, rfl, hk1, ?_⟩
        refine ⟨stoE.enc l[k], stoE.len _, hc2 k hk1, hb2, ?_⟩
        refine ⟨_, fun w => self_Sto _ _ l[k] w, ?_⟩
        refine And.intro (fun h => by cases h) (fun _ => ?_)
        refine And.intro (fun h2 => ?_) (fun h2 => ?_)
        · have h2 : (l.length : Int) ≤ k := of_decide_eq_true h2
          omega
        refine And.intro (fun h => by cases h) (fun _ => ?_)
        refine ⟨(k + 1 : Nat), (wrap_i64 (by omega)).trans (by omega), ?_⟩
        exact ⟨k + 1, ⟨.cons rfl (.cons rfl (.cons rfl .nil)), rfl⟩, ⟨by omega, hX.drew⟩, by omega⟩
      · have h1 : ¬ (k : Int) < (l.length : Int) := of_decide_eq_false h1
        have hmk : (l ++ mks mkSto 12)[k] = mkSto (k - l.length) := by rw [List.getElem_append_right (by omega)]; exact mks_get _ _
        rw [hmk] at hce
        refine And.intro (fun h => by cases h) (fun _ => ?_)
        refine And.intro (fun h2 => ?_) (fun h2 => ?_)
        · refine ⟨k, rfl, by omega, ?_⟩
          refine ⟨stoE.enc (mkSto (k - l.length)), stoE.len _, hce, hb, ?_⟩
          refine ⟨(k - l.length : Nat), (wrap_i64 (by omega)).trans (by omega), ?_⟩
          refine Calls.mono (markSto_c (k - l.length) (by omega) X.drew) ?_
          rintro e Y ⟨rfl, hbY⟩
          refine ⟨hbY, ?_⟩
          refine ⟨_, fun w => self_Sto _ _ (mkSto (k - l.length)) w, ?_⟩
          refine And.intro (fun h => by cases h) (fun _ => ?_)
          refine ⟨(k + 1 : Nat), (wrap_i64 (by omega)).trans (by omega), ?_⟩
          exact ⟨k + 1, ⟨.cons rfl (.cons rfl (.cons rfl .nil)), rfl⟩, ⟨by omega, hX.drew.trans (hbY.mono hX.drew.size)⟩, by omega⟩
        · have h2 : ¬ (l.length : Int) ≤ k := of_decide_eq_false h2
          omega
    · exact ⟨(), ⟨.nil, rfl⟩, hX⟩
  rintro _ X hX
  exact ⟨rfl, hX⟩

theorem LentMsgs_c {p : Option Addr} {cap : Nat} {l : List Msg} {w : World} (hr : SlR Msg.E w p l) (hn : l.length ≤ 1000) :
    Calls Tryz.prog 43 #[.slice p l.length cap] w fun e w' => ∃ q cq, e = .returned (.slice q l.length cq) ∧ OwnS Msg.E 107 w.heap.size w' q cq (l ++ mks mkMsg 12) ∧ Below w.heap.size w w' := by
  refine calls_of_M (S := sg 25) (sgOk _) (args := [.slice p l.length cap]) (.s .p (.s .p (.s .p (.c .p (.s .p .p))))) Tryz.func43 rfl rfl (Nat.le_of_ble_eq_true rfl) rfl ?_
  refine ⟨(l.length + 12 : Nat), (wrap_i64 (by omega)).trans (by omega), ?_⟩
  refine make_cap (E := Msg.E) Tryz.underlying56 (ttOk.get 107 _ rfl) rfl rfl (l.length + 12) (by show (l.length + 12) * 11 ≤ _; omega) (by dsimp only; omega) (by unfold maxLen; omega) ?_
  intro W1 ho1 hb1
  refine app_any0 (E := Msg.E) (B := w.heap.size) Tryz.underlying56 (ttOk.get 107 _ rfl) rfl rfl rfl ho1 rfl (hr.below hb1) hb1.size (by simp; omega) (by dsimp only [List.length_nil]; omega) ?_
  intro p2 c2 W2 ho2 _ hb2
  have hw2 := hb1.trans hb2
  rw [List.nil_append] at ho2 ⊢
  have e0 : (l ++ mks mkMsg 0).length = l.length := by rw [List.length_append, mks_len]; rfl
  refine ⟨Option Addr × Nat, fun s => ⟨[(0, .slice p l.length cap), (3, .slice s.1 (l.length + 12) s.2)], []⟩, fun s X => OwnS Msg.E 107 w.heap.size X s.1 s.2 (l ++ mks mkMsg 12) ∧ Below w.heap.size w X, ?_, ?_⟩
  · refine ⟨Option Addr × Nat × Nat, fun s => ⟨[(0, .slice p l.length cap), (3, .slice s.1 (l ++ mks mkMsg s.2.2).length s.2.1), (4, .int .i64 (s.2.2 : Nat))], []⟩, fun s X => s.2.2 ≤ 12 ∧ OwnS Msg.E 107 w.heap.size X s.1 s.2.1 (l ++ mks mkMsg s.2.2) ∧ Below w.heap.size w X, fun s => 12 - s.2.2, (p2, c2, 0), ⟨.cons rfl (.cons (by dsimp only; rw [e0]; rfl) (.cons rfl .nil)), rfl⟩, ⟨Nat.zero_le _, by simpa [mks] using ho2, hw2⟩, ?_⟩
    rintro ⟨q, c, k⟩ X ⟨hk, ho, hX⟩
    dsimp only at hk ho hX ⊢
    refine And.intro (fun h => ?_) (fun h => ?_)
    · have h : (k : Int) < 12 := of_decide_eq_true h
      refine Calls.mono (markMsg_c k (by omega) X) ?_
      rintro e Y ⟨rfl, hbY⟩
      have hoY := ho.below hbY
      refine ⟨⟨by decide, by decide, rfl⟩, Msg.E.enc (mkMsg k), fill_one (Msg.E.len _) rfl, ?_⟩
      refine app_own (E := Msg.E) (news := [mkMsg k]) (B := w.heap.size) Tryz.underlying56 (ttOk.get 107 _ rfl) rfl rfl rfl (hoY.alloc _) rfl (one_new Msg.E (mkMsg k)) (by have := hX.size; have := hbY.size; simp; omega) (by rw [List.length_append, mks_len]; show l.length + k + 1 ≤ _; omega) (by rw [List.length_append, mks_len]; dsimp only [List.length_cons, List.length_nil]; omega) ?_
      intro p3 c3 Z ho3 _ hb3 _
      have hZ : Below w.heap.size w Z := (hX.trans (hbY.mono hX.size)).trans (((Below.refl _ Y).alloc (Nat.le_refl _) _ |>.mono (by have := hX.size; have := hbY.size; omega)).trans hb3)
      refine ⟨(k + 1 : Nat), (wrap_i64 (by omega)).trans (by omega), ?_⟩
      rw [List.append_assoc, ← mks_succ] at ho3
      exact ⟨(p3, c3, k + 1), ⟨.cons rfl (.cons (by dsimp only; rw [List.append_assoc, ← mks_succ]; rfl) (.cons rfl .nil)), rfl⟩, ⟨by show k + 1 ≤ 12; omega, ho3, hZ⟩, by show 12 - (k + 1) < 12 - k; omega⟩
    · have h : ¬ (k : Int) < 12 := of_decide_eq_false h
      obtain rfl : k = 12 := by omega
      exact ⟨(q, c), ⟨.cons rfl (.cons (by dsimp only; rw [List.length_append, mks_len]; rfl) .nil), rfl⟩, ho, hX⟩
  rintro ⟨q, c⟩ X ⟨ho, hX⟩
  dsimp only at ho hX ⊢
  have hL := LentR.of_own ho
  have hcq := hL.2
  rw [mks_len] at hcq
  refine ⟨l.length, rfl, by omega, ?_⟩
  refine ⟨_, _, rfl, ?_, hX⟩
  rw [cutBase_zero]; exact ho

theorem KeptMsgs_c {q p : Option Addr} {cq cap : Nat} {l : List Msg} {w : World} (hq : LentR Msg.E w q cq l (mks mkMsg 12)) (hp : SlR Msg.E w p l) (hn : l.length ≤ 1000) :
    Calls Tryz.prog 53 #[.slice q l.length cq, .slice p l.length cap] w fun e w' => e = .returned (.bool true) ∧ Below w.heap.size w w' := by
  refine calls_of_M (S := sg 58) (sgOk _) (args := [.slice q l.length cq, .slice p l.length cap]) (.s .p (.c .p (.s .p (.c .p .p)))) Tryz.func53 rfl rfl (Nat.le_of_ble_eq_true rfl) rfl ?_
  obtain ⟨hq1, hq2⟩ := hq
  rw [mks_len] at hq2
  have hlm : (l ++ mks mkMsg 12).length = l.length + 12 := by rw [List.length_append, mks_len]
  obtain ⟨b0, o0, rfl, _, _⟩ := hq1.at (i := 0) (by omega)
  refine ⟨Unit, fun _ => ⟨[(0, .slice (some ⟨b0, o0, none⟩) l.length cq), (1, .slice p l.length cap)], []⟩, fun _ X => w = X, ?_, ?_⟩
  · refine And.intro (fun h => absurd rfl (nt h)) (fun _ => ?_)
    exact ⟨(), ⟨.cons rfl (.cons rfl .nil), rfl⟩, rfl⟩
  rintro _ _ rfl
  dsimp only
  refine ⟨(l.length + 12 : Nat), (wrap_i64 (by omega)).trans (by omega), ?_⟩
  refine ⟨l.length + 12, rfl, hq2, ?_⟩
  refine ⟨Unit, fun _ => ⟨[], []⟩, fun _ X => Below w.heap.size w X, ?_, ?_⟩
  · refine ⟨Nat, fun k => ⟨[(1, .slice p l.length cap), (5, .slice (some ⟨b0, o0, none⟩) (l.length + 12) cq), (6, .int .i64 (k : Nat))], []⟩, fun k X => k ≤ l.length + 12 ∧ Below w.heap.size w X, fun k => l.length + 12 - k, 0, ⟨.cons rfl (.cons (congrArg some (by rw [cutBase_zero]; rfl)) (.cons rfl .nil)), rfl⟩, ⟨Nat.zero_le _, Below.refl _ _⟩, ?_⟩
    rintro k X ⟨hk, hX⟩
    dsimp only at hk hX ⊢
    have hqX : SlR Msg.E X.drew (some ⟨b0, o0, none⟩) (l ++ mks mkMsg 12) := hq1.below hX.drew
    have hpX : SlR Msg.E X.drew p l := hp.below hX.drew
    refine And.intro (fun h => ?_) (fun h => ?_)
    · have h : (k : Int) < ((l.length + 12 : Nat) : Int) := of_decide_eq_true h
      have hkl : k < (l ++ mks mkMsg 12).length := by omega
      refine DrawE.ord [] [0, 1, 2, 3, 4, 5, 6, 7, 8, 9, 10, 11, 12, 13, 14, 15, 16, 17, 18, 19, 20, 21, 22, 23, 24, 25, 26, 27, 28, 29, 30, 31, 32, 33, 34] (by kernel_rfl) ?_
      obtain ⟨b, o, hqe, hb, hc⟩ := hqX.at hkl
      cases hqe
      have hce := hc k hkl
      refine And.intro (fun h1 => ?_) (fun h1 => ?_)
      · have h1 : (k : Int) < (l.length : Int) := of_decide_eq_true h1
        have hk1 : k < l.length := by omega
        obtain ⟨b2, o2, rfl, hb2, hc2⟩ := hpX.at hk1
        rw [List.getElem_append_left hk1] at hce
        refine ⟨k, rfl, by omega, ?_⟩
        refine ⟨Msg.E.enc l[k], Msg.E.len _, hce, hb, ?_⟩
        refine ⟨k, rfl, hk1, ?_⟩
        refine ⟨Msg.E.enc l[k], Msg.E.len _, hc2 k hk1, hb2, ?_⟩
        refine ⟨_, fun w => self_Msg _ _ l[k] w, ?_⟩
        refine And.intro (fun h => by cases h) (fun _ => ?_)
        refine And.intro (fun h2 => ?_) (fun h2 => ?_)
        · have h2 : (l.length : Int) ≤ k := of_decide_eq_true h2
          omega
        refine And.intro (fun h => by cases h) (fun _ => ?_)
        refine ⟨(k + 1 : Nat), (wrap_i64 (by omega)).trans (by omega), ?_⟩
        exact ⟨k + 1, ⟨.cons rfl (.cons rfl (.cons rfl .nil)), rfl⟩, ⟨by omega, hX.drew⟩, by omega⟩
      · have h1 : ¬ (k : Int) < (l.length : Int) := of_decide_eq_false h1
        have hmk : (l ++ mks mkMsg 12)[k] = mkMsg (k - l.length) := by rw [List.getElem_append_right (by omega)]; exact mks_get _ _
        rw [hmk] at hce
        refine And.intro (fun h => by cases h) (fun _ => ?_)
        refine And.intro (fun h2 => ?_) (fun h2 => ?_)
        · refine ⟨k, rfl, by omega, ?_⟩
          refine ⟨Msg.E.enc (mkMsg (k - l.length)), Msg.E.len _, hce, hb, ?_⟩
          refine ⟨(k - l.length : Nat), (wrap_i64 (by omega)).trans (by omega), ?_⟩
          refine Calls.mono (markMsg_c (k - l.length) (by omega) X.drew) ?_
          rintro e Y ⟨rfl, hbY⟩
          refine ⟨hbY, ?_⟩
          refine ⟨_, fun w => self_Msg _ _ (mkMsg (k - l.length)) w, ?_⟩
          refine And.intro (fun h => by cases h) (fun _ => ?_)
          refine ⟨(k + 1 : Nat), (wrap_i64 (by omega)).trans (by omega), ?_⟩
          exact ⟨k + 1, ⟨.cons rfl (.cons rfl (.cons rfl .nil)), rfl⟩, ⟨by omega, hX.drew.trans (hbY.mono hX.drew.size)⟩, by omega⟩
        · have h2 : ¬ (l.length : Int) ≤ k := of_decide_eq_false h2
          omega
    · exact ⟨(), ⟨.nil, rfl⟩, hX⟩
  rintro _ X hX
  exact ⟨rfl, hX⟩

theorem LentCaches_c {p : Option Addr} {cap : Nat} {l : List CacS} {w : World} (hr : SlR cacE w p l) (hn : l.length ≤ 1000) :
    Calls Tryz.prog 42 #[.slice p l.length cap] w fun e w' => ∃ q cq, e = .returned (.slice q l.length cq) ∧ OwnS cacE 97 w.heap.size w' q cq (l ++ mks mkCacS 12) ∧ Below w.heap.size w w' := by
  refine calls_of_M (S := sg 25) (sgOk _) (args := [.slice p l.length cap]) (.s .p (.s .p (.s .p (.c .p (.s .p .p))))) Tryz.func42 rfl rfl (Nat.le_of_ble_eq_true rfl) rfl ?_
  refine ⟨(l.length + 12 : Nat), (wrap_i64 (by omega)).trans (by omega), ?_⟩
  refine make_cap (E := cacE) Tryz.underlying46 (ttOk.get 97 _ rfl) rfl rfl (l.length + 12) (by show (l.length + 12) * 160 ≤ _; omega) (by dsimp only; omega) (by unfold maxLen; omega) ?_
  intro W1 ho1 hb1
  refine app_any0 (E := cacE) (B := w.heap.size) Tryz.underlying46 (ttOk.get 97 _ rfl) rfl rfl rfl ho1 rfl (hr.below hb1) hb1.size (by simp; omega) (by dsimp only [List.length_nil]; omega) ?_
  intro p2 c2 W2 ho2 _ hb2
  have hw2 := hb1.trans hb2
  rw [List.nil_append] at ho2 ⊢
  have e0 : (l ++ mks mkCacS 0).length = l.length := by rw [List.length_append, mks_len]; rfl
  refine ⟨Option Addr × Nat, fun s => ⟨[(0, .slice p l.length cap), (3, .slice s.1 (l.length + 12) s.2)], []⟩, fun s X => OwnS cacE 97 w.heap.size X s.1 s.2 (l ++ mks mkCacS 12) ∧ Below w.heap.size w X, ?_, ?_⟩
  · refine ⟨Option Addr × Nat × Nat, fun s => ⟨[(0, .slice p l.length cap), (3, .slice s.1 (l ++ mks mkCacS s.2.2).length s.2.1), (4, .int .i64 (s.2.2 : Nat))], []⟩, fun s X => s.2.2 ≤ 12 ∧ OwnS cacE 97 w.heap.size X s.1 s.2.1 (l ++ mks mkCacS s.2.2) ∧ Below w.heap.size w X, fun s => 12 - s.2.2, (p2, c2, 0), ⟨.cons rfl (.cons (by dsimp only; rw [e0]; rfl) (.cons rfl .nil)), rfl⟩, ⟨Nat.zero_le _, by simpa [mks] using ho2, hw2⟩, ?_⟩
    rintro ⟨q, c, k⟩ X ⟨hk, ho, hX⟩
    dsimp only at hk ho hX ⊢
    refine And.intro (fun h => ?_) (fun h => ?_)
    · have h : (k : Int) < 12 := of_decide_eq_true h
      refine Calls.mono (markCac_c k (by omega) X) ?_
      rintro e Y ⟨rfl, hbY⟩
      have hoY := ho.below hbY
      refine ⟨⟨by decide, by decide, rfl⟩, cacE.enc (mkCacS k), fill_one (cacE.len _) rfl, ?_⟩
      refine app_own (E := cacE) (news := [mkCacS k]) (B := w.heap.size) Tryz.underlying46 (ttOk.get 97 _ rfl) rfl rfl rfl (hoY.alloc _) rfl (one_new cacE (mkCacS k)) (by have := hX.size; have := hbY.size; simp; omega) (by rw [List.length_append, mks_len]; show l.length + k + 1 ≤ _; omega) (by rw [List.length_append, mks_len]; dsimp only [List.length_cons, List.length_nil]; omega) ?_
      intro p3 c3 Z ho3 _ hb3 _
      have hZ : Below w.heap.size w Z := (hX.trans (hbY.mono hX.size)).trans (((Below.refl _ Y).alloc (Nat.le_refl _) _ |>.mono (by have := hX.size; have := hbY.size; omega)).trans hb3)
      refine ⟨(k + 1 : Nat), (wrap_i64 (by omega)).trans (by omega), ?_⟩
      rw [List.append_assoc, ← mks_succ] at ho3
      exact ⟨(p3, c3, k + 1), ⟨.cons rfl (.cons (by dsimp only; rw [List.append_assoc, ← mks_succ]; rfl) (.cons rfl .nil)), rfl⟩, ⟨by show k + 1 ≤ 12; omega, ho3, hZ⟩, by show 12 - (k + 1) < 12 - k; omega⟩
    · have h : ¬ (k : Int) < 12 := of_decide_eq_false h
      obtain rfl : k = 12 := by omega
      exact ⟨(q, c), ⟨.cons rfl (.cons (by dsimp only; rw [List.length_append, mks_len]; rfl) .nil), rfl⟩, ho, hX⟩
  rintro ⟨q, c⟩ X ⟨ho, hX⟩
  dsimp only at ho hX ⊢
  have hL := LentR.of_own ho
  have hcq := hL.2
  rw [mks_len] at hcq
  refine ⟨l.length, rfl, by omega, ?_⟩
  refine ⟨_, _, rfl, ?_, hX⟩
  rw [cutBase_zero]; exact ho

theorem KeptCaches_c {q p : Option Addr} {cq cap : Nat} {l : List CacS} {w : World} (hq : LentR cacE w q cq l (mks mkCacS 12)) (hp : SlR cacE w p l) (hn : l.length ≤ 1000) :
    Calls Tryz.prog 52 #[.slice q l.length cq, .slice p l.length cap] w fun e w' => e = .returned (.bool true) ∧ Below w.heap.size w w' := by
  refine calls_of_M (S := sg 58) (sgOk _) (args := [.slice q l.length cq, .slice p l.length cap]) (.s .p (.c .p (.s .p (.c .p .p)))) Tryz.func52 rfl rfl (Nat.le_of_ble_eq_true rfl) rfl ?_
  obtain ⟨hq1, hq2⟩ := hq
  rw [mks_len] at hq2
  have hlm : (l ++ mks mkCacS 12).length = l.length + 12 := by rw [List.length_append, mks_len]
  obtain ⟨b0, o0, rfl, _, _⟩ := hq1.at (i := 0) (by omega)
  refine ⟨Unit, fun _ => ⟨[(0, .slice (some ⟨b0, o0, none⟩) l.length cq), (1, .slice p l.length cap)], []⟩, fun _ X => w = X, ?_, ?_⟩
  · refine And.intro (fun h => absurd rfl (nt h)) (fun _ => ?_)
    exact ⟨(), ⟨.cons rfl (.cons rfl .nil), rfl⟩, rfl⟩
  rintro _ _ rfl
  dsimp only
  refine ⟨(l.length + 12 : Nat), (wrap_i64 (by omega)).trans (by omega), ?_⟩
  refine ⟨l.length + 12, rfl, hq2, ?_⟩
  refine ⟨Unit, fun _ => ⟨[], []⟩, fun _ X => Below w.heap.size w X, ?_, ?_⟩
  · refine ⟨Nat, fun k => ⟨[(1, .slice p l.length cap), (5, .slice (some ⟨b0, o0, none⟩) (l.length + 12) cq), (6, .int .i64 (k : Nat))], []⟩, fun k X => k ≤ l.length + 12 ∧ Below w.heap.size w X, fun k => l.length + 12 - k, 0, ⟨.cons rfl (.cons (congrArg some (by rw [cutBase_zero]; rfl)) (.cons rfl .nil)), rfl⟩, ⟨Nat.zero_le _, Below.refl _ _⟩, ?_⟩
    rintro k X ⟨hk, hX⟩
    dsimp only at hk hX ⊢
    have hqX : SlR cacE X.drew (some ⟨b0, o0, none⟩) (l ++ mks mkCacS 12) := hq1.below hX.drew
    have hpX : SlR cacE X.drew p l := hp.below hX.drew
    refine And.intro (fun h => ?_) (fun h => ?_)
    · have h : (k : Int) < ((l.length + 12 : Nat) : Int) := of_decide_eq_true h
      have hkl : k < (l ++ mks mkCacS 12).length := by omega
      refine DrawE.ord [] [0, 1, 2, 3, 4, 5, 6, 7, 8, 9, 10, 11, 12, 13, 14, 15, 16, 17, 18, 19, 20, 21, 22, 23, 24, 25, 26, 27, 28, 29, 30, 31, 32, 33, 34] (by kernel_rfl) ?_
      obtain ⟨b, o, hqe, hb, hc⟩ := hqX.at hkl
      cases hqe
      have hce := hc k hkl
      refine And.intro (fun h1 => ?_) (fun h1 => ?_)
      · have h1 : (k : Int) < (l.length : Int) := of_decide_eq_true h1
        have hk1 : k < l.length := by omega
        obtain ⟨b2, o2, rfl, hb2, hc2⟩ := hpX.at hk1
        rw [List.getElem_append_left hk1] at hce
        refine ⟨k, rfl, by omega, ?_⟩
        refine ⟨cacE.enc l[k], cacE.len _, hce, hb, ?_⟩
        refine ⟨k, rfl, hk1, ?_⟩
        refine ⟨cacE.enc l[k], cacE.len _, hc2 k hk1, hb2, ?_⟩
        refine ⟨_, fun w => self_CacS _ _ l[k] w, ?_⟩
        refine And.intro (fun h => by cases h) (fun _ => ?_)
        refine And.intro (fun h2 => ?_) (fun h2 => ?_)
        · have h2 : (l.length : Int) ≤ k := of_decide_eq_true h2
          omega
        refine And.intro (fun h => by cases h) (fun _ => ?_)
        refine ⟨(k + 1 : Nat), (wrap_i64 (by omega)).trans (by omega), ?_⟩
        exact ⟨k + 1, ⟨.cons rfl (.cons rfl (.cons rfl .nil)), rfl⟩, ⟨by omega, hX.drew⟩, by omega⟩
      · have h1 : ¬ (k : Int) < (l.length : Int) := of_decide_eq_false h1
        have hmk : (l ++ mks mkCacS 12)[k] = mkCacS (k - l.length) := by rw [List.getElem_append_right (by omega)]; exact mks_get _ _
        rw [hmk] at hce
        refine And.intro (fun h => by cases h) (fun _ => ?_)
        refine And.intro (fun h2 => ?_) (fun h2 => ?_)
        · refine ⟨k, rfl, by omega, ?_⟩
          refine ⟨cacE.enc (mkCacS (k - l.length)), cacE.len _, hce, hb, ?_⟩
          refine ⟨(k - l.length : Nat), (wrap_i64 (by omega)).trans (by omega), ?_⟩
          refine Calls.mono (markCac_c (k - l.length) (by omega) X.drew) ?_
          rintro e Y ⟨rfl, hbY⟩
          refine ⟨hbY, ?_⟩
          refine ⟨_, fun w => self_CacS _ _ (mkCacS (k - l.length)) w, ?_⟩
          refine And.intro (fun h => by cases h) (fun _ => ?_)
          refine ⟨(k + 1 : Nat), (wrap_i64 (by omega)).trans (by omega), ?_⟩
          exact ⟨k + 1, ⟨.cons rfl (.cons rfl (.cons rfl .nil)), rfl⟩, ⟨by omega, hX.drew.trans (hbY.mono hX.drew.size)⟩, by omega⟩
        · have h2 : ¬ (l.length : Int) ≤ k := of_decide_eq_false h2
          omega
    · exact ⟨(), ⟨.nil, rfl⟩, hX⟩
  rintro _ X hX
  exact ⟨rfl, hX⟩
end Go.Proofs.YtedeohcdcaimhaaGreatDoor
namespace Go.Proofs.YtedeohcdcaimhaaGreatDoor
open Go.Vc Go.RowKit Go.Sei
set_option linter.unusedVariables false

/-- A core and where its stores lie. -/
abbrev CoreR := Cor × Option Addr × Nat
def corE : Enc CoreR := ⟨fun x => corCells x.1 (.slice x.2.1 x.1.buf.length x.2.2), 12, fun _ => rfl, by decide, fun x u hu => by
  simp only [corCells, List.mem_cons, List.not_mem_nil, or_false] at hu
  rcases hu with rfl | rfl | rfl | rfl | rfl | rfl | rfl | rfl | rfl | rfl | rfl | rfl <;> rfl⟩
def mkCorR (i : Nat) : CoreR := (mkCor i, none, 0)
theorem cors_rows {B : Nat} {w : World} {p : Option Addr} {l : List Cor} (h : CorsV B w p l) (hB : B ≤ w.heap.size) : ∃ xs : List CoreR, xs.map (·.1) = l ∧ SlR corE w p xs ∧ ∀ x ∈ xs, RowB stoE B w x.2.1 x.1.buf := by
  obtain ⟨b, o, hp, hat⟩ := h
  have each : ∀ i : Fin l.length, ∃ x : CoreR, x.1 = l[i] ∧ b < B ∧ Cells w ⟨b, o + i.1 * 12, none⟩ (corE.enc x) ∧ RowB stoE B w x.2.1 x.1.buf := fun i => by
    obtain ⟨q, c, h1, h2, h3⟩ := hat i.1 i.2
    exact ⟨(l[i], q, c), rfl, h1, h2, h3⟩
  refine ⟨List.ofFn fun i => Classical.choose (each i), ?_, ?_, ?_⟩
  · refine List.ext_getElem (by simp) fun i h1 h2 => ?_
    simp only [List.getElem_map, List.getElem_ofFn]
    exact (Classical.choose_spec (each ⟨i, h2⟩)).1
  · by_cases h0 : l.length = 0
    · left
      exact List.eq_nil_of_length_eq_zero (by simp [h0])
    · rcases hp with hp | hp
      · exact absurd hp h0
      · refine .inr ⟨b, o, hp, ?_, fun i hi => ?_⟩
        · have := (Classical.choose_spec (each ⟨0, by omega⟩)).2.1; omega
        · simp only [List.getElem_ofFn]
          exact (Classical.choose_spec (each ⟨i, by simpa using hi⟩)).2.2.1
  · intro x hx
    obtain ⟨i, hi⟩ := (List.mem_ofFn (f := fun i => Classical.choose (each i))).1 hx
    rw [← hi]
    exact (Classical.choose_spec (each i)).2.2.2
theorem cors_of {w : World} {p : Option Addr} {xs : List CoreR} (h : SlR corE w p xs) (hx : ∀ x ∈ xs, SlR stoE w x.2.1 x.1.buf) : CorsV w.heap.size w p (xs.map (·.1)) := by
  rcases h with rfl | ⟨b, o, rfl, hb, hc⟩
  · exact ⟨0, 0, .inl rfl, fun i hi => by simp at hi⟩
  · refine ⟨b, o, .inr rfl, fun i hi => ?_⟩
    have hi' : i < xs.length := by simpa using hi
    simp only [List.getElem_map]
    exact ⟨xs[i].2.1, xs[i].2.2, hb, hc i hi', RowB.of_slr (hx _ (List.getElem_mem hi'))⟩
theorem cacs_rows {B : Nat} {w : World} {p : Option Addr} {l : List Cac} (h : CacsV B w p l) (hB : B ≤ w.heap.size) : ∃ xs : List CacS, xs.map (·.1) = l ∧ SlR cacE w p xs := by
  obtain ⟨b, o, hp, hat⟩ := h
  obtain ⟨f, hf⟩ : ∃ f : Fin l.length → CacS, ∀ i : Fin l.length, (f i).1 = l[i.1] := ⟨fun i => ⟨l[i.1], (hat i.1 i.2).2.2⟩, fun _ => rfl⟩
  refine ⟨List.ofFn f, ?_, ?_⟩
  · refine List.ext_getElem (by rw [List.length_map, List.length_ofFn]) fun i h1 h2 => ?_
    rw [List.getElem_map, List.getElem_ofFn]; exact hf _
  · by_cases h0 : l.length = 0
    · left
      exact List.eq_nil_of_length_eq_zero (by rw [List.length_ofFn, h0])
    · rcases hp with hp | hp
      · exact absurd hp h0
      · refine .inr ⟨b, o, hp, ?_, fun i hi => ?_⟩
        · have := (hat 0 (by omega)).1; omega
        · have hi' : i < l.length := by rwa [List.length_ofFn] at hi
          rw [List.getElem_ofFn]
          show Cells w ⟨b, o + i * 160, none⟩ (cacCells (f ⟨i, hi'⟩).1)
          rw [hf]
          exact (hat i hi').2.1
theorem cacs_of {w : World} {p : Option Addr} {xs : List CacS} (h : SlR cacE w p xs) : CacsV w.heap.size w p (xs.map (·.1)) := by
  rcases h with rfl | ⟨b, o, rfl, hb, hc⟩
  · exact ⟨0, 0, .inl rfl, fun i hi => by simp at hi⟩
  · refine ⟨b, o, .inr rfl, fun i hi => ?_⟩
    have hi' : i < xs.length := by simpa using hi
    simp only [List.getElem_map]
    exact ⟨hb, hc i hi', xs[i].2⟩

theorem LentCore_c {x : CoreR} {w : World} (hr : SlR stoE w x.2.1 x.1.buf) (hn : x.1.buf.length ≤ 1000) :
    Calls Tryz.prog 76 #[.agg (corE.enc x).toArray] w fun e w' => ∃ y : CoreR, e = .returned (.agg (corE.enc y).toArray) ∧ y.1 = x.1 ∧ OwnS stoE 132 w.heap.size w' y.2.1 y.2.2 (x.1.buf ++ mks mkSto 12) ∧ Below w.heap.size w w' := by
  refine calls_of_E (S := sg 8) (sgOk _) (args := [.agg (corE.enc x).toArray]) Tryz.func76 rfl rfl (Nat.le_of_ble_eq_true rfl) rfl ?_
  obtain ⟨zc, hz⟩ : ∃ zc, zc = corCells zeroCor nilSl := ⟨_, rfl⟩
  obtain ⟨W0, hW0⟩ : ∃ W0, (w.alloc (.cells (corE.enc x).toArray 66)).alloc (.cells zc.toArray 66) = W0 := ⟨_, rfl⟩
  have e1 : (w.alloc (.cells (corE.enc x).toArray 66)).heap.size = w.heap.size + 1 := World.size_alloc _ _
  have hb0 : Below w.heap.size w W0 := by rw [← hW0]; exact ((Below.refl _ _).alloc (Nat.le_refl _) _).alloc (by simp) _
  have f0 : W0.heap[w.heap.size]? = some (.cells (corE.enc x).toArray 66 (0, 0)) := by rw [← hW0]; exact hold _ (hnew w _)
  have f1 : W0.heap[(w.alloc (.cells (corE.enc x).toArray 66)).heap.size]? = some (.cells zc.toArray 66 (0, 0)) := by
    rw [← hW0]; exact hnew _ _
  subst hz
  subst hW0
  refine ⟨_, cells_at (cells_block f0) (i := 9) rfl, ?_⟩
  refine Calls.mono (LentStores_c (hr.below hb0) hn) ?_
  rintro e V ⟨q, cq, rfl, ho, hbV⟩
  have f0V := block_below hbV f0
  have f1V := block_below hbV f1
  refine store_cell (ttOk.get 64 _ rfl) rfl f0V (o := 9) (by show 9 < (corE.enc x).length; rw [corE.len]; decide) (v := .slice q x.1.buf.length cq) rfl rfl ?_
  intro Y fY gY sY
  have hoY := ho.kept gY fun g hg e => by
    simp only [Option.some.injEq] at e
    rcases ho.inv with ⟨h1, _⟩ | ⟨g2, _, h1, h2, _⟩
    · rw [h1] at hg; cases hg
    · rw [h1] at hg
      simp only [Option.some.injEq, Addr.mk.injEq, and_true] at hg
      have h2 : ((w.alloc (.cells (corE.enc x).toArray 66)).alloc (.cells (corCells zeroCor nilSl).toArray 66)).heap.size ≤ g2 := h2
      have := hlt f0
      omega
  have fY : Y.heap[w.heap.size]? = some (.cells (corE.enc (x.1, q, cq)).toArray 66 (0, 0)) := fY
  have hwV := hb0.trans (hbV.mono hb0.size)
  have hwY : Below w.heap.size w Y := hwV.grown gY hwV.size (fun k e => by simp only [Option.some.injEq] at e; omega)
  have f1Y : Y.heap[(w.alloc (.cells (corE.enc x).toArray 66)).heap.size]? = some (.cells (corCells zeroCor nilSl).toArray 66 (0, 0)) := (gY.block _ (hlt f1V) (fun e => by simp only [Option.some.injEq] at e; omega)).trans f1V
  refine ⟨corE.enc (x.1, q, cq), corE.len _, cells_block fY, hlt fY, ?_⟩
  refine store_box (v := .agg (corE.enc (x.1, q, cq)).toArray) (ttOk.get 66 _ rfl) f1Y (by rfl) (by rfl) (by rfl) ?_
  refine ⟨corE.enc (x.1, q, cq), corE.len _, cells_block (setRow_new f1Y), ?_⟩
  refine ⟨(x.1, q, cq), rfl, rfl, ?_, below_setRow hwY (by omega) _⟩
  have hh := (own_weak hoY hb0.size).kept (grown_setRow Y (w.alloc (.cells (corE.enc x).toArray 66)).heap.size (Value.agg (corE.enc (x.1, q, cq)).toArray).cells) fun g hg e => by
    simp only [Option.some.injEq] at e
    rcases ho.inv with ⟨h1, _⟩ | ⟨g2, _, h1, h2, _⟩
    · rw [h1] at hg; cases hg
    · rw [h1] at hg
      simp only [Option.some.injEq, Addr.mk.injEq, and_true] at hg
      have h2 : ((w.alloc (.cells (corE.enc x).toArray 66)).alloc (.cells (corCells zeroCor nilSl).toArray 66)).heap.size ≤ g2 := h2
      have := hlt f1
      omega
  exact hh
end Go.Proofs.YtedeohcdcaimhaaGreatDoor
namespace Go.Proofs.YtedeohcdcaimhaaGreatDoor
open Go.Vc Go.RowKit Go.Sei
set_option linter.unusedVariables false

/-- An append to one's own row keeps own rows of other elements. -/
theorem own_apart {α β : Type} {E1 : Enc α} {E2 : Enc β} {T1 T2 B1 B2 c1 c2 n : Nat} {X Z : World} {p q : Option Addr} {l1 : List α} {l2 : List β} (hT : T1 ≠ T2) (h1 : OwnS E1 T1 B1 X q c1 l1) (h2 : OwnS E2 T2 B2 X p c2 l2)
    (hg : X.grownBy Z (Value.slice p n c2).ownBlock) : OwnS E1 T1 B1 Z q c1 l1 := by
  refine h1.kept hg fun g hq e => ?_
  rcases h2.inv with ⟨rfl, _⟩ | ⟨g', cur, rfl, _, hc, _⟩
  · simp [Value.ownBlock] at e
  · simp [Value.ownBlock] at e
    subst e
    rcases h1.inv with ⟨rfl, _⟩ | ⟨g2, cur2, rfl, _, hc2, _⟩
    · cases hq
    · simp only [Option.some.injEq, Addr.mk.injEq, and_true] at hq
      subst hq
      rw [hc] at hc2
      simp only [Option.some.injEq, Obj.cells.injEq] at hc2
      exact hT hc2.2.1.symm
theorem sto_core : (132 : Nat) ≠ 66 := by decide
abbrev LentB (B : Nat) (X : World) (y : CoreR) : Prop := OwnS stoE 132 B X y.2.1 y.2.2 (y.1.buf ++ mks mkSto 12)

theorem LentCores_c {p : Option Addr} {cap : Nat} {xs : List CoreR} {w : World} (hr : SlR corE w p xs) (hx : ∀ x ∈ xs, SlR stoE w x.2.1 x.1.buf ∧ x.1.buf.length ≤ 1000) (hn : xs.length ≤ 1000) :
    Calls Tryz.prog 41 #[.slice p xs.length cap] w fun e w' => ∃ q cq ys, e = .returned (.slice q xs.length cq) ∧ ys.map (·.1) = xs.map (·.1) ∧ OwnS corE 66 w.heap.size w' q cq (ys ++ mks mkCorR 12) ∧ (∀ y ∈ ys, LentB w.heap.size w' y) ∧ Below w.heap.size w w' := by
  refine calls_of_M (S := sg 39) (sgOk _) (args := [.slice p xs.length cap]) (.s .p (.s .p (.c .p (.c .p (.s .p .p))))) Tryz.func41 rfl rfl (Nat.le_of_ble_eq_true rfl) rfl ?_
  refine ⟨(xs.length + 12 : Nat), (wrap_i64 (by omega)).trans (by omega), ?_⟩
  refine make_cap (E := corE) Tryz.underlying45 (ttOk.get 66 _ rfl) rfl rfl (xs.length + 12) (by show (xs.length + 12) * 12 ≤ _; omega) (by dsimp only; omega) (by unfold maxLen; omega) ?_
  intro W1 ho1 hb1
  refine ⟨Option Addr × Nat × List CoreR, fun s => ⟨[(0, .slice p xs.length cap), (3, .slice s.1 xs.length s.2.1)], []⟩, fun s X => s.2.2.map (·.1) = xs.map (·.1) ∧ OwnS corE 66 w.heap.size X s.1 s.2.1 s.2.2 ∧ (∀ y ∈ s.2.2, LentB w.heap.size X y) ∧ Below w.heap.size w X, ?_, ?_⟩
  · refine ⟨Option Addr × Nat × List CoreR, fun s => ⟨[(0, .slice p xs.length cap), (3, .slice s.1 s.2.2.length s.2.1), (4, .int .i64 (s.2.2.length : Nat))], []⟩, fun s X => s.2.2.length ≤ xs.length ∧ s.2.2.map (·.1) = (xs.take s.2.2.length).map (·.1) ∧ OwnS corE 66 w.heap.size X s.1 s.2.1 s.2.2 ∧ (∀ y ∈ s.2.2, LentB w.heap.size X y) ∧ Below w.heap.size w X,
      fun s => xs.length - s.2.2.length, (some ⟨w.heap.size, 0, none⟩, xs.length + 12, []), ⟨.cons rfl (.cons rfl (.cons rfl .nil)), rfl⟩, ⟨Nat.zero_le _, rfl, ho1, fun y hy => by simp at hy, hb1⟩, ?_⟩
    rintro ⟨q, c, ys⟩ X ⟨hk, hm, ho, hl, hX⟩
    dsimp only at hk hm ho hl hX ⊢
    refine And.intro (fun h => ?_) (fun h => ?_)
    · have h : (ys.length : Int) < xs.length := of_decide_eq_true h
      have hk1 : ys.length < xs.length := by omega
      obtain ⟨b, o, rfl, hb, hc⟩ := (hr.below hX).at hk1
      refine ⟨ys.length, rfl, hk1, ?_⟩
      refine ⟨corE.enc xs[ys.length], corE.len _, hc _ hk1, hb, ?_⟩
      obtain ⟨hxs, hxn⟩ := hx _ (List.getElem_mem hk1)
      refine Calls.mono (LentCore_c (hxs.below hX) hxn) ?_
      rintro e Y ⟨y, rfl, hy1, hyo, hbY⟩
      refine store_new (X := Y) (v := .agg (corE.enc y).toArray) (ttOk.get 66 _ rfl) (by rfl) (by rfl) (by rfl) fun Z hbZ fZ sZ => ?_
      refine ⟨corE.enc y, corE.len _, cells_block fZ, hlt fZ, ?_⟩
      refine ⟨⟨by decide, by decide, rfl⟩, corE.enc y, fill_one (corE.len _) rfl, ?_⟩
      have hXY := hbY.trans (hbZ.mono hbY.size)
      have hA : Below X.heap.size X (Z.alloc (.cells (corE.enc y).toArray 66)) := hXY.alloc hXY.size _
      have hoA := ho.below hA
      have hlA : ∀ u ∈ ys, LentB w.heap.size (Z.alloc (.cells (corE.enc y).toArray 66)) u := fun u hu => (hl u hu).below hA
      have hyA : LentB w.heap.size (Z.alloc (.cells (corE.enc y).toArray 66)) y := by
        have h5 : OwnS stoE 132 X.heap.size Y y.2.1 y.2.2 (y.1.buf ++ mks mkSto 12) := by rw [hy1]; exact hyo
        exact ((own_weak h5 hX.size).below hbZ).alloc _
      have hBA : w.heap.size ≤ (Z.alloc (.cells (corE.enc y).toArray 66)).heap.size := by have := hX.size; have := hA.size; omega
      refine app_own (E := corE) (news := [y]) (B := w.heap.size) Tryz.underlying45 (ttOk.get 66 _ rfl) rfl rfl rfl hoA rfl (one_new corE y) hBA (by show ys.length + 1 ≤ _; omega) (by dsimp only [List.length_cons, List.length_nil]; omega) ?_
      intro p3 c3 V ho3 gr3 hb3 _
      refine ⟨(ys.length + 1 : Nat), (wrap_i64 (by omega)).trans (by omega), ?_⟩
      have hl1 : (ys ++ [y]).length = ys.length + 1 := by simp
      refine ⟨(p3, c3, ys ++ [y]), ⟨.cons rfl (.cons rfl (.cons (by dsimp only; rw [hl1]; rfl) .nil)), rfl⟩, ⟨by show (ys ++ [y]).length ≤ _; omega, ?_, ho3, ?_, (hX.trans (hA.mono hX.size)).trans hb3⟩, by show xs.length - (ys ++ [y]).length < xs.length - ys.length; omega⟩
      · show (ys ++ [y]).map (·.1) = (xs.take (ys ++ [y]).length).map (·.1)
        rw [hl1, List.take_succ_eq_append_getElem hk1, List.map_append, List.map_append, hm]
        simp [hy1]
      · intro u hu
        rcases List.mem_append.1 hu with hu | hu
        · exact own_apart sto_core (hlA u hu) hoA gr3
        · simp only [List.mem_singleton] at hu
          rw [hu]
          exact own_apart sto_core hyA hoA gr3
    · have h : ¬ (ys.length : Int) < xs.length := of_decide_eq_false h
      have he : ys.length = xs.length := by omega
      exact ⟨(q, c, ys), ⟨.cons rfl (.cons (by dsimp only; rw [← he]; rfl) .nil), rfl⟩, by rw [hm, he, List.take_length], ho, hl, hX⟩
  rintro ⟨q1, c1, ys⟩ X1 ⟨hm, ho1, hl1, hX1⟩
  dsimp only at hm ho1 hl1 hX1 ⊢
  have hyl : ys.length = xs.length := by simpa using congrArg List.length hm
  refine ⟨Option Addr × Nat, fun s => ⟨[(0, .slice p xs.length cap), (3, .slice s.1 (xs.length + 12) s.2)], []⟩, fun s X => OwnS corE 66 w.heap.size X s.1 s.2 (ys ++ mks mkCorR 12) ∧ (∀ y ∈ ys, LentB w.heap.size X y) ∧ Below w.heap.size w X, ?_, ?_⟩
  · refine ⟨Option Addr × Nat × Nat, fun s => ⟨[(0, .slice p xs.length cap), (3, .slice s.1 (ys ++ mks mkCorR s.2.2).length s.2.1), (6, .int .i64 (s.2.2 : Nat))], []⟩, fun s X => s.2.2 ≤ 12 ∧ OwnS corE 66 w.heap.size X s.1 s.2.1 (ys ++ mks mkCorR s.2.2) ∧ (∀ y ∈ ys, LentB w.heap.size X y) ∧ Below w.heap.size w X, fun s => 12 - s.2.2, (q1, c1, 0),
      ⟨.cons rfl (.cons (by dsimp only; rw [List.length_append, mks_len, hyl]; rfl) (.cons rfl .nil)), rfl⟩, ⟨Nat.zero_le _, by simpa [mks] using ho1, hl1, hX1⟩, ?_⟩
    rintro ⟨q, c, k⟩ X ⟨hk, ho, hl, hX⟩
    dsimp only at hk ho hl hX ⊢
    refine And.intro (fun h => ?_) (fun h => ?_)
    · have h : (k : Int) < 12 := of_decide_eq_true h
      refine Calls.mono (markCor_c k (by omega) X) ?_
      rintro e Y ⟨rfl, hbY⟩
      have hoY := ho.below hbY
      refine ⟨⟨by decide, by decide, rfl⟩, corE.enc (mkCorR k), fill_one (corE.len (mkCorR k)) rfl, ?_⟩
      have hA : Below X.heap.size X (Y.alloc (.cells (corE.enc (mkCorR k)).toArray 66)) := hbY.alloc hbY.size _
      have hBA : w.heap.size ≤ (Y.alloc (.cells (corE.enc (mkCorR k)).toArray 66)).heap.size := by have := hX.size; have := hA.size; omega
      refine app_own (E := corE) (news := [mkCorR k]) (B := w.heap.size) Tryz.underlying45 (ttOk.get 66 _ rfl) rfl rfl rfl (ho.below hA) rfl (one_new corE (mkCorR k)) hBA (by rw [List.length_append, mks_len]; show ys.length + k + 1 ≤ _; omega) (by rw [List.length_append, mks_len]; dsimp only [List.length_cons, List.length_nil]; omega) ?_
      intro p3 c3 Z ho3 gr3 hb3 _
      refine ⟨(k + 1 : Nat), (wrap_i64 (by omega)).trans (by omega), ?_⟩
      rw [List.append_assoc, ← mks_succ] at ho3
      exact ⟨(p3, c3, k + 1), ⟨.cons rfl (.cons (by dsimp only; rw [List.append_assoc, ← mks_succ]; rfl) (.cons rfl .nil)), rfl⟩, ⟨by show k + 1 ≤ 12; omega, ho3, fun u hu => own_apart sto_core ((hl u hu).below hA) (ho.below hA) gr3, (hX.trans (hA.mono hX.size)).trans hb3⟩, by show 12 - (k + 1) < 12 - k; omega⟩
    · have h : ¬ (k : Int) < 12 := of_decide_eq_false h
      obtain rfl : k = 12 := by omega
      exact ⟨(q, c), ⟨.cons rfl (.cons (by dsimp only; rw [List.length_append, mks_len, hyl]; rfl) .nil), rfl⟩, ho, hl, hX⟩
  rintro ⟨q, c⟩ X ⟨ho, hl, hX⟩
  dsimp only at ho hl hX ⊢
  have hcq := (LentR.of_own ho).2
  rw [mks_len, hyl] at hcq
  refine ⟨xs.length, rfl, by omega, ?_⟩
  refine ⟨_, _, ys, rfl, hm, ?_, hl, hX⟩
  rw [cutBase_zero]; exact ho
end Go.Proofs.YtedeohcdcaimhaaGreatDoor
namespace Go.Proofs.YtedeohcdcaimhaaGreatDoor
open Go.Vc Go.RowKit Go.Sei
set_option linter.unusedVariables false

theorem KeptCore_c {x y : CoreR} {w : World} (hyx : y.1 = x.1) (hy : LentR stoE w y.2.1 y.2.2 y.1.buf (mks mkSto 12)) (hx : SlR stoE w x.2.1 x.1.buf) (hn : x.1.buf.length ≤ 1000) :
    Calls Tryz.prog 91 #[.agg (corE.enc y).toArray, .agg (corE.enc x).toArray] w fun e w' => e = .returned (.bool true) ∧ Below w.heap.size w w' := by
  refine calls_of_E (S := sg 15) (sgOk _) (args := [.agg (corE.enc y).toArray, .agg (corE.enc x).toArray]) Tryz.func91 rfl rfl (Nat.le_of_ble_eq_true rfl) rfl ?_
  have hb0 : Below w.heap.size w ((w.alloc (.cells (corE.enc y).toArray 66)).alloc (.cells (corE.enc x).toArray 66)) := ((Below.refl _ _).alloc (Nat.le_refl _) _).alloc (by simp) _
  have f0 : ((w.alloc (.cells (corE.enc y).toArray 66)).alloc (.cells (corE.enc x).toArray 66)).heap[w.heap.size]? = some (.cells (corE.enc y).toArray 66 (0, 0)) := hold _ (hnew w _)
  have f1 : ((w.alloc (.cells (corE.enc y).toArray 66)).alloc (.cells (corE.enc x).toArray 66)).heap[(w.alloc (.cells (corE.enc y).toArray 66)).heap.size]? = some (.cells (corE.enc x).toArray 66 (0, 0)) := hnew _ _
  refine ⟨corE.enc y, corE.len _, cells_block f0, hlt f0, ?_⟩
  refine ⟨corE.enc x, corE.len _, cells_block f1, hlt f1, ?_⟩
  have hs := SameCore_c (c := y.1) (c' := x.1) (cap := y.2.2) (cap' := x.2.2) (RowB.of_slr (SlR.prefix (hy.below hb0).1)) (RowB.of_slr (hx.below hb0)) (Nat.le_refl _) (by rw [hyx]; omega)
  rw [decide_eq_true hyx] at hs
  refine Calls.mono hs ?_
  rintro e X ⟨rfl, hbX⟩
  have hX := hb0.trans (hbX.mono hb0.size)
  refine And.intro (fun _ => ?_) (fun h => by cases h)
  refine ⟨_, cells_at (cells_block (block_below hbX f0)) (i := 9) rfl, ?_⟩
  refine ⟨_, cells_at (cells_block (block_below hbX f1)) (i := 9) rfl, ?_⟩
  have hk := KeptStores_c (cap := x.2.2) (hy.below hX) (hx.below hX |> fun h => by rw [hyx]; exact h) (by rw [hyx]; exact hn)
  have e1 : x.1.buf.length = y.1.buf.length := by rw [hyx]
  have hk2 : Calls Tryz.prog 107 #[.slice y.2.1 y.1.buf.length y.2.2, .slice x.2.1 x.1.buf.length x.2.2] X fun e w' => e = .returned (.bool true) ∧ Below X.heap.size X w' := by rw [e1]; exact hk
  refine Calls.mono hk2 ?_
  rintro e Y ⟨rfl, hbY⟩
  exact ⟨rfl, hX.trans (hbY.mono hX.size)⟩

theorem KeptCores_c {q p : Option Addr} {cq cap : Nat} {ys xs : List CoreR} {w : World} (hm : ys.map (·.1) = xs.map (·.1)) (hq : LentR corE w q cq ys (mks mkCorR 12)) (hy : ∀ y ∈ ys, LentR stoE w y.2.1 y.2.2 y.1.buf (mks mkSto 12)) (hp : SlR corE w p xs)
    (hx : ∀ x ∈ xs, SlR stoE w x.2.1 x.1.buf ∧ x.1.buf.length ≤ 1000) (hn : xs.length ≤ 1000) :
    Calls Tryz.prog 51 #[.slice q xs.length cq, .slice p xs.length cap] w fun e w' => e = .returned (.bool true) ∧ Below w.heap.size w w' := by
  refine calls_of_M (S := sg 58) (sgOk _) (args := [.slice q xs.length cq, .slice p xs.length cap]) (.s .p (.c .p (.s .p (.c .p .p)))) Tryz.func51 rfl rfl (Nat.le_of_ble_eq_true rfl) rfl ?_
  obtain ⟨hq1, hq2⟩ := hq
  have hyl : ys.length = xs.length := by simpa using congrArg List.length hm
  rw [mks_len, hyl] at hq2
  have hlm : (ys ++ mks mkCorR 12).length = xs.length + 12 := by rw [List.length_append, mks_len, hyl]
  obtain ⟨b0, o0, rfl, _, _⟩ := hq1.at (i := 0) (by omega)
  refine ⟨Unit, fun _ => ⟨[(0, .slice (some ⟨b0, o0, none⟩) xs.length cq), (1, .slice p xs.length cap)], []⟩, fun _ X => w = X, ?_, ?_⟩
  · refine And.intro (fun h => absurd rfl (nt h)) (fun _ => ?_)
    exact ⟨(), ⟨.cons rfl (.cons rfl .nil), rfl⟩, rfl⟩
  rintro _ _ rfl
  dsimp only
  refine ⟨(xs.length + 12 : Nat), (wrap_i64 (by omega)).trans (by omega), ?_⟩
  refine ⟨xs.length + 12, rfl, hq2, ?_⟩
  refine ⟨Unit, fun _ => ⟨[], []⟩, fun _ X => Below w.heap.size w X, ?_, ?_⟩
  · refine ⟨Nat, fun k => ⟨[(1, .slice p xs.length cap), (5, .slice (some ⟨b0, o0, none⟩) (xs.length + 12) cq), (6, .int .i64 (k : Nat))], []⟩, fun k X => k ≤ xs.length + 12 ∧ Below w.heap.size w X, fun k => xs.length + 12 - k, 0, ⟨.cons rfl (.cons (congrArg some (by rw [cutBase_zero]; rfl)) (.cons rfl .nil)), rfl⟩, ⟨Nat.zero_le _, Below.refl _ _⟩, ?_⟩
    rintro k X ⟨hk, hX⟩
    dsimp only at hk hX ⊢
    have hqX : SlR corE X.drew (some ⟨b0, o0, none⟩) (ys ++ mks mkCorR 12) := hq1.below hX.drew
    have hpX : SlR corE X.drew p xs := hp.below hX.drew
    refine And.intro (fun h => ?_) (fun h => ?_)
    · have h : (k : Int) < ((xs.length + 12 : Nat) : Int) := of_decide_eq_true h
      have hkl : k < (ys ++ mks mkCorR 12).length := by omega
      refine DrawE.ord [] [0, 1, 2, 3, 4, 5, 6, 7, 8, 9, 10, 11, 12, 13, 14, 15, 16, 17, 18, 19, 20, 21, 22, 23, 24, 25, 26, 27, 28, 29, 30, 31, 32, 33, 34] (by kernel_rfl) ?_
      obtain ⟨b, o, hqe, hb, hc⟩ := hqX.at hkl
      cases hqe
      have hce := hc k hkl
      refine And.intro (fun h1 => ?_) (fun h1 => ?_)
      · have h1 : (k : Int) < (xs.length : Int) := of_decide_eq_true h1
        have hk1 : k < xs.length := by omega
        have hk2 : k < ys.length := by omega
        obtain ⟨b2, o2, rfl, hb2, hc2⟩ := hpX.at hk1
        rw [List.getElem_append_left hk2] at hce
        refine ⟨k, rfl, by omega, ?_⟩
        refine ⟨corE.enc ys[k], corE.len _, hce, hb, ?_⟩
        refine ⟨k, rfl, hk1, ?_⟩
        refine ⟨corE.enc xs[k], corE.len _, hc2 k hk1, hb2, ?_⟩
        have hyx : ys[k].1 = xs[k].1 := by
          have := congrArg (fun l => l[k]?) hm
          simpa [hk1, hk2] using this
        obtain ⟨hxs, hxn⟩ := hx _ (List.getElem_mem hk1)
        refine Calls.mono (KeptCore_c hyx ((hy _ (List.getElem_mem hk2)).below hX.drew) (hxs.below hX.drew) hxn) ?_
        rintro e Y ⟨rfl, hbY⟩
        refine ⟨hbY, ?_⟩
        refine And.intro (fun h => by cases h) (fun _ => ?_)
        refine And.intro (fun h2 => ?_) (fun h2 => ?_)
        · have h2 : (xs.length : Int) ≤ k := of_decide_eq_true h2
          omega
        refine And.intro (fun h => by cases h) (fun _ => ?_)
        refine ⟨(k + 1 : Nat), (wrap_i64 (by omega)).trans (by omega), ?_⟩
        exact ⟨k + 1, ⟨.cons rfl (.cons rfl (.cons rfl .nil)), rfl⟩, ⟨by omega, hX.drew.trans (hbY.mono hX.drew.size)⟩, by omega⟩
      · have h1 : ¬ (k : Int) < (xs.length : Int) := of_decide_eq_false h1
        have hmk : (ys ++ mks mkCorR 12)[k] = mkCorR (k - xs.length) := by
          rw [List.getElem_append_right (by omega), mks_get]; rw [hyl]
        rw [hmk] at hce
        refine And.intro (fun h => by cases h) (fun _ => ?_)
        refine And.intro (fun h2 => ?_) (fun h2 => ?_)
        · refine ⟨k, rfl, by omega, ?_⟩
          refine ⟨corE.enc (mkCorR (k - xs.length)), corE.len _, hce, hb, ?_⟩
          refine ⟨(k - xs.length : Nat), (wrap_i64 (by omega)).trans (by omega), ?_⟩
          refine Calls.mono (markCor_c (k - xs.length) (by omega) X.drew) ?_
          rintro e Y ⟨rfl, hbY⟩
          refine ⟨hbY, ?_⟩
          have hs := SameCore_c (B := Y.heap.size) (c := mkCor (k - xs.length)) (c' := mkCor (k - xs.length)) (p := none) (p' := none) (cap := 0) (cap' := 0) (w := Y) (.inl rfl) (.inl rfl) (Nat.le_refl _) (Nat.zero_le _)
          rw [decide_eq_true rfl] at hs
          refine Calls.mono hs ?_
          rintro e Z ⟨rfl, hbZ⟩
          refine ⟨hbZ, ?_⟩
          refine And.intro (fun h => by cases h) (fun _ => ?_)
          refine ⟨(k + 1 : Nat), (wrap_i64 (by omega)).trans (by omega), ?_⟩
          exact ⟨k + 1, ⟨.cons rfl (.cons rfl (.cons rfl .nil)), rfl⟩, ⟨by omega, hX.drew.trans ((hbY.trans (hbZ.mono hbY.size)).mono hX.drew.size)⟩, by omega⟩
        · have h2 : ¬ (xs.length : Int) ≤ k := of_decide_eq_false h2
          omega
    · exact ⟨(), ⟨.nil, rfl⟩, hX⟩
  rintro _ X hX
  exact ⟨rfl, hX⟩
end Go.Proofs.YtedeohcdcaimhaaGreatDoor
namespace Go.Proofs.YtedeohcdcaimhaaGreatDoor
open Go.Vc Go.RowKit Go.Sei
set_option linter.unusedVariables false

theorem own_old {α : Type} {E : Enc α} {T B c g : Nat} {X Y : World} {q : Option Addr} {l : List α} (h : OwnS E T B X q c l) (hg : X.grownBy Y (some g)) (hlt : g < B) : OwnS E T B Y q c l := by
  refine h.kept hg fun g' hq e => ?_
  simp only [Option.some.injEq] at e
  rcases h.inv with ⟨rfl, _⟩ | ⟨g2, _, rfl, h2, _⟩
  · cases hq
  · simp only [Option.some.injEq, Addr.mk.injEq, and_true] at hq
    omega
/-- The bounds under which a system is examined. -/
structure Small (s : Sy) : Prop where
  cores : s.cores.length ≤ 1000
  caches : s.caches.length ≤ 1000
  net : s.net.length ≤ 1000
  buf : ∀ c ∈ s.cores, c.buf.length ≤ 1000
/-- A lent system. -/
def LentV (w : World) (vi : List Value) (s : Sy) : Prop := ∃ q1 c1 q2 c2 q3 c3, ∃ (ys : List CoreR) (zs : List CacS), vi = .slice q1 s.cores.length c1 :: .slice q2 s.caches.length c2 :: (s.homes.flatMap homE.enc ++ [.slice q3 s.net.length c3]) ∧
  ys.map (·.1) = s.cores ∧ LentR corE w q1 c1 ys (mks mkCorR 12) ∧ (∀ y ∈ ys, LentR stoE w y.2.1 y.2.2 y.1.buf (mks mkSto 12)) ∧ zs.map (·.1) = s.caches ∧ LentR cacE w q2 c2 zs (mks mkCacS 12) ∧ LentR Msg.E w q3 c3 s.net (mks mkMsg 12) ∧ s.homes.length = 6
theorem LentV.below {w w2 : World} {vi : List Value} {s : Sy} (h : LentV w vi s) (hb : Below w.heap.size w w2) : LentV w2 vi s := by
  obtain ⟨q1, c1, q2, c2, q3, c3, ys, zs, h1, h2, h3, h4, h5, h6, h7, h8⟩ := h
  exact ⟨q1, c1, q2, c2, q3, c3, ys, zs, h1, h2, h3.below hb, fun y hy => (h4 y hy).below hb, h5, h6.below hb, h7.below hb, h8⟩
theorem LentR.some {α : Type} {E : Enc α} {w : World} {q : Option Addr} {c : Nat} {l : List α} {f : Nat → α} (h : LentR E w q c l (mks f 12)) : ¬ q = none := by
  intro e
  subst e
  have := h.1.none
  have := congrArg List.length this
  rw [List.length_append, mks_len] at this
  simp at this
theorem LentV.sys {w : World} {vi : List Value} {s : Sy} (h : LentV w vi s) : SysV w.heap.size w vi s := by
  obtain ⟨q1, c1, q2, c2, q3, c3, ys, zs, h1, h2, h3, h4, h5, h6, h7, h8⟩ := h
  refine ⟨⟨q1, c1, q2, c2, q3, c3, h1, ?_, ?_, RowB.of_slr (SlR.prefix h7.1), fun e => absurd e h7.some⟩, h8⟩
  · rw [← h2]; exact cors_of (SlR.prefix h3.1) fun y hy => SlR.prefix (h4 y hy).1
  · rw [← h5]; exact cacs_of (SlR.prefix h6.1)

theorem LentSys_c {vs : List Value} {s : Sy} {w : World} (hS : SysV w.heap.size w vs s) (hn : Small s) :
    Calls Tryz.prog 15 #[.agg vs.toArray] w fun e w' => ∃ vi, e = .returned (.agg vi.toArray) ∧ LentV w' vi s ∧ Below w.heap.size w w' := by
  refine calls_of_M (S := sg 16) (sgOk _) (args := [.agg vs.toArray]) (.s .p (.c .p (.c .p (.c .p .p)))) Tryz.func15 rfl rfl (Nat.le_of_ble_eq_true rfl) rfl ?_
  obtain ⟨W0, hW0⟩ : ∃ W0, (w.alloc (.cells vs.toArray 58)).alloc (.cells zeroSysC.toArray 58) = W0 := ⟨_, rfl⟩
  have e1 : (w.alloc (.cells vs.toArray 58)).heap.size = w.heap.size + 1 := World.size_alloc _ _
  have e2 : W0.heap.size = w.heap.size + 2 := by rw [← hW0, World.size_alloc, e1]
  have hb0 : Below w.heap.size w W0 := by rw [← hW0]; exact ((Below.refl _ _).alloc (Nat.le_refl _) _).alloc (by simp) _
  have f0 : W0.heap[w.heap.size]? = some (.cells vs.toArray 58 (0, 0)) := by rw [← hW0]; exact hold _ (hnew w _)
  have f1 : W0.heap[w.heap.size + 1]? = some (.cells zeroSysC.toArray 58 (0, 0)) := by rw [← hW0, ← e1]; exact hnew _ _
  have ptr1 : some (Value.pointer (some ⟨(w.alloc (.cells vs.toArray 58)).heap.size, 0, none⟩)) = some (Value.pointer (some ⟨w.heap.size + 1, 0, none⟩)) := by rw [e1]
  obtain ⟨⟨p1, c1, p2, c2, p3, c3, hvs, hco, hca, hne, hnil⟩, h6⟩ := hS
  have hH : (s.homes.flatMap homE.enc).length = 66 := by rw [flat_len, h6]; rfl
  obtain ⟨xs, hxm, hxr, hxe⟩ := cors_rows hco (Nat.le_refl _)
  obtain ⟨zs, hzm, hzr⟩ := cacs_rows hca (Nat.le_refl _)
  have hxl : s.cores.length = xs.length := by rw [← hxm, List.length_map]
  have hzl : s.caches.length = zs.length := by rw [← hzm, List.length_map]
  obtain ⟨H, hHe⟩ : ∃ H, H = s.homes.flatMap homE.enc := ⟨_, rfl⟩
  rw [← hHe] at hvs hH
  refine ⟨Option Addr × Nat × List CoreR, fun _ => ⟨[(1, .pointer (some ⟨w.heap.size, 0, none⟩)), (2, .pointer (some ⟨w.heap.size + 1, 0, none⟩))], []⟩, fun k X => X.heap[w.heap.size]? = some (.cells (Value.slice k.1 s.cores.length k.2.1 :: .slice p2 s.caches.length c2 :: (H ++ [.slice p3 s.net.length c3])).toArray 58 (0, 0)) ∧
    X.heap[w.heap.size + 1]? = some (.cells zeroSysC.toArray 58 (0, 0)) ∧ k.2.2.map (·.1) = s.cores ∧ OwnS corE 66 (w.heap.size + 2) X k.1 k.2.1 (k.2.2 ++ mks mkCorR 12) ∧ (∀ y ∈ k.2.2, LentB (w.heap.size + 2) X y) ∧ w.heap.size + 2 ≤ X.heap.size ∧ Below w.heap.size w X, ?_, ?_⟩
  · have hlc := LentCores_c (cap := c1) (w := W0) (hxr.below hb0) (fun x hx => ⟨((hxe x hx).slr (Nat.le_refl _)).below hb0, hn.buf _ (by rw [← hxm]; exact List.mem_map_of_mem hx)⟩) (by rw [← hxl]; exact hn.cores)
    rw [← hxl] at hlc
    have fc : Cells W0 ⟨w.heap.size, 0, none⟩ vs := cells_block f0
    rw [← hW0] at hlc fc
    refine ⟨_, cells_at fc (i := 0) (by rw [hvs]; rfl), ?_⟩
    refine Calls.mono hlc ?_
    rw [hW0]
    rintro e V1 ⟨q1, d1, ys, rfl, hym, hyo, hyl, hb1⟩
    rw [e2] at hyo hyl
    have g0 := block_below hb1 f0
    rw [hvs] at g0
    refine store_cell (ttOk.get 45 _ rfl) rfl g0 (o := 0) (by simp) (v := .slice q1 s.cores.length d1) rfl rfl ?_
    intro V2 g2 gr2 s2
    have hw1 := hb0.trans (hb1.mono hb0.size)
    have hw2 : Below w.heap.size w V2 := hw1.grown gr2 hw1.size (fun k e => by simp only [Option.some.injEq] at e; omega)
    exact ⟨(q1, d1, ys), ⟨.cons rfl (.cons ptr1 .nil), rfl⟩, g2, (gr2.block _ (hlt (block_below hb1 f1)) (fun e => by simp only [Option.some.injEq] at e; omega)).trans (block_below hb1 f1), hym.trans hxm, own_old hyo gr2 (by omega), fun y hy => own_old (hyl y hy) gr2 (by omega), by rw [s2]; have := hb1.size; omega, hw2⟩
  clear f0 f1 e2 hb0 ptr1 e1
  clear hW0 W0
  rintro ⟨q1, d1, ys⟩ X ⟨g2, f12, hym, hyo, hyl, hs2, hw2⟩
  dsimp only at g2 hym hyo hyl ⊢
  refine ⟨Option Addr × Nat, fun _ => ⟨[(1, .pointer (some ⟨w.heap.size, 0, none⟩)), (2, .pointer (some ⟨w.heap.size + 1, 0, none⟩))], []⟩, fun k X => X.heap[w.heap.size]? = some (.cells (Value.slice q1 s.cores.length d1 :: .slice k.1 s.caches.length k.2 :: (H ++ [.slice p3 s.net.length c3])).toArray 58 (0, 0)) ∧
    X.heap[w.heap.size + 1]? = some (.cells zeroSysC.toArray 58 (0, 0)) ∧ OwnS corE 66 (w.heap.size + 2) X q1 d1 (ys ++ mks mkCorR 12) ∧ (∀ y ∈ ys, LentB (w.heap.size + 2) X y) ∧ OwnS cacE 97 (w.heap.size + 2) X k.1 k.2 (zs ++ mks mkCacS 12) ∧ w.heap.size + 2 ≤ X.heap.size ∧ Below w.heap.size w X, ?_, ?_⟩
  · refine ⟨_, cells_at (cells_block g2) (i := 1) rfl, ?_⟩
    have hcc := LentCaches_c (cap := c2) (w := X) (hzr.below hw2) (by rw [← hzl]; exact hn.caches)
    rw [← hzl] at hcc
    refine Calls.mono hcc ?_
    rintro e V3 ⟨q2, d2, rfl, hzo, hb3⟩
    have g3 := block_below hb3 g2
    refine store_cell (ttOk.get 46 _ rfl) rfl g3 (o := 1) (by simp) (v := .slice q2 s.caches.length d2) rfl rfl ?_
    intro V4 g4 gr4 s4
    have hw3 := hw2.trans (hb3.mono hw2.size)
    have hw4 : Below w.heap.size w V4 := hw3.grown gr4 hw3.size (fun k e => by simp only [Option.some.injEq] at e; omega)
    exact ⟨(q2, d2), ⟨.cons rfl (.cons rfl .nil), rfl⟩, g4, (gr4.block _ (hlt (block_below hb3 f12)) (fun e => by simp only [Option.some.injEq] at e; omega)).trans (block_below hb3 f12), own_old (hyo.below hb3) gr4 (by omega), fun y hy => own_old ((hyl y hy).below hb3) gr4 (by omega), own_old (own_weak hzo hs2) gr4 (by omega), by rw [s4]; have := hb3.size; omega, hw4⟩
  clear g2 f12 hyo hyl hs2 hw2 X
  rintro ⟨q2, d2⟩ X ⟨g4, f14, hyo, hyl, hzo, hs4, hw4⟩
  dsimp only at g4 hyo hyl hzo ⊢
  refine ⟨Option Addr × Nat, fun _ => ⟨[(1, .pointer (some ⟨w.heap.size, 0, none⟩)), (2, .pointer (some ⟨w.heap.size + 1, 0, none⟩))], []⟩, fun k X => X.heap[w.heap.size]? = some (.cells (Value.slice q1 s.cores.length d1 :: .slice q2 s.caches.length d2 :: (H ++ [.slice k.1 s.net.length k.2])).toArray 58 (0, 0)) ∧
    X.heap[w.heap.size + 1]? = some (.cells zeroSysC.toArray 58 (0, 0)) ∧ OwnS corE 66 (w.heap.size + 2) X q1 d1 (ys ++ mks mkCorR 12) ∧ (∀ y ∈ ys, LentB (w.heap.size + 2) X y) ∧ OwnS cacE 97 (w.heap.size + 2) X q2 d2 (zs ++ mks mkCacS 12) ∧ OwnS Msg.E 107 (w.heap.size + 2) X k.1 k.2 (s.net ++ mks mkMsg 12) ∧ Below w.heap.size w X, ?_, ?_⟩
  · refine ⟨_, cells_at (cells_block g4) (i := 68) (sys_net hH), ?_⟩
    refine Calls.mono (LentMsgs_c (cap := c3) (w := X) ((hne.slr (Nat.le_refl _)).below hw4) hn.net) ?_
    rintro e V5 ⟨q3, d3, rfl, hno, hb5⟩
    have g5 := block_below hb5 g4
    refine store_cell (ttOk.get 56 _ rfl) rfl g5 (o := 68) (by simp [hH]) (v := .slice q3 s.net.length d3) rfl rfl ?_
    intro V6 g6 gr6 s6
    have hvi : (Value.slice q1 s.cores.length d1 :: .slice q2 s.caches.length d2 :: (H ++ [.slice p3 s.net.length c3])).toArray.toList.take 68 ++ [Value.slice q3 s.net.length d3] ++ (Value.slice q1 s.cores.length d1 :: .slice q2 s.caches.length d2 :: (H ++ [.slice p3 s.net.length c3])).toArray.toList.drop (68 + 1) = Value.slice q1 s.cores.length d1 :: .slice q2 s.caches.length d2 :: (H ++ [.slice q3 s.net.length d3]) := sys_set hH
    rw [hvi] at g6
    have hw5 := hw4.trans (hb5.mono hw4.size)
    have hw6 : Below w.heap.size w V6 := hw5.grown gr6 hw5.size (fun k e => by simp only [Option.some.injEq] at e; omega)
    exact ⟨(q3, d3), ⟨.cons rfl (.cons rfl .nil), rfl⟩, g6, (gr6.block _ (hlt (block_below hb5 f14)) (fun e => by simp only [Option.some.injEq] at e; omega)).trans (block_below hb5 f14), own_old (hyo.below hb5) gr6 (by omega), fun y hy => own_old ((hyl y hy).below hb5) gr6 (by omega), own_old (hzo.below hb5) gr6 (by omega), own_old (own_weak hno hs4) gr6 (by omega), hw6⟩
  clear g4 f14 hyo hyl hzo hs4 hw4 X
  rintro ⟨q3, d3⟩ X ⟨g6, f16, hyo, hyl, hzo, hno, hw6⟩
  dsimp only at g6 hno ⊢
  obtain ⟨vi, hvie⟩ : ∃ vi, vi = Value.slice q1 s.cores.length d1 :: .slice q2 s.caches.length d2 :: (H ++ [.slice q3 s.net.length d3]) := ⟨_, rfl⟩
  rw [← hvie] at g6
  have hvl : vi.length = 69 := by rw [hvie]; simp [hH]
  have hone : vi.all Value.oneCell' = true := by
    rw [hvie, List.all_eq_true]
    intro x hx
    simp only [List.mem_cons, List.mem_append, List.not_mem_nil, or_false] at hx
    rcases hx with rfl | rfl | hx | rfl
    · rfl
    · rfl
    · rw [hHe] at hx; exact flat_one _ x hx
    · rfl
  refine ⟨vi, hvl, cells_block g6, hlt g6, ?_⟩
  refine store_box (v := .agg vi.toArray) (ttOk.get 58 _ rfl) f16 (by show vi.length = 69; exact hvl) (by rfl) hone ?_
  refine ⟨vi, hvl, cells_block (setRow_new f16), ?_⟩
  have grz := grown_setRow X (w.heap.size + 1) (Value.agg vi.toArray).cells
  rw [hHe] at hvie
  exact ⟨vi, rfl, ⟨q1, d1, q2, d2, q3, d3, ys, zs, hvie, hym, LentR.of_own (own_old hyo grz (by omega)), fun y hy => LentR.of_own (own_old (hyl y hy) grz (by omega)), hzm, LentR.of_own (own_old hzo grz (by omega)), LentR.of_own (own_old hno grz (by omega)), h6⟩, below_setRow hw6 (by omega) _⟩
end Go.Proofs.YtedeohcdcaimhaaGreatDoor
namespace Go.Proofs.YtedeohcdcaimhaaGreatDoor
open Go.Vc Go.RowKit Go.Sei
set_option linter.unusedVariables false

theorem KeptSys_c {vi vs : List Value} {s : Sy} {w : World} (hI : LentV w vi s) (hS : SysV w.heap.size w vs s) (hn : Small s) :
    Calls Tryz.prog 20 #[.agg vi.toArray, .agg vs.toArray] w fun e w' => e = .returned (.bool true) ∧ Below w.heap.size w w' := by
  refine calls_of_E (S := sg 29) (sgOk _) (args := [.agg vi.toArray, .agg vs.toArray]) Tryz.func20 rfl rfl (Nat.le_of_ble_eq_true rfl) rfl ?_
  obtain ⟨W0, hW0⟩ : ∃ W0, (w.alloc (.cells vi.toArray 58)).alloc (.cells vs.toArray 58) = W0 := ⟨_, rfl⟩
  have hb0 : Below w.heap.size w W0 := by rw [← hW0]; exact ((Below.refl _ _).alloc (Nat.le_refl _) _).alloc (by simp) _
  have f0 : W0.heap[w.heap.size]? = some (.cells vi.toArray 58 (0, 0)) := by rw [← hW0]; exact hold _ (hnew w _)
  have f1 : W0.heap[(w.alloc (.cells vi.toArray 58)).heap.size]? = some (.cells vs.toArray 58 (0, 0)) := by rw [← hW0]; exact hnew _ _
  have hvi := hI.sys.len
  have hvl := hS.len
  have hI0 := hI.below hb0
  have hS0 := (hS.below hb0).mono hb0.size
  have hsame := SameSys_c hI0.sys hS0 (by have := hn.cores; omega) (by have := hn.caches; omega) (by have := hn.net; omega) (fun c hc => by have := hn.buf c hc; omega)
  rw [decide_eq_true rfl] at hsame
  subst hW0
  refine ⟨vi, hvi, cells_block f0, hlt f0, ?_⟩
  refine ⟨vs, hvl, cells_block f1, hlt f1, ?_⟩
  refine Calls.mono hsame ?_
  rintro e X ⟨rfl, hbX⟩
  refine And.intro (fun _ => ?_) (fun h => by cases h)
  have hX := hb0.trans (hbX.mono hb0.size)
  have g0 := block_below hbX f0
  have g1 := block_below hbX f1
  have hIX := hI.below hX
  obtain ⟨q1, d1, q2, d2, q3, d3, ys, zs, hvie, hym, hyr, hye, hzm, hzr, hnr, h6⟩ := hIX
  obtain ⟨⟨p1, c1, p2, c2, p3, c3, hvs, hco, hca, hne, hnil⟩, _⟩ := hS.below hX
  have hH : (s.homes.flatMap homE.enc).length = 66 := by rw [flat_len, h6]; rfl
  obtain ⟨xs, hxm, hxr, hxe⟩ := cors_rows hco hX.size
  obtain ⟨us, hum, hur⟩ := cacs_rows hca hX.size
  have hxl : s.cores.length = xs.length := by rw [← hxm, List.length_map]
  have hul : s.caches.length = us.length := by rw [← hum, List.length_map]
  have hzu : zs = us := by
    have hm2 : zs.map (·.1) = us.map (·.1) := hzm.trans hum.symm
    exact List.map_inj_right (fun a b h => Subtype.ext h) |>.1 hm2
  subst hzu
  refine ⟨_, cells_at (cells_block g0) (i := 0) (by rw [hvie]; rfl), ?_⟩
  refine ⟨_, cells_at (cells_block g1) (i := 0) (by rw [hvs]; rfl), ?_⟩
  have k1 := KeptCores_c (cap := c1) (hym.trans hxm.symm) hyr hye hxr (fun x hx => ⟨(hxe x hx).slr hX.size, hn.buf _ (by rw [← hxm]; exact List.mem_map_of_mem hx)⟩) (by rw [← hxl]; exact hn.cores)
  rw [← hxl] at k1
  refine Calls.mono k1 ?_
  rintro e Y ⟨rfl, hbY⟩
  refine And.intro (fun _ => ?_) (fun h => by cases h)
  have g0Y := block_below hbY g0
  have g1Y := block_below hbY g1
  refine ⟨_, cells_at (cells_block g0Y) (i := 1) (by rw [hvie]; rfl), ?_⟩
  refine ⟨_, cells_at (cells_block g1Y) (i := 1) (by rw [hvs]; rfl), ?_⟩
  have k2 := KeptCaches_c (cap := c2) (hzr.below hbY) (hur.below hbY) (by rw [← hul]; exact hn.caches)
  rw [← hul] at k2
  refine Calls.mono k2 ?_
  rintro e Z ⟨rfl, hbZ⟩
  refine And.intro (fun _ => ?_) (fun h => by cases h)
  have hYZ := hbY.trans (hbZ.mono hbY.size)
  refine ⟨_, cells_at (cells_block (block_below hbZ g0Y)) (i := 68) (by rw [hvie]; exact sys_net hH), ?_⟩
  refine ⟨_, cells_at (cells_block (block_below hbZ g1Y)) (i := 68) (by rw [hvs]; exact sys_net hH), ?_⟩
  refine Calls.mono (KeptMsgs_c (cap := c3) (hnr.below hYZ) ((hne.slr hX.size).below hYZ) hn.net) ?_
  rintro e Q ⟨rfl, hbQ⟩
  exact ⟨rfl, hX.trans ((hYZ.trans (hbQ.mono hYZ.size)).mono hX.size)⟩
end Go.Proofs.YtedeohcdcaimhaaGreatDoor
namespace Go.Proofs.YtedeohcdcaimhaaGreatDoor
open Go.Vc Go.RowKit Go.Sei
set_option linter.unusedVariables false

theorem flag_c (b : Bool) (w : World) : Calls Tryz.prog 81 #[.bool b] w fun e w' => e = .returned (u8 (bitB b 1)) ∧ w = w' := by
  refine calls_of_E (S := sg 4) (sgOk _) (args := [.bool b]) Tryz.func81 rfl rfl (Nat.le_of_ble_eq_true rfl) rfl ?_
  refine And.intro (fun h => ?_) (fun h => ?_)
  · have h : b = true := h
    subst h; exact ⟨rfl, rfl⟩
  · have h : b = false := h
    subst h; exact ⟨rfl, rfl⟩
/-- The row at p does not lie in block g. -/
def Ap (p : Option Addr) (g : Nat) : Prop := ∀ a, p = some a → a.block ≠ g
theorem own_lit {B : Nat} {X : World} (hB : B ≤ X.heap.size) (l : List UInt8) (hl : l.length ≤ 1000) : OwnS byteE 5 B (X.alloc (.cells (l.map u8).toArray 5)) (some ⟨X.heap.size, 0, none⟩) l.length l := by
  have h := World.ownsRow_lit (base := B) (e := 5) (size := 1) X (l.map u8).toArray l.length hB (by unfold maxLen; omega) (by simp)
  unfold OwnS
  rw [bytes_flat]
  exact h
theorem own_apNew {B cap : Nat} {X : World} {p : Option Addr} {l : List UInt8} (h : OwnS byteE 5 B X p cap l) : Ap p X.heap.size := fun a ha => by
  rcases h.inv with ⟨rfl, _⟩ | ⟨g, cur, rfl, _, hc, _⟩
  · cases ha
  · cases ha
    have := hlt hc
    show g ≠ X.heap.size
    omega
theorem own_apOld {B cap g : Nat} {X : World} {p : Option Addr} {l : List UInt8} (h : OwnS byteE 5 B X p cap l) (hg : g < B) : Ap p g := fun a ha => by
  rcases h.inv with ⟨rfl, _⟩ | ⟨g', cur, rfl, hb, hc, _⟩
  · cases ha
  · cases ha
    show g' ≠ g
    omega
theorem app_b {B cap c : Nat} {X : World} {p : Option Addr} {a : Addr} {l news : List UInt8} (ho : OwnS byteE 5 B X p cap l) (hB : B ≤ X.heap.size) (hn : Cells X a (news.map u8)) (hl : l.length + news.length ≤ 1000000) {K : Value → World → Prop}
    (k : ∀ p' cap' Y, OwnS byteE 5 B Y p' cap' (l ++ news) → Below B X Y → (∀ g o, X.heap[g]? = some o → Ap p g → Y.heap[g]? = some o ∧ Ap p' g) → K (.slice p' (l ++ news).length cap') Y) :
    SatR ((Builtin.append_ #[23, 23] 23 #[.slice p l.length cap, .slice (some a) news.length c]).run Tryz.prog X) K := by
  refine app_own (E := byteE) (news := news) (B := B) Tryz.underlying23 (ttOk.get 5 _ rfl) rfl rfl rfl ho rfl (by rw [bytes_flat]; exact hn) hB (by omega) (by dsimp only; omega) ?_
  intro p' cap' Y ho' gr hb hat
  refine k p' cap' Y ho' hb fun g o h hap => ⟨(gr.block g (hlt h) fun e => ?_).trans h, fun a ha => ?_⟩
  · rcases ho.inv with ⟨rfl, _⟩ | ⟨g', cur, rfl, _, hc, _⟩
    · simp [Value.ownBlock] at e
    · simp [Value.ownBlock] at e
      exact hap _ rfl e.symm
  · rcases hat a ha with h1 | h1
    · exact hap a h1
    · rw [h1]; have := hlt h; omega
/-- append of a row of one's own from below, or from elsewhere. -/
theorem app_s {B cap c : Nat} {X : World} {p q : Option Addr} {l news : List UInt8} (ho : OwnS byteE 5 B X p cap l) (hB : B ≤ X.heap.size) (hn : SlR byteE X q news) (hl : l.length + news.length ≤ 1000000) {K : Value → World → Prop}
    (k : ∀ p' cap' Y, OwnS byteE 5 B Y p' cap' (l ++ news) → Below B X Y → K (.slice p' (l ++ news).length cap') Y) :
    SatR ((Builtin.append_ #[23, 23] 23 #[.slice p l.length cap, .slice q news.length c]).run Tryz.prog X) K := by
  refine app_any0 (E := byteE) (news := news) (B := B) Tryz.underlying23 (ttOk.get 5 _ rfl) rfl rfl rfl ho rfl hn hB (by omega) (by dsimp only; omega) ?_
  intro p' cap' Y ho' _ hb
  exact k p' cap' Y ho' hb

theorem below_da (W : World) (o : Obj) : Below W.heap.size W (W.drew.alloc o) := (Below.refl _ W).drew.alloc (Nat.le_refl _) o

theorem coreR_c {x : CoreR} {w : World} (hr : SlR stoE w x.2.1 x.1.buf) (hn : x.1.buf.length ≤ 255) :
    Calls Tryz.prog 45 #[.agg (corE.enc x).toArray] w fun e w' => ∃ p cap, e = .returned (.slice p (encCor x.1).length cap) ∧ OwnS byteE 5 w.heap.size w' p cap (encCor x.1) ∧ Below w.heap.size w w' := by
  refine calls_of_M (S := sg 51) (sgOk _) (args := [.agg (corE.enc x).toArray]) (.s .p (.c .p (.c .p (.c .p .p)))) Tryz.func45 rfl rfl (Nat.le_of_ble_eq_true rfl) rfl ?_
  obtain ⟨W0, hW0⟩ : ∃ W0, W0 = w.alloc (.cells (corE.enc x).toArray 66) := ⟨_, rfl⟩
  have e1 : W0.heap.size = w.heap.size + 1 := by rw [hW0]; exact World.size_alloc _ _
  have hb0 : Below w.heap.size w W0 := by rw [hW0]; exact (Below.refl _ _).alloc (Nat.le_refl _) _
  have f0 : W0.heap[w.heap.size]? = some (.cells (corE.enc x).toArray 66 (0, 0)) := by rw [hW0]; exact hnew w _
  obtain ⟨c, q, d⟩ := x
  dsimp only at hr hn ⊢
  refine ⟨Option Addr × Nat, fun s => ⟨[(1, .pointer (some ⟨w.heap.size, 0, none⟩)), (3, .slice s.1 9 s.2)], []⟩, fun s X => OwnS byteE 5 W0.heap.size X s.1 s.2 [c.pc, c.r0, c.r1, c.r2, c.r3, c.r4, c.r5, c.r6, c.r7] ∧ Below W0.heap.size W0 X, ?_, ?_⟩
  · refine DrawE.ord [5] [0, 1, 3, 4, 2, 5, 6] (by kernel_rfl) ?_
    subst hW0
    refine ⟨_, cells_at (cells_block (hdr f0)) (i := 0) rfl, ?_⟩
    refine ⟨⟨by decide, by decide, rfl⟩, [u8 c.pc], rfl, ?_⟩
    refine ⟨(Below.refl _ _).alloc (Nat.le_refl _) _, ?_⟩
    have hbd : Below (w.alloc (.cells (corE.enc (c, q, d)).toArray 66)).heap.size (w.alloc (.cells (corE.enc (c, q, d)).toArray 66)) ((w.alloc (.cells (corE.enc (c, q, d)).toArray 66)).drew.alloc (.cells ([c.pc].map u8).toArray 5)) := below_da _ _
    refine app_b (l := [c.pc]) (news := [c.r0, c.r1, c.r2, c.r3, c.r4, c.r5, c.r6, c.r7]) (own_lit (X := (w.alloc (.cells (corE.enc (c, q, d)).toArray 66)).drew) (Nat.le_refl _) [c.pc] (by simp)) (by simp) ?_ (by simp) ?_
    · have := cells_sub (n := 1) (m := 8) (cells_block (block_below hbd f0))
      exact this
    · intro p' cap' Y ho hb _
      exact ⟨(p', cap'), ⟨.cons rfl (.cons rfl .nil), rfl⟩, ho, hbd.trans hb⟩
  rintro ⟨p1, cap1⟩ V ⟨ho1, hV⟩
  dsimp only at ho1 ⊢
  refine ⟨Option Addr × Nat, fun s => ⟨[(1, .pointer (some ⟨w.heap.size, 0, none⟩)), (3, .slice s.1 10 s.2)], []⟩, fun s X => OwnS byteE 5 W0.heap.size X s.1 s.2 (hdCor c) ∧ Below W0.heap.size W0 X, ?_, ?_⟩
  · refine ⟨_, cells_at (cells_block (block_below hV f0)) (i := 9) rfl, ?_⟩
    refine ⟨((UInt8.ofNat c.buf.length).toNat : Int), (wrap_u8 (by dsimp only; omega)).trans (by rw [UInt8.toNat_ofNat']; dsimp only; omega), ?_⟩
    refine ⟨⟨by decide, by decide, rfl⟩, [u8 (UInt8.ofNat c.buf.length)], rfl, ?_⟩
    refine app_b (l := [c.pc, c.r0, c.r1, c.r2, c.r3, c.r4, c.r5, c.r6, c.r7]) (news := [UInt8.ofNat c.buf.length]) (ho1.alloc _) (by have := hV.size; simp; omega) cells_new (by simp) ?_
    intro p' cap' Y ho hb _
    exact ⟨(p', cap'), ⟨.cons rfl (.cons rfl .nil), rfl⟩, ho, (hV.alloc hV.size _).trans hb⟩
  clear ho1 hV V
  rintro ⟨p1, cap1⟩ V ⟨ho1, hV⟩
  dsimp only at ho1 ⊢
  have hrX : ∀ X, Below W0.heap.size W0 X → SlR stoE X q c.buf := fun X hX => hr.below (hb0.trans (hX.mono hb0.size))
  have hel : ∀ k, ((c.buf.take k).flatMap encSto).length = 2 * (c.buf.take k).length := fun k => by
    generalize c.buf.take k = m
    induction m with
    | nil => rfl
    | cons a r ih => rw [List.flatMap_cons, List.length_append, ih]; simp [encSto]; omega
  refine ⟨Option Addr × Nat, fun s => ⟨[(1, .pointer (some ⟨w.heap.size, 0, none⟩)), (3, .slice s.1 (hdCor c ++ c.buf.flatMap encSto).length s.2)], []⟩, fun s X => OwnS byteE 5 W0.heap.size X s.1 s.2 (hdCor c ++ c.buf.flatMap encSto) ∧ Below W0.heap.size W0 X, ?_, ?_⟩
  · refine ⟨Option Addr × Nat × Nat, fun s => ⟨[(1, .pointer (some ⟨w.heap.size, 0, none⟩)), (3, .slice s.1 (hdCor c ++ (c.buf.take s.2.2).flatMap encSto).length s.2.1), (4, .int .i64 (s.2.2 : Nat))], []⟩, fun s X => s.2.2 ≤ c.buf.length ∧ OwnS byteE 5 W0.heap.size X s.1 s.2.1 (hdCor c ++ (c.buf.take s.2.2).flatMap encSto) ∧ Below W0.heap.size W0 X, fun s => c.buf.length - s.2.2, (p1, cap1, 0),
      ⟨.cons rfl (.cons rfl (.cons rfl .nil)), rfl⟩, ⟨Nat.zero_le _, by simpa using ho1, hV⟩, ?_⟩
    rintro ⟨p2, cap2, k⟩ X ⟨hk, ho, hX⟩
    dsimp only at hk ho hX ⊢
    have fX := block_below hX f0
    refine ⟨_, cells_at (cells_block fX) (i := 9) rfl, ?_⟩
    refine And.intro (fun h => ?_) (fun h => ?_)
    · have h : (k : Int) < c.buf.length := of_decide_eq_true h
      have hkl : k < c.buf.length := by omega
      refine DrawE.ord [14] [0, 1, 2, 3, 4, 5, 6, 7, 8, 9, 10, 11, 12, 13, 14, 15] (by kernel_rfl) ?_
      obtain ⟨b, o, rfl, hb, hc⟩ := (hrX X.drew hX.drew).at hkl
      have hc := hc k hkl
      have fd := hdr fX
      refine ⟨_, cells_at (cells_block fd) (i := 9) rfl, ?_⟩
      refine ⟨k, rfl, hkl, ?_⟩
      refine ⟨_, cells_at hc (i := 0) rfl, ?_⟩
      refine ⟨_, cells_at (cells_block fd) (i := 9) rfl, ?_⟩
      refine ⟨k, rfl, hkl, ?_⟩
      refine ⟨_, cells_at hc (i := 1) rfl, ?_⟩
      refine ⟨⟨by decide, by decide, rfl⟩, [u8 c.buf[k].l, u8 c.buf[k].v], rfl, ?_⟩
      refine ⟨(Below.refl _ _).alloc (Nat.le_refl _) _, ?_⟩
      have hlen : (hdCor c ++ (c.buf.take k).flatMap encSto).length ≤ 1000 := by
        rw [List.length_append, hel, List.length_take]
        show 10 + _ ≤ _
        omega
      refine app_b (l := hdCor c ++ (c.buf.take k).flatMap encSto) (news := [c.buf[k].l, c.buf[k].v]) (ho.drew.alloc _) (by have := hX.size; show _ ≤ (X.drew.alloc _).heap.size; simp; have : X.drew.heap.size = X.heap.size := rfl; omega) cells_new (by simp only [List.length_cons, List.length_nil]; omega) ?_
      intro p' cap' Y ho' hb' _
      have e : (hdCor c ++ (c.buf.take k).flatMap encSto) ++ [c.buf[k].l, c.buf[k].v] = hdCor c ++ (c.buf.take (k + 1)).flatMap encSto := by
        rw [List.take_succ_eq_append_getElem hkl, List.flatMap_append, List.append_assoc]; simp [encSto]
      rw [e] at ho'
      refine ⟨(k + 1 : Nat), (wrap_i64 (by omega)).trans (by omega), ?_⟩
      exact ⟨(p', cap', k + 1), ⟨.cons rfl (.cons (by dsimp only; rw [e]; rfl) (.cons rfl .nil)), rfl⟩, ⟨by show k + 1 ≤ _; omega, ho', ((hX.drew).alloc hX.drew.size _).trans hb'⟩, by show c.buf.length - (k + 1) < c.buf.length - k; omega⟩
    · have h : ¬ (k : Int) < c.buf.length := of_decide_eq_false h
      obtain rfl : k = c.buf.length := by omega
      rw [List.take_length] at ho
      exact ⟨(p2, cap2), ⟨.cons rfl (.cons (by dsimp only; rw [List.take_length]; rfl) .nil), rfl⟩, ho, hX⟩
  clear ho1 hV V
  rintro ⟨p1, cap1⟩ V ⟨ho1, hV⟩
  dsimp only at ho1 ⊢
  have fd := hdr (block_below hV f0)
  have hlen : (hdCor c ++ c.buf.flatMap encSto).length ≤ 1000 := by
    have := hel c.buf.length
    rw [List.take_length] at this
    rw [List.length_append, this]
    show 10 + _ ≤ _
    omega
  refine DrawE.ord [10] [0, 1, 2, 4, 5, 3, 6, 7, 8, 9, 10, 11] (by kernel_rfl) ?_
  refine ⟨_, cells_at (cells_block fd) (i := 10) rfl, ?_⟩
  refine ⟨_, cells_at (cells_block fd) (i := 11) rfl, ?_⟩
  refine Calls.mono (flag_c c.waits V.drew) ?_
  rintro e _ ⟨rfl, rfl⟩
  refine ⟨Below.refl _ _, ?_⟩
  refine Calls.mono (flag_c c.drain V.drew) ?_
  rintro e _ ⟨rfl, rfl⟩
  refine ⟨Below.refl _ _, ?_⟩
  refine ⟨((bitB c.drain 2).toNat : Int), by cases c.drain <;> rfl, ?_⟩
  refine ⟨((bitB c.waits 1 + bitB c.drain 2).toNat : Int), by cases c.waits <;> cases c.drain <;> rfl, ?_⟩
  refine ⟨⟨by decide, by decide, rfl⟩, [u8 (bitB c.waits 1 + bitB c.drain 2)], rfl, ?_⟩
  refine ⟨(Below.refl _ _).alloc (Nat.le_refl _) _, ?_⟩
  refine app_b (l := hdCor c ++ c.buf.flatMap encSto) (news := [bitB c.waits 1 + bitB c.drain 2]) (ho1.drew.alloc _) (by have := hV.size; show _ ≤ (V.drew.alloc _).heap.size; simp; have : V.drew.heap.size = V.heap.size := rfl; omega) cells_new (by simp only [List.length_cons, List.length_nil]; omega) ?_
  intro p' cap' Y ho' hb' _
  have e : (hdCor c ++ c.buf.flatMap encSto) ++ [bitB c.waits 1 + bitB c.drain 2] = encCor c := by rw [List.append_assoc]; rfl
  rw [e] at ho' ⊢
  exact ⟨p', cap', rfl, own_weak ho' hb0.size, hb0.trans (((hV.drew.alloc hV.drew.size _).trans hb').mono hb0.size)⟩
end Go.Proofs.YtedeohcdcaimhaaGreatDoor
namespace Go.Proofs.YtedeohcdcaimhaaGreatDoor
open Go.Vc Go.RowKit Go.Sei
set_option linter.unusedVariables false

theorem way_at {w : World} {b o : Nat} {c : Cac} (hc : Cells w ⟨b, o, none⟩ (cacCells c)) {i j : Nat} (h : 4 * i + j < c.ways.length) : Cells w ⟨b, o + 0 + i * 32 + j * 8, none⟩ (linE.enc c.ways[4 * i + j]) := by
  have h1 := (cells_app.1 hc).1
  rw [← flat_get (E := linE) c.ways (4 * i + j) h]
  have := cells_sub (n := (4 * i + j) * 8) (m := 8) h1
  have e : o + (4 * i + j) * 8 = o + 0 + i * 32 + j * 8 := by omega
  rw [e] at this
  exact this
theorem note_at {w : World} {b o : Nat} {c : Cac} (hc : Cells w ⟨b, o, none⟩ (cacCells c)) (h16 : c.ways.length = 16) {i : Nat} (h : i < c.notes.length) : Cells w ⟨b, o + 128 + i * 7, none⟩ (nteE.enc c.notes[i]) := by
  have h1 := (cells_app.1 hc).2
  rw [flat_len (E := linE), h16] at h1
  have h2 := (cells_app.1 h1).1
  rw [← flat_get (E := nteE) c.notes i h]
  exact cells_sub h2
theorem cop_at {w : World} {b o : Nat} {c : Cac} (hc : Cells w ⟨b, o, none⟩ (cacCells c)) (h16 : c.ways.length = 16) (h4 : c.notes.length = 4) : Cells w ⟨b, o + 156, none⟩ (opCells c) := by
  have h1 := (cells_app.1 hc).2
  rw [flat_len (E := linE), h16] at h1
  have h2 := (cells_app.1 h1).2
  rw [flat_len (E := nteE), h4] at h2
  exact h2

theorem cacheR_c {c : CacS} {w : World} (ho : okCac c.1) :
    Calls Tryz.prog 46 #[.agg (cacE.enc c).toArray] w fun e w' => ∃ p cap, e = .returned (.slice p (encCac c.1).length cap) ∧ OwnS byteE 5 w.heap.size w' p cap (encCac c.1) ∧ Below w.heap.size w w' := by
  refine calls_of_M (S := sg 77) (sgOk _) (args := [.agg (cacE.enc c).toArray]) (.s .p (.s .p (.c .p (.c .p .p)))) Tryz.func46 rfl rfl (Nat.le_of_ble_eq_true rfl) rfl ?_
  obtain ⟨W0, hW0⟩ : ∃ W0, W0 = w.alloc (.cells (cacE.enc c).toArray 97) := ⟨_, rfl⟩
  have e1 : W0.heap.size = w.heap.size + 1 := by rw [hW0]; exact World.size_alloc _ _
  have hb0 : Below w.heap.size w W0 := by rw [hW0]; exact (Below.refl _ _).alloc (Nat.le_refl _) _
  have f0 : W0.heap[w.heap.size]? = some (.cells (cacE.enc c).toArray 97 (0, 0)) := by rw [hW0]; exact hnew w _
  obtain ⟨c, h16, h4⟩ := c
  dsimp only at ho ⊢
  obtain ⟨_, _, hnt⟩ := ho
  have hcl : ∀ X, Below W0.heap.size W0 X → Cells X ⟨w.heap.size, 0, none⟩ (cacCells c) := fun X hX => cells_block (block_below hX f0)
  have hlen : ∀ k, ((c.ways.take k).flatMap encLin).length ≤ 8 * c.ways.length := fun k => by rw [lins_len, List.length_take]; omega
  have hlen2 : ∀ k, ((c.notes.take k).flatMap encNte).length ≤ 7 * c.notes.length := fun k => by rw [ntes_len, List.length_take]; omega
  refine ⟨Option Addr × Nat, fun s => ⟨[(1, .pointer (some ⟨w.heap.size, 0, none⟩)), (3, .slice s.1 (c.ways.flatMap encLin).length s.2)], []⟩, fun s X => OwnS byteE 5 W0.heap.size X s.1 s.2 (c.ways.flatMap encLin) ∧ Below W0.heap.size W0 X, ?_, ?_⟩
  · refine ⟨Option Addr × Nat × Nat, fun s => ⟨[(1, .pointer (some ⟨w.heap.size, 0, none⟩)), (3, .slice s.1 ((c.ways.take (4 * s.2.2)).flatMap encLin).length s.2.1), (4, .int .i64 (s.2.2 : Nat))], []⟩, fun s X => s.2.2 ≤ 4 ∧ OwnS byteE 5 W0.heap.size X s.1 s.2.1 ((c.ways.take (4 * s.2.2)).flatMap encLin) ∧ Below W0.heap.size W0 X, fun s => 4 - s.2.2, (none, 0, 0),
      ⟨.cons rfl (.cons rfl (.cons rfl .nil)), rfl⟩, ⟨Nat.zero_le _, .nil, by subst hW0; exact Below.refl _ _⟩, ?_⟩
    rintro ⟨p1, cap1, i⟩ X ⟨hi, ho, hX⟩
    dsimp only at hi ho hX ⊢
    refine And.intro (fun h => ?_) (fun h => ?_)
    · have h : (i : Int) < 4 := of_decide_eq_true h
      have hi4 : i < 4 := by omega
      refine ⟨Option Addr × Nat × Nat, fun s => ⟨[(1, .pointer (some ⟨w.heap.size, 0, none⟩)), (3, .slice s.1 ((c.ways.take (4 * i + s.2.2)).flatMap encLin).length s.2.1), (4, .int .i64 (i : Nat)), (5, .int .i64 (s.2.2 : Nat))], []⟩, fun s X => s.2.2 ≤ 4 ∧ OwnS byteE 5 W0.heap.size X s.1 s.2.1 ((c.ways.take (4 * i + s.2.2)).flatMap encLin) ∧ Below W0.heap.size W0 X, fun s => 4 - s.2.2, (p1, cap1, 0),
        ⟨.cons rfl (.cons rfl (.cons rfl (.cons rfl .nil))), rfl⟩, ⟨Nat.zero_le _, ho, hX⟩, ?_⟩
      clear ho hX X p1 cap1
      rintro ⟨p2, cap2, j⟩ Y ⟨hj, ho, hY⟩
      dsimp only at hj ho hY ⊢
      refine And.intro (fun h => ?_) (fun h => ?_)
      · have h : (j : Int) < 4 := of_decide_eq_true h
        have hj4 : j < 4 := by omega
        have hk : 4 * i + j < c.ways.length := by omega
        refine ⟨i, rfl, hi4, ?_⟩
        refine ⟨j, rfl, hj4, ?_⟩
        refine ⟨linE.enc c.ways[4 * i + j], rfl, way_at (hcl Y hY) hk, hlt (block_below hY f0), ?_⟩
        have hln := hlen (4 * i + j)
        have etk : (c.ways.take (4 * i + (j + 1))).flatMap encLin = (c.ways.take (4 * i + j)).flatMap encLin ++ encLin c.ways[4 * i + j] := (take_flat encLin hk).1
        generalize c.ways[4 * i + j] = x at etk
        refine store_new (X := Y) (v := .agg (linE.enc x).toArray) (ttOk.get 88 _ rfl) (by rfl) (by rfl) (by rfl) fun Z hbZ fZ sZ => ?_
        have fZ : Z.heap[Y.heap.size]? = some (.cells (linE.enc x).toArray 88 (0, 0)) := fZ
        have hZ := hY.trans (hbZ.mono hY.size)
        have hoZ := ho.below hbZ
        refine DrawE.ord [12, 15] [0, 1, 2, 3, 4, 5, 6, 7, 8, 9, 13, 14, 10, 11, 12, 15, 16] (by kernel_rfl) ?_
        refine ⟨_, cells_at (cells_block (hdr fZ)) (i := 0) rfl, ?_⟩
        refine ⟨_, cells_at (cells_block (hdr fZ)) (i := 1) rfl, ?_⟩
        refine ⟨_, cells_at (cells_block (hdr fZ)) (i := 2) rfl, ?_⟩
        refine ⟨(x.need.toNat : Int), wrap_s8 _, ?_⟩
        refine ⟨_, cells_at (cells_block (hdr fZ)) (i := 3) rfl, ?_⟩
        refine Calls.mono (flag_c x.has _) ?_
        rintro e _ ⟨rfl, rfl⟩
        refine ⟨Below.refl _ _, ?_⟩
        refine ⟨⟨by decide, by decide, rfl⟩, [u8 x.line, u8 x.state, u8 x.need, u8 (bitB x.has 1)], rfl, ?_⟩
        refine ⟨(Below.refl _ _).alloc (Nat.le_refl _) _, ?_⟩
        have hsz : W0.heap.size ≤ (Z.drew.alloc (.cells [u8 x.line, u8 x.state, u8 x.need, u8 (bitB x.has 1)].toArray 5)).heap.size := by
          have := hZ.size
          simp; have : Z.drew.heap.size = Z.heap.size := rfl; omega
        refine app_b (l := (c.ways.take (4 * i + j)).flatMap encLin) (news := [x.line, x.state, x.need, bitB x.has 1]) (hoZ.drew.alloc _) hsz cells_new (by simp only [List.length_cons, List.length_nil]; omega) ?_
        intro p3 cap3 U ho3 hb3 hat
        have hU : Below W0.heap.size W0 U := (hZ.drew.alloc hZ.drew.size _).trans hb3
        have fU := (hat Y.heap.size _ (hold _ (hdr fZ)) (own_apNew ho)).1
        refine app_b (l := (c.ways.take (4 * i + j)).flatMap encLin ++ [x.line, x.state, x.need, bitB x.has 1]) (news := [x.d0, x.d1, x.d2, x.d3]) ho3 hU.size (cells_sub (n := 4) (m := 4) (cells_block fU)) (by simp only [List.length_append, List.length_cons, List.length_nil]; omega) ?_
        intro p4 cap4 V ho4 hb4 _
        have e : ((c.ways.take (4 * i + j)).flatMap encLin ++ [x.line, x.state, x.need, bitB x.has 1]) ++ [x.d0, x.d1, x.d2, x.d3] = (c.ways.take (4 * i + (j + 1))).flatMap encLin := by rw [etk, List.append_assoc]; rfl
        rw [e] at ho4
        refine ⟨(j + 1 : Nat), (wrap_i64 (by omega)).trans (by omega), ?_⟩
        exact ⟨(p4, cap4, j + 1), ⟨.cons rfl (.cons (by dsimp only; rw [e]; rfl) (.cons rfl (.cons rfl .nil))), rfl⟩, ⟨by show j + 1 ≤ _; omega, ho4, hU.trans hb4⟩, by show 4 - (j + 1) < 4 - j; omega⟩
      · have h : ¬ (j : Int) < 4 := of_decide_eq_false h
        obtain rfl : j = 4 := by omega
        refine ⟨(i + 1 : Nat), (wrap_i64 (by omega)).trans (by omega), ?_⟩
        have e : 4 * i + 4 = 4 * (i + 1) := by omega
        rw [e] at ho
        exact ⟨(p2, cap2, i + 1), ⟨.cons rfl (.cons (by dsimp only; rw [e]; rfl) (.cons rfl .nil)), rfl⟩, ⟨by show i + 1 ≤ _; omega, ho, hY⟩, by show 4 - (i + 1) < 4 - i; omega⟩
    · have h : ¬ (i : Int) < 4 := of_decide_eq_false h
      obtain rfl : i = 4 := by omega
      rw [List.take_of_length_le (by omega)] at ho
      exact ⟨(p1, cap1), ⟨.cons rfl (.cons (by dsimp only; rw [List.take_of_length_le (by omega)]; rfl) .nil), rfl⟩, ho, hX⟩
  rintro ⟨p1, cap1⟩ V ⟨ho1, hV⟩
  dsimp only at ho1 ⊢
  have hl1 := hlen c.ways.length
  rw [List.take_length] at hl1
  refine ⟨Option Addr × Nat, fun s => ⟨[(1, .pointer (some ⟨w.heap.size, 0, none⟩)), (3, .slice s.1 (c.ways.flatMap encLin ++ c.notes.flatMap encNte).length s.2)], []⟩, fun s X => OwnS byteE 5 W0.heap.size X s.1 s.2 (c.ways.flatMap encLin ++ c.notes.flatMap encNte) ∧ Below W0.heap.size W0 X, ?_, ?_⟩
  · refine ⟨Option Addr × Nat × Nat, fun s => ⟨[(1, .pointer (some ⟨w.heap.size, 0, none⟩)), (3, .slice s.1 (c.ways.flatMap encLin ++ (c.notes.take s.2.2).flatMap encNte).length s.2.1), (7, .int .i64 (s.2.2 : Nat))], []⟩, fun s X => s.2.2 ≤ 4 ∧ OwnS byteE 5 W0.heap.size X s.1 s.2.1 (c.ways.flatMap encLin ++ (c.notes.take s.2.2).flatMap encNte) ∧ Below W0.heap.size W0 X, fun s => 4 - s.2.2, (p1, cap1, 0),
      ⟨.cons rfl (.cons (by show _ = some (Value.slice p1 (c.ways.flatMap encLin ++ []).length cap1); rw [List.append_nil]; rfl) (.cons rfl .nil)), rfl⟩, ⟨Nat.zero_le _, by simpa using ho1, hV⟩, ?_⟩
    clear ho1 hV V p1 cap1
    rintro ⟨p2, cap2, j⟩ Y ⟨hj, ho, hY⟩
    dsimp only at hj ho hY ⊢
    refine And.intro (fun h => ?_) (fun h => ?_)
    · have h : (j : Int) < 4 := of_decide_eq_true h
      have hj4 : j < 4 := by omega
      have hk : j < c.notes.length := by omega
      refine ⟨j, rfl, hj4, ?_⟩
      refine ⟨nteE.enc c.notes[j], rfl, note_at (hcl Y hY) h16 hk, hlt (block_below hY f0), ?_⟩
      have hln := hlen2 j
      have etk : (c.notes.take (j + 1)).flatMap encNte = (c.notes.take j).flatMap encNte ++ encNte c.notes[j] := (take_flat encNte hk).1
      obtain ⟨n1, n2⟩ := hnt c.notes[j] (List.getElem_mem _)
      generalize c.notes[j] = x at etk n1 n2
      have hxw : ((UInt8.ofNat x.ways.toNat).toNat : Int) = x.ways := by rw [UInt8.toNat_ofNat']; omega
      refine store_new (X := Y) (v := .agg (nteE.enc x).toArray) (ttOk.get 92 _ rfl) (by rfl) (by rfl) (by rfl) fun Z hbZ fZ sZ => ?_
      have fZ : Z.heap[Y.heap.size]? = some (.cells (nteE.enc x).toArray 92 (0, 0)) := fZ
      have hZ := hY.trans (hbZ.mono hY.size)
      have hoZ := ho.below hbZ
      have e : (((c.ways.flatMap encLin ++ (c.notes.take j).flatMap encNte) ++ [x.kind, UInt8.ofNat x.ways.toNat]) ++ [x.o0, x.o1, x.o2, x.o3]) ++ [x.bits] = c.ways.flatMap encLin ++ (c.notes.take (j + 1)).flatMap encNte := by rw [etk]; simp [encNte]
      have s0 : Z.drew.heap.size = Z.heap.size := rfl
      have zs := hZ.size
      refine DrawE.treeQ [7, 10, 14] (.op 0 (.op 1 (.op 2 (.op 3 (.op 4 (.op 5 (.op 8 (.op 9 (.op 11 (.alt (.op 6 (.alt (.op 7 (.alt (.op 10 (.op 12 (.op 13 (.op 14 (.op 15 (.nil)))))) (.op 12 (.alt (.op 10 (.op 13 (.op 14 (.op 15 (.nil))))) (.op 13 (.op 10 (.op 14 (.op 15 (.nil))))))))) (.op 12 (.alt (.op 7 (.alt (.op 10 (.op 13 (.op 14 (.op 15 (.nil))))) (.op 13 (.op 10 (.op 14 (.op 15 (.nil))))))) (.op 13 (.op 7 (.op 10 (.op 14 (.op 15 (.nil)))))))))) (.op 12 (.alt (.op 6 (.alt (.op 7 (.alt (.op 10 (.op 13 (.op 14 (.op 15 (.nil))))) (.op 13 (.op 10 (.op 14 (.op 15 (.nil))))))) (.op 13 (.op 7 (.op 10 (.op 14 (.op 15 (.nil)))))))) (.op 13 (.op 6 (.op 7 (.op 10 (.op 14 (.op 15 (.nil))))))))))))))))))) (by kernel_rfl) ?_
      refine ⟨_, cells_at (cells_block (hdr fZ)) (i := 0) rfl, ?_⟩
      refine ⟨_, cells_at (cells_block (hdr fZ)) (i := 1) rfl, ?_⟩
      refine ⟨((UInt8.ofNat x.ways.toNat).toNat : Int), by rw [hxw]; exact wrap_u8 ⟨n1, n2⟩, ?_⟩
      refine And.intro ?_ ?_
      · refine ⟨⟨by decide, by decide, rfl⟩, [u8 x.kind, u8 (UInt8.ofNat x.ways.toNat)], rfl, ?_⟩
        refine ⟨(Below.refl _ _).alloc (Nat.le_refl _) _, ?_⟩
        refine And.intro ?_ ?_
        · refine app_b (l := c.ways.flatMap encLin ++ (c.notes.take j).flatMap encNte) (news := [x.kind, UInt8.ofNat x.ways.toNat]) (hoZ.drew.alloc _) (by exact ((hZ.drew.alloc hZ.drew.size _) : Below W0.heap.size W0 _).size) (cells_block (hnew _ _)) (by simp only [List.length_append, List.length_cons, List.length_nil]; omega) ?_
          intro q1 d1 U1 ho1 hb1 hat1
          have hU1 : Below W0.heap.size W0 U1 := (hZ.drew.alloc hZ.drew.size _).trans hb1
          obtain ⟨fz1, az1⟩ := hat1 Y.heap.size _ (hold _ (hdr fZ)) (own_apNew ho)
          refine And.intro ?_ ?_
          · refine app_b (l := (c.ways.flatMap encLin ++ (c.notes.take j).flatMap encNte) ++ [x.kind, UInt8.ofNat x.ways.toNat]) (news := [x.o0, x.o1, x.o2, x.o3]) ho1 (by exact (hU1 : Below W0.heap.size W0 _).size) (cells_sub (n := 2) (m := 4) (cells_block fz1)) (by simp only [List.length_append, List.length_cons, List.length_nil]; omega) ?_
            intro q2 d2 U2 ho2 hb2 hat2
            have hU2 : Below W0.heap.size W0 U2 := hU1.trans hb2
            obtain ⟨fz2, az2⟩ := hat2 Y.heap.size _ fz1 az1
            refine ⟨_, cells_at (cells_block fz2) (i := 6) rfl, ?_⟩
            refine ⟨⟨by decide, by decide, rfl⟩, [u8 x.bits], rfl, ?_⟩
            refine ⟨(Below.refl _ _).alloc (Nat.le_refl _) _, ?_⟩
            refine app_b (l := ((c.ways.flatMap encLin ++ (c.notes.take j).flatMap encNte) ++ [x.kind, UInt8.ofNat x.ways.toNat]) ++ [x.o0, x.o1, x.o2, x.o3]) (news := [x.bits]) (ho2.alloc _) (by exact ((hU2.alloc hU2.size _) : Below W0.heap.size W0 _).size) (cells_block (hnew _ _)) (by simp only [List.length_append, List.length_cons, List.length_nil]; omega) ?_
            intro q3 d3 U3 ho3 hb3 hat3
            have hU3 : Below W0.heap.size W0 U3 := (hU2.alloc hU2.size _).trans hb3
            rw [e] at ho3
            refine ⟨(j + 1 : Nat), (wrap_i64 (by omega)).trans (by omega), ?_⟩
            exact ⟨(q3, d3, j + 1), ⟨.cons rfl (.cons (by dsimp only; rw [e]; rfl) (.cons rfl .nil)), rfl⟩, ⟨by show j + 1 ≤ _; omega, ho3, hU3⟩, by show 4 - (j + 1) < 4 - j; omega⟩
          · refine ⟨_, cells_at (cells_block fz1) (i := 6) rfl, ?_⟩
            refine And.intro ?_ ?_
            · refine app_b (l := (c.ways.flatMap encLin ++ (c.notes.take j).flatMap encNte) ++ [x.kind, UInt8.ofNat x.ways.toNat]) (news := [x.o0, x.o1, x.o2, x.o3]) ho1 (by exact (hU1 : Below W0.heap.size W0 _).size) (cells_sub (n := 2) (m := 4) (cells_block fz1)) (by simp only [List.length_append, List.length_cons, List.length_nil]; omega) ?_
              intro q2 d2 U2 ho2 hb2 hat2
              have hU2 : Below W0.heap.size W0 U2 := hU1.trans hb2
              obtain ⟨fz2, az2⟩ := hat2 Y.heap.size _ fz1 az1
              refine ⟨⟨by decide, by decide, rfl⟩, [u8 x.bits], rfl, ?_⟩
              refine ⟨(Below.refl _ _).alloc (Nat.le_refl _) _, ?_⟩
              refine app_b (l := ((c.ways.flatMap encLin ++ (c.notes.take j).flatMap encNte) ++ [x.kind, UInt8.ofNat x.ways.toNat]) ++ [x.o0, x.o1, x.o2, x.o3]) (news := [x.bits]) (ho2.alloc _) (by exact ((hU2.alloc hU2.size _) : Below W0.heap.size W0 _).size) (cells_block (hnew _ _)) (by simp only [List.length_append, List.length_cons, List.length_nil]; omega) ?_
              intro q3 d3 U3 ho3 hb3 hat3
              have hU3 : Below W0.heap.size W0 U3 := (hU2.alloc hU2.size _).trans hb3
              rw [e] at ho3
              refine ⟨(j + 1 : Nat), (wrap_i64 (by omega)).trans (by omega), ?_⟩
              exact ⟨(q3, d3, j + 1), ⟨.cons rfl (.cons (by dsimp only; rw [e]; rfl) (.cons rfl .nil)), rfl⟩, ⟨by show j + 1 ≤ _; omega, ho3, hU3⟩, by show 4 - (j + 1) < 4 - j; omega⟩
            · refine ⟨⟨by decide, by decide, rfl⟩, [u8 x.bits], rfl, ?_⟩
              refine ⟨(Below.refl _ _).alloc (Nat.le_refl _) _, ?_⟩
              refine app_b (l := (c.ways.flatMap encLin ++ (c.notes.take j).flatMap encNte) ++ [x.kind, UInt8.ofNat x.ways.toNat]) (news := [x.o0, x.o1, x.o2, x.o3]) (ho1.alloc _) (by exact ((hU1.alloc hU1.size _) : Below W0.heap.size W0 _).size) (cells_sub (n := 2) (m := 4) (cells_block (hold _ fz1))) (by simp only [List.length_append, List.length_cons, List.length_nil]; omega) ?_
              intro q2 d2 U2 ho2 hb2 hat2
              have hU2 : Below W0.heap.size W0 U2 := (hU1.alloc hU1.size _).trans hb2
              obtain ⟨fz2, az2⟩ := hat2 Y.heap.size _ (hold _ fz1) az1
              obtain ⟨fb2, ab2⟩ := hat2 _ _ (hnew _ _) (own_apNew ho1)
              refine app_b (l := ((c.ways.flatMap encLin ++ (c.notes.take j).flatMap encNte) ++ [x.kind, UInt8.ofNat x.ways.toNat]) ++ [x.o0, x.o1, x.o2, x.o3]) (news := [x.bits]) ho2 (by exact (hU2 : Below W0.heap.size W0 _).size) (cells_block fb2) (by simp only [List.length_append, List.length_cons, List.length_nil]; omega) ?_
              intro q3 d3 U3 ho3 hb3 hat3
              have hU3 : Below W0.heap.size W0 U3 := hU2.trans hb3
              rw [e] at ho3
              refine ⟨(j + 1 : Nat), (wrap_i64 (by omega)).trans (by omega), ?_⟩
              exact ⟨(q3, d3, j + 1), ⟨.cons rfl (.cons (by dsimp only; rw [e]; rfl) (.cons rfl .nil)), rfl⟩, ⟨by show j + 1 ≤ _; omega, ho3, hU3⟩, by show 4 - (j + 1) < 4 - j; omega⟩
        · refine ⟨_, cells_at (cells_block (hold _ (hdr fZ))) (i := 6) rfl, ?_⟩
          refine And.intro ?_ ?_
          · refine app_b (l := c.ways.flatMap encLin ++ (c.notes.take j).flatMap encNte) (news := [x.kind, UInt8.ofNat x.ways.toNat]) (hoZ.drew.alloc _) (by exact ((hZ.drew.alloc hZ.drew.size _) : Below W0.heap.size W0 _).size) (cells_block (hnew _ _)) (by simp only [List.length_append, List.length_cons, List.length_nil]; omega) ?_
            intro q1 d1 U1 ho1 hb1 hat1
            have hU1 : Below W0.heap.size W0 U1 := (hZ.drew.alloc hZ.drew.size _).trans hb1
            obtain ⟨fz1, az1⟩ := hat1 Y.heap.size _ (hold _ (hdr fZ)) (own_apNew ho)
            refine And.intro ?_ ?_
            · refine app_b (l := (c.ways.flatMap encLin ++ (c.notes.take j).flatMap encNte) ++ [x.kind, UInt8.ofNat x.ways.toNat]) (news := [x.o0, x.o1, x.o2, x.o3]) ho1 (by exact (hU1 : Below W0.heap.size W0 _).size) (cells_sub (n := 2) (m := 4) (cells_block fz1)) (by simp only [List.length_append, List.length_cons, List.length_nil]; omega) ?_
              intro q2 d2 U2 ho2 hb2 hat2
              have hU2 : Below W0.heap.size W0 U2 := hU1.trans hb2
              obtain ⟨fz2, az2⟩ := hat2 Y.heap.size _ fz1 az1
              refine ⟨⟨by decide, by decide, rfl⟩, [u8 x.bits], rfl, ?_⟩
              refine ⟨(Below.refl _ _).alloc (Nat.le_refl _) _, ?_⟩
              refine app_b (l := ((c.ways.flatMap encLin ++ (c.notes.take j).flatMap encNte) ++ [x.kind, UInt8.ofNat x.ways.toNat]) ++ [x.o0, x.o1, x.o2, x.o3]) (news := [x.bits]) (ho2.alloc _) (by exact ((hU2.alloc hU2.size _) : Below W0.heap.size W0 _).size) (cells_block (hnew _ _)) (by simp only [List.length_append, List.length_cons, List.length_nil]; omega) ?_
              intro q3 d3 U3 ho3 hb3 hat3
              have hU3 : Below W0.heap.size W0 U3 := (hU2.alloc hU2.size _).trans hb3
              rw [e] at ho3
              refine ⟨(j + 1 : Nat), (wrap_i64 (by omega)).trans (by omega), ?_⟩
              exact ⟨(q3, d3, j + 1), ⟨.cons rfl (.cons (by dsimp only; rw [e]; rfl) (.cons rfl .nil)), rfl⟩, ⟨by show j + 1 ≤ _; omega, ho3, hU3⟩, by show 4 - (j + 1) < 4 - j; omega⟩
            · refine ⟨⟨by decide, by decide, rfl⟩, [u8 x.bits], rfl, ?_⟩
              refine ⟨(Below.refl _ _).alloc (Nat.le_refl _) _, ?_⟩
              refine app_b (l := (c.ways.flatMap encLin ++ (c.notes.take j).flatMap encNte) ++ [x.kind, UInt8.ofNat x.ways.toNat]) (news := [x.o0, x.o1, x.o2, x.o3]) (ho1.alloc _) (by exact ((hU1.alloc hU1.size _) : Below W0.heap.size W0 _).size) (cells_sub (n := 2) (m := 4) (cells_block (hold _ fz1))) (by simp only [List.length_append, List.length_cons, List.length_nil]; omega) ?_
              intro q2 d2 U2 ho2 hb2 hat2
              have hU2 : Below W0.heap.size W0 U2 := (hU1.alloc hU1.size _).trans hb2
              obtain ⟨fz2, az2⟩ := hat2 Y.heap.size _ (hold _ fz1) az1
              obtain ⟨fb2, ab2⟩ := hat2 _ _ (hnew _ _) (own_apNew ho1)
              refine app_b (l := ((c.ways.flatMap encLin ++ (c.notes.take j).flatMap encNte) ++ [x.kind, UInt8.ofNat x.ways.toNat]) ++ [x.o0, x.o1, x.o2, x.o3]) (news := [x.bits]) ho2 (by exact (hU2 : Below W0.heap.size W0 _).size) (cells_block fb2) (by simp only [List.length_append, List.length_cons, List.length_nil]; omega) ?_
              intro q3 d3 U3 ho3 hb3 hat3
              have hU3 : Below W0.heap.size W0 U3 := hU2.trans hb3
              rw [e] at ho3
              refine ⟨(j + 1 : Nat), (wrap_i64 (by omega)).trans (by omega), ?_⟩
              exact ⟨(q3, d3, j + 1), ⟨.cons rfl (.cons (by dsimp only; rw [e]; rfl) (.cons rfl .nil)), rfl⟩, ⟨by show j + 1 ≤ _; omega, ho3, hU3⟩, by show 4 - (j + 1) < 4 - j; omega⟩
          · refine ⟨⟨by decide, by decide, rfl⟩, [u8 x.bits], rfl, ?_⟩
            refine ⟨(Below.refl _ _).alloc (Nat.le_refl _) _, ?_⟩
            refine app_b (l := c.ways.flatMap encLin ++ (c.notes.take j).flatMap encNte) (news := [x.kind, UInt8.ofNat x.ways.toNat]) ((hoZ.drew.alloc _).alloc _) (by exact (((hZ.drew.alloc hZ.drew.size _).alloc (hZ.drew.alloc hZ.drew.size _).size _) : Below W0.heap.size W0 _).size) (cells_block (hold _ (hnew _ _))) (by simp only [List.length_append, List.length_cons, List.length_nil]; omega) ?_
            intro q1 d1 U1 ho1 hb1 hat1
            have hU1 : Below W0.heap.size W0 U1 := ((hZ.drew.alloc hZ.drew.size _).alloc (hZ.drew.alloc hZ.drew.size _).size _).trans hb1
            obtain ⟨fz1, az1⟩ := hat1 Y.heap.size _ (hold _ (hold _ (hdr fZ))) (own_apNew ho)
            obtain ⟨fb1, ab1⟩ := hat1 _ _ (hnew _ _) (own_apNew (hoZ.drew.alloc _))
            refine app_b (l := (c.ways.flatMap encLin ++ (c.notes.take j).flatMap encNte) ++ [x.kind, UInt8.ofNat x.ways.toNat]) (news := [x.o0, x.o1, x.o2, x.o3]) ho1 (by exact (hU1 : Below W0.heap.size W0 _).size) (cells_sub (n := 2) (m := 4) (cells_block fz1)) (by simp only [List.length_append, List.length_cons, List.length_nil]; omega) ?_
            intro q2 d2 U2 ho2 hb2 hat2
            have hU2 : Below W0.heap.size W0 U2 := hU1.trans hb2
            obtain ⟨fz2, az2⟩ := hat2 Y.heap.size _ fz1 az1
            obtain ⟨fb2, ab2⟩ := hat2 _ _ fb1 ab1
            refine app_b (l := ((c.ways.flatMap encLin ++ (c.notes.take j).flatMap encNte) ++ [x.kind, UInt8.ofNat x.ways.toNat]) ++ [x.o0, x.o1, x.o2, x.o3]) (news := [x.bits]) ho2 (by exact (hU2 : Below W0.heap.size W0 _).size) (cells_block fb2) (by simp only [List.length_append, List.length_cons, List.length_nil]; omega) ?_
            intro q3 d3 U3 ho3 hb3 hat3
            have hU3 : Below W0.heap.size W0 U3 := hU2.trans hb3
            rw [e] at ho3
            refine ⟨(j + 1 : Nat), (wrap_i64 (by omega)).trans (by omega), ?_⟩
            exact ⟨(q3, d3, j + 1), ⟨.cons rfl (.cons (by dsimp only; rw [e]; rfl) (.cons rfl .nil)), rfl⟩, ⟨by show j + 1 ≤ _; omega, ho3, hU3⟩, by show 4 - (j + 1) < 4 - j; omega⟩
      · refine ⟨_, cells_at (cells_block (hdr fZ)) (i := 6) rfl, ?_⟩
        refine And.intro ?_ ?_
        · refine ⟨⟨by decide, by decide, rfl⟩, [u8 x.kind, u8 (UInt8.ofNat x.ways.toNat)], rfl, ?_⟩
          refine ⟨(Below.refl _ _).alloc (Nat.le_refl _) _, ?_⟩
          refine And.intro ?_ ?_
          · refine app_b (l := c.ways.flatMap encLin ++ (c.notes.take j).flatMap encNte) (news := [x.kind, UInt8.ofNat x.ways.toNat]) (hoZ.drew.alloc _) (by exact ((hZ.drew.alloc hZ.drew.size _) : Below W0.heap.size W0 _).size) (cells_block (hnew _ _)) (by simp only [List.length_append, List.length_cons, List.length_nil]; omega) ?_
            intro q1 d1 U1 ho1 hb1 hat1
            have hU1 : Below W0.heap.size W0 U1 := (hZ.drew.alloc hZ.drew.size _).trans hb1
            obtain ⟨fz1, az1⟩ := hat1 Y.heap.size _ (hold _ (hdr fZ)) (own_apNew ho)
            refine And.intro ?_ ?_
            · refine app_b (l := (c.ways.flatMap encLin ++ (c.notes.take j).flatMap encNte) ++ [x.kind, UInt8.ofNat x.ways.toNat]) (news := [x.o0, x.o1, x.o2, x.o3]) ho1 (by exact (hU1 : Below W0.heap.size W0 _).size) (cells_sub (n := 2) (m := 4) (cells_block fz1)) (by simp only [List.length_append, List.length_cons, List.length_nil]; omega) ?_
              intro q2 d2 U2 ho2 hb2 hat2
              have hU2 : Below W0.heap.size W0 U2 := hU1.trans hb2
              obtain ⟨fz2, az2⟩ := hat2 Y.heap.size _ fz1 az1
              refine ⟨⟨by decide, by decide, rfl⟩, [u8 x.bits], rfl, ?_⟩
              refine ⟨(Below.refl _ _).alloc (Nat.le_refl _) _, ?_⟩
              refine app_b (l := ((c.ways.flatMap encLin ++ (c.notes.take j).flatMap encNte) ++ [x.kind, UInt8.ofNat x.ways.toNat]) ++ [x.o0, x.o1, x.o2, x.o3]) (news := [x.bits]) (ho2.alloc _) (by exact ((hU2.alloc hU2.size _) : Below W0.heap.size W0 _).size) (cells_block (hnew _ _)) (by simp only [List.length_append, List.length_cons, List.length_nil]; omega) ?_
              intro q3 d3 U3 ho3 hb3 hat3
              have hU3 : Below W0.heap.size W0 U3 := (hU2.alloc hU2.size _).trans hb3
              rw [e] at ho3
              refine ⟨(j + 1 : Nat), (wrap_i64 (by omega)).trans (by omega), ?_⟩
              exact ⟨(q3, d3, j + 1), ⟨.cons rfl (.cons (by dsimp only; rw [e]; rfl) (.cons rfl .nil)), rfl⟩, ⟨by show j + 1 ≤ _; omega, ho3, hU3⟩, by show 4 - (j + 1) < 4 - j; omega⟩
            · refine ⟨⟨by decide, by decide, rfl⟩, [u8 x.bits], rfl, ?_⟩
              refine ⟨(Below.refl _ _).alloc (Nat.le_refl _) _, ?_⟩
              refine app_b (l := (c.ways.flatMap encLin ++ (c.notes.take j).flatMap encNte) ++ [x.kind, UInt8.ofNat x.ways.toNat]) (news := [x.o0, x.o1, x.o2, x.o3]) (ho1.alloc _) (by exact ((hU1.alloc hU1.size _) : Below W0.heap.size W0 _).size) (cells_sub (n := 2) (m := 4) (cells_block (hold _ fz1))) (by simp only [List.length_append, List.length_cons, List.length_nil]; omega) ?_
              intro q2 d2 U2 ho2 hb2 hat2
              have hU2 : Below W0.heap.size W0 U2 := (hU1.alloc hU1.size _).trans hb2
              obtain ⟨fz2, az2⟩ := hat2 Y.heap.size _ (hold _ fz1) az1
              obtain ⟨fb2, ab2⟩ := hat2 _ _ (hnew _ _) (own_apNew ho1)
              refine app_b (l := ((c.ways.flatMap encLin ++ (c.notes.take j).flatMap encNte) ++ [x.kind, UInt8.ofNat x.ways.toNat]) ++ [x.o0, x.o1, x.o2, x.o3]) (news := [x.bits]) ho2 (by exact (hU2 : Below W0.heap.size W0 _).size) (cells_block fb2) (by simp only [List.length_append, List.length_cons, List.length_nil]; omega) ?_
              intro q3 d3 U3 ho3 hb3 hat3
              have hU3 : Below W0.heap.size W0 U3 := hU2.trans hb3
              rw [e] at ho3
              refine ⟨(j + 1 : Nat), (wrap_i64 (by omega)).trans (by omega), ?_⟩
              exact ⟨(q3, d3, j + 1), ⟨.cons rfl (.cons (by dsimp only; rw [e]; rfl) (.cons rfl .nil)), rfl⟩, ⟨by show j + 1 ≤ _; omega, ho3, hU3⟩, by show 4 - (j + 1) < 4 - j; omega⟩
          · refine ⟨⟨by decide, by decide, rfl⟩, [u8 x.bits], rfl, ?_⟩
            refine ⟨(Below.refl _ _).alloc (Nat.le_refl _) _, ?_⟩
            refine app_b (l := c.ways.flatMap encLin ++ (c.notes.take j).flatMap encNte) (news := [x.kind, UInt8.ofNat x.ways.toNat]) ((hoZ.drew.alloc _).alloc _) (by exact (((hZ.drew.alloc hZ.drew.size _).alloc (hZ.drew.alloc hZ.drew.size _).size _) : Below W0.heap.size W0 _).size) (cells_block (hold _ (hnew _ _))) (by simp only [List.length_append, List.length_cons, List.length_nil]; omega) ?_
            intro q1 d1 U1 ho1 hb1 hat1
            have hU1 : Below W0.heap.size W0 U1 := ((hZ.drew.alloc hZ.drew.size _).alloc (hZ.drew.alloc hZ.drew.size _).size _).trans hb1
            obtain ⟨fz1, az1⟩ := hat1 Y.heap.size _ (hold _ (hold _ (hdr fZ))) (own_apNew ho)
            obtain ⟨fb1, ab1⟩ := hat1 _ _ (hnew _ _) (own_apNew (hoZ.drew.alloc _))
            refine app_b (l := (c.ways.flatMap encLin ++ (c.notes.take j).flatMap encNte) ++ [x.kind, UInt8.ofNat x.ways.toNat]) (news := [x.o0, x.o1, x.o2, x.o3]) ho1 (by exact (hU1 : Below W0.heap.size W0 _).size) (cells_sub (n := 2) (m := 4) (cells_block fz1)) (by simp only [List.length_append, List.length_cons, List.length_nil]; omega) ?_
            intro q2 d2 U2 ho2 hb2 hat2
            have hU2 : Below W0.heap.size W0 U2 := hU1.trans hb2
            obtain ⟨fz2, az2⟩ := hat2 Y.heap.size _ fz1 az1
            obtain ⟨fb2, ab2⟩ := hat2 _ _ fb1 ab1
            refine app_b (l := ((c.ways.flatMap encLin ++ (c.notes.take j).flatMap encNte) ++ [x.kind, UInt8.ofNat x.ways.toNat]) ++ [x.o0, x.o1, x.o2, x.o3]) (news := [x.bits]) ho2 (by exact (hU2 : Below W0.heap.size W0 _).size) (cells_block fb2) (by simp only [List.length_append, List.length_cons, List.length_nil]; omega) ?_
            intro q3 d3 U3 ho3 hb3 hat3
            have hU3 : Below W0.heap.size W0 U3 := hU2.trans hb3
            rw [e] at ho3
            refine ⟨(j + 1 : Nat), (wrap_i64 (by omega)).trans (by omega), ?_⟩
            exact ⟨(q3, d3, j + 1), ⟨.cons rfl (.cons (by dsimp only; rw [e]; rfl) (.cons rfl .nil)), rfl⟩, ⟨by show j + 1 ≤ _; omega, ho3, hU3⟩, by show 4 - (j + 1) < 4 - j; omega⟩
        · refine ⟨⟨by decide, by decide, rfl⟩, [u8 x.bits], rfl, ?_⟩
          refine ⟨(Below.refl _ _).alloc (Nat.le_refl _) _, ?_⟩
          refine ⟨⟨by decide, by decide, rfl⟩, [u8 x.kind, u8 (UInt8.ofNat x.ways.toNat)], rfl, ?_⟩
          refine ⟨(Below.refl _ _).alloc (Nat.le_refl _) _, ?_⟩
          refine app_b (l := c.ways.flatMap encLin ++ (c.notes.take j).flatMap encNte) (news := [x.kind, UInt8.ofNat x.ways.toNat]) ((hoZ.drew.alloc _).alloc _) (by exact (((hZ.drew.alloc hZ.drew.size _).alloc (hZ.drew.alloc hZ.drew.size _).size _) : Below W0.heap.size W0 _).size) (cells_block (hnew _ _)) (by simp only [List.length_append, List.length_cons, List.length_nil]; omega) ?_
          intro q1 d1 U1 ho1 hb1 hat1
          have hU1 : Below W0.heap.size W0 U1 := ((hZ.drew.alloc hZ.drew.size _).alloc (hZ.drew.alloc hZ.drew.size _).size _).trans hb1
          obtain ⟨fz1, az1⟩ := hat1 Y.heap.size _ (hold _ (hold _ (hdr fZ))) (own_apNew ho)
          obtain ⟨fb1, ab1⟩ := hat1 _ _ (hold _ (hnew _ _)) (own_apNew hoZ.drew)
          refine app_b (l := (c.ways.flatMap encLin ++ (c.notes.take j).flatMap encNte) ++ [x.kind, UInt8.ofNat x.ways.toNat]) (news := [x.o0, x.o1, x.o2, x.o3]) ho1 (by exact (hU1 : Below W0.heap.size W0 _).size) (cells_sub (n := 2) (m := 4) (cells_block fz1)) (by simp only [List.length_append, List.length_cons, List.length_nil]; omega) ?_
          intro q2 d2 U2 ho2 hb2 hat2
          have hU2 : Below W0.heap.size W0 U2 := hU1.trans hb2
          obtain ⟨fz2, az2⟩ := hat2 Y.heap.size _ fz1 az1
          obtain ⟨fb2, ab2⟩ := hat2 _ _ fb1 ab1
          refine app_b (l := ((c.ways.flatMap encLin ++ (c.notes.take j).flatMap encNte) ++ [x.kind, UInt8.ofNat x.ways.toNat]) ++ [x.o0, x.o1, x.o2, x.o3]) (news := [x.bits]) ho2 (by exact (hU2 : Below W0.heap.size W0 _).size) (cells_block fb2) (by simp only [List.length_append, List.length_cons, List.length_nil]; omega) ?_
          intro q3 d3 U3 ho3 hb3 hat3
          have hU3 : Below W0.heap.size W0 U3 := hU2.trans hb3
          rw [e] at ho3
          refine ⟨(j + 1 : Nat), (wrap_i64 (by omega)).trans (by omega), ?_⟩
          exact ⟨(q3, d3, j + 1), ⟨.cons rfl (.cons (by dsimp only; rw [e]; rfl) (.cons rfl .nil)), rfl⟩, ⟨by show j + 1 ≤ _; omega, ho3, hU3⟩, by show 4 - (j + 1) < 4 - j; omega⟩
    · have h : ¬ (j : Int) < 4 := of_decide_eq_false h
      obtain rfl : j = 4 := by omega
      rw [List.take_of_length_le (by omega)] at ho
      exact ⟨(p2, cap2), ⟨.cons rfl (.cons (by dsimp only; rw [List.take_of_length_le (by omega)]; rfl) .nil), rfl⟩, ho, hY⟩
  clear ho1 hV V p1 cap1
  rintro ⟨p1, cap1⟩ V ⟨ho1, hV⟩
  dsimp only at ho1 ⊢
  have hl2 := hlen2 c.notes.length
  rw [List.take_length] at hl2
  have hop := cop_at (hcl V hV) h16 h4
  refine ⟨_, cells_at hop (i := 0) rfl, ?_⟩
  refine ⟨_, cells_at hop (i := 1) rfl, ?_⟩
  refine ⟨_, cells_at hop (i := 2) rfl, ?_⟩
  refine ⟨_, cells_at hop (i := 3) rfl, ?_⟩
  refine ⟨⟨by decide, by decide, rfl⟩, [u8 c.k, u8 c.l, u8 c.a, u8 c.b], rfl, ?_⟩
  refine app_b (l := c.ways.flatMap encLin ++ c.notes.flatMap encNte) (news := [c.k, c.l, c.a, c.b]) (ho1.alloc _) (by have := hV.size; simp; omega) cells_new (by simp only [List.length_append, List.length_cons, List.length_nil]; omega) ?_
  intro p' cap' Y ho' hb' _
  have e : (c.ways.flatMap encLin ++ c.notes.flatMap encNte) ++ [c.k, c.l, c.a, c.b] = encCac c := by rw [List.append_assoc]; rfl
  rw [e] at ho' ⊢
  exact ⟨p', cap', rfl, own_weak ho' hb0.size, hb0.trans (((hV.alloc hV.size _).trans hb').mono hb0.size)⟩
end Go.Proofs.YtedeohcdcaimhaaGreatDoor
namespace Go.Proofs.YtedeohcdcaimhaaGreatDoor
open Go.Vc Go.RowKit Go.Sei
set_option linter.unusedVariables false

theorem leM_rem (h : Hom) (k : Nat) (hk : k < 8) : IntKind.u8.wrap ((Int.fdiv (leM h : Int) (2 ^ (min ((8 * k : Nat) : Int).toNat IntKind.u64.bits))).tmod 256) = (((mL h)[k]'hk).toNat : Int) := by
  rw [← leM_shr h k hk, wrap_u8m, wrap_u8m]
  have h0 : 0 ≤ Int.fdiv (leM h : Int) (2 ^ (min ((8 * k : Nat) : Int).toNat IntKind.u64.bits)) := by
    rw [Int.fdiv_eq_ediv_of_nonneg _ (by exact Int.pow_nonneg (by decide))]
    exact Int.ediv_nonneg (by omega) (Int.pow_nonneg (by decide))
  rw [Int.tmod_eq_emod_of_nonneg h0, Int.emod_emod]

theorem homeR_c {h : Hom} {w : World} :
    Calls Tryz.prog 47 #[.agg (homE.enc h).toArray] w fun e w' => ∃ p cap, e = .returned (.slice p (encHom h).length cap) ∧ OwnS byteE 5 w.heap.size w' p cap (encHom h) ∧ Below w.heap.size w w' := by
  refine calls_of_M (S := sg 42) (sgOk _) (args := [.agg (homE.enc h).toArray]) (.s .p (.c .p (.c .p .p))) Tryz.func47 rfl rfl (Nat.le_of_ble_eq_true rfl) rfl ?_
  obtain ⟨W0, hW0⟩ : ∃ W0, W0 = w.alloc (.cells (homE.enc h).toArray 54) := ⟨_, rfl⟩
  have e1 : W0.heap.size = w.heap.size + 1 := by rw [hW0]; exact World.size_alloc _ _
  have hb0 : Below w.heap.size w W0 := by rw [hW0]; exact (Below.refl _ _).alloc (Nat.le_refl _) _
  have f0 : W0.heap[w.heap.size]? = some (.cells (homE.enc h).toArray 54 (0, 0)) := by rw [hW0]; exact hnew w _
  have hcl : ∀ X, Below W0.heap.size W0 X → Cells X ⟨w.heap.size, 0, none⟩ (homE.enc h) := fun X hX => cells_block (block_below hX f0)
  have hcl0 := hcl W0 (Below.refl _ _)
  refine ⟨Option Addr × Nat, fun s => ⟨[(1, .pointer (some ⟨w.heap.size, 0, none⟩)), (3, .slice s.1 3 s.2)], []⟩, fun s X => OwnS byteE 5 W0.heap.size X s.1 s.2 [h.state, h.owner, h.kind] ∧ Below W0.heap.size W0 X, ?_, ?_⟩
  · subst hW0
    refine ⟨_, cells_at hcl0 (i := 0) rfl, ?_⟩
    refine ⟨_, cells_at hcl0 (i := 1) rfl, ?_⟩
    refine ⟨_, cells_at hcl0 (i := 2) rfl, ?_⟩
    refine ⟨⟨by decide, by decide, rfl⟩, [u8 h.state, u8 h.owner, u8 h.kind], rfl, ?_⟩
    exact ⟨(some ⟨(w.alloc (.cells (homE.enc h).toArray 54)).heap.size, 0, none⟩, 3), ⟨.cons rfl (.cons rfl .nil), rfl⟩, own_lit (Nat.le_refl _) [h.state, h.owner, h.kind] (by simp), (Below.refl _ _).alloc (Nat.le_refl _) _⟩
  rintro ⟨p1, cap1⟩ V ⟨ho1, hV⟩
  dsimp only at ho1 ⊢
  have hm := mL_len h
  refine ⟨Option Addr × Nat, fun s => ⟨[(1, .pointer (some ⟨w.heap.size, 0, none⟩)), (3, .slice s.1 11 s.2)], []⟩, fun s X => OwnS byteE 5 W0.heap.size X s.1 s.2 ([h.state, h.owner, h.kind] ++ mL h) ∧ Below W0.heap.size W0 X, ?_, ?_⟩
  · refine ⟨Option Addr × Nat × Nat, fun s => ⟨[(1, .pointer (some ⟨w.heap.size, 0, none⟩)), (3, .slice s.1 ([h.state, h.owner, h.kind] ++ (mL h).take s.2.2).length s.2.1), (4, .int .i64 (s.2.2 : Nat))], []⟩, fun s X => s.2.2 ≤ 8 ∧ OwnS byteE 5 W0.heap.size X s.1 s.2.1 ([h.state, h.owner, h.kind] ++ (mL h).take s.2.2) ∧ Below W0.heap.size W0 X, fun s => 8 - s.2.2, (p1, cap1, 0),
      ⟨.cons rfl (.cons rfl (.cons rfl .nil)), rfl⟩, ⟨Nat.zero_le _, ho1, hV⟩, ?_⟩
    clear ho1 hV V p1 cap1
    rintro ⟨p2, cap2, k⟩ Y ⟨hk, ho, hY⟩
    dsimp only at hk ho hY ⊢
    refine And.intro (fun hc => ?_) (fun hc => ?_)
    · have hc : (k : Int) < 8 := of_decide_eq_true hc
      have hk8 : k < 8 := by omega
      refine ⟨_, cells_at (hcl Y hY) (i := 3) rfl, ?_⟩
      refine ⟨((8 * k : Nat) : Int), (wrap_i64 (by omega)).trans (by omega), ?_⟩
      refine ⟨by omega, _, rfl, ?_⟩
      refine ⟨by decide, _, rfl, ?_⟩
      refine ⟨(((mL h)[k]'hk8).toNat : Int), leM_rem h k hk8, ?_⟩
      refine ⟨⟨by decide, by decide, rfl⟩, [u8 ((mL h)[k]'hk8)], rfl, ?_⟩
      refine app_b (l := [h.state, h.owner, h.kind] ++ (mL h).take k) (news := [(mL h)[k]'hk8]) (ho.alloc _) (by have := hY.size; simp; omega) cells_new (by simp only [List.length_append, List.length_cons, List.length_nil, List.length_take]; omega) ?_
      intro p3 cap3 U ho3 hb3 _
      have e : ([h.state, h.owner, h.kind] ++ (mL h).take k) ++ [(mL h)[k]'hk8] = [h.state, h.owner, h.kind] ++ (mL h).take (k + 1) := by
        rw [List.take_succ_eq_append_getElem (by rw [mL_len]; omega), List.append_assoc]; rfl
      rw [e] at ho3
      refine ⟨(k + 1 : Nat), (wrap_i64 (by omega)).trans (by omega), ?_⟩
      exact ⟨(p3, cap3, k + 1), ⟨.cons rfl (.cons (by dsimp only; rw [e]; rfl) (.cons rfl .nil)), rfl⟩, ⟨by show k + 1 ≤ _; omega, ho3, (hY.alloc hY.size _).trans hb3⟩, by show 8 - (k + 1) < 8 - k; omega⟩
    · have hc : ¬ (k : Int) < 8 := of_decide_eq_false hc
      obtain rfl : k = 8 := by omega
      exact ⟨(p2, cap2), ⟨.cons rfl (.cons rfl .nil), rfl⟩, ho, hY⟩
  clear ho1 hV V p1 cap1
  rintro ⟨p1, cap1⟩ V ⟨ho1, hV⟩
  dsimp only at ho1 ⊢
  have hclV := hcl V.drew hV.drew
  refine DrawE.ord [10, 13] [0, 1, 2, 3, 5, 6, 7, 8, 11, 12, 4, 9, 10, 13, 14] (by kernel_rfl) ?_
  refine ⟨_, cells_at hclV (i := 4) rfl, ?_⟩
  refine ⟨_, cells_at hclV (i := 5) rfl, ?_⟩
  refine ⟨_, cells_at hclV (i := 6) rfl, ?_⟩
  refine Calls.mono (flag_c h.all _) ?_
  rintro e _ ⟨rfl, rfl⟩
  refine ⟨Below.refl _ _, ?_⟩
  refine ⟨⟨by decide, by decide, rfl⟩, [u8 (bitB h.all 1), u8 h.wait, u8 h.asker], rfl, ?_⟩
  refine ⟨(Below.refl _ _).alloc (Nat.le_refl _) _, ?_⟩
  refine app_b (l := [h.state, h.owner, h.kind] ++ mL h) (news := [bitB h.all 1, h.wait, h.asker]) (ho1.drew.alloc _) (by exact (hV.drew.alloc hV.drew.size _ : Below W0.heap.size W0 _).size) cells_new (by simp only [List.length_append, List.length_cons, List.length_nil]; omega) ?_
  intro p2 cap2 U ho2 hb2 hat
  have hU : Below W0.heap.size W0 U := (hV.drew.alloc hV.drew.size _).trans hb2
  refine app_b (l := ([h.state, h.owner, h.kind] ++ mL h) ++ [bitB h.all 1, h.wait, h.asker]) (news := [h.d0, h.d1, h.d2, h.d3]) ho2 hU.size (cells_sub (n := 7) (m := 4) (hcl U hU)) (by simp only [List.length_append, List.length_cons, List.length_nil]; omega) ?_
  intro p' cap' Y ho' hb' _
  have e : (([h.state, h.owner, h.kind] ++ mL h) ++ [bitB h.all 1, h.wait, h.asker]) ++ [h.d0, h.d1, h.d2, h.d3] = encHom h := rfl
  rw [e] at ho' ⊢
  exact ⟨p', cap', rfl, own_weak ho' hb0.size, hb0.trans ((hU.trans hb').mono hb0.size)⟩
end Go.Proofs.YtedeohcdcaimhaaGreatDoor
namespace Go.Proofs.YtedeohcdcaimhaaGreatDoor
open Go.Vc Go.RowKit Go.Sei

theorem within_c (n most : Int) (w : World) : Calls Tryz.prog 80 #[i64 n, i64 most] w fun e w' => e = .returned (.bool (decide (1 ≤ n) && decide (n ≤ most))) ∧ w = w' := by
  refine calls_of_E (S := sg 12) (sgOk _) (args := [i64 n, i64 most]) Tryz.func80 rfl rfl (Nat.le_of_ble_eq_true rfl) rfl ?_
  refine And.intro (fun h => ?_) (fun h => ?_)
  · have h : decide (1 ≤ n) = true := h
    exact And.intro (rb (by rw [h]; rfl)) rfl
  · have h : decide (1 ≤ n) = false := h
    exact And.intro (rb (by rw [h]; rfl)) rfl
theorem ok_at (g : Geo) : okAt g 0 = (decide (1 ≤ g.c) && decide (g.c ≤ 4)) ∧ okAt g 1 = (decide (1 ≤ g.h) && decide (g.h ≤ 2)) ∧ okAt g 2 = (decide (1 ≤ g.w) && decide (g.w ≤ 4)) ∧ okAt g 3 = (decide (1 ≤ g.s) && decide (g.s ≤ 4)) ∧ okAt g 4 = (decide (1 ≤ g.a) && decide (g.a ≤ 4)) := ⟨rfl, rfl, rfl, rfl, rfl⟩
theorem RightR_geo_c (g : Geo) (w : World) : Calls Tryz.prog 44 #[g.val] w fun e w' => e = .returned (.bool (geoR g)) ∧ Below w.heap.size w w' := by
  refine calls_of_E (S := sg 26) (sgOk _) (args := [g.val]) Tryz.func44 rfl rfl (Nat.le_of_ble_eq_true rfl) rfl ?_
  have hb0 : Below w.heap.size w (w.alloc (.cells g.val.cells 31)) := (Below.refl _ _).alloc (Nat.le_refl _) _
  have f0 := hnew w (.cells g.val.cells 31)
  have c0 := cells_block f0
  obtain ⟨o0, o1, o2, o3, o4⟩ := ok_at g
  refine ⟨_, cells_at c0 (i := 0) rfl, ?_⟩
  refine Calls.mono (within_c g.c 4 _) ?_
  rintro e _ ⟨rfl, rfl⟩
  rw [← o0]
  refine And.intro (fun h0 => ?_) (fun h0 => ?_)
  · refine ⟨_, cells_at c0 (i := 1) rfl, ?_⟩
    refine Calls.mono (within_c g.h 2 _) ?_
    rintro e _ ⟨rfl, rfl⟩
    rw [← o1]
    refine And.intro (fun h1 => ?_) (fun h1 => ?_)
    · refine ⟨_, cells_at c0 (i := 2) rfl, ?_⟩
      refine Calls.mono (within_c g.w 4 _) ?_
      rintro e _ ⟨rfl, rfl⟩
      rw [← o2]
      refine And.intro (fun h2 => ?_) (fun h2 => ?_)
      · refine ⟨_, cells_at c0 (i := 3) rfl, ?_⟩
        refine Calls.mono (within_c g.s 4 _) ?_
        rintro e _ ⟨rfl, rfl⟩
        rw [← o3]
        refine And.intro (fun h3 => ?_) (fun h3 => ?_)
        · refine ⟨_, cells_at c0 (i := 4) rfl, ?_⟩
          refine Calls.mono (within_c g.a 4 _) ?_
          rintro e _ ⟨rfl, rfl⟩
          rw [← o4]
          exact And.intro (rb (by unfold geoR; rw [h0, h1, h2, h3]; rfl)) hb0
        · exact And.intro (rb (by unfold geoR; rw [h0, h1, h2, h3]; rfl)) hb0
      · refine And.intro (fun h => by cases h) (fun _ => ?_)
        exact And.intro (rb (by unfold geoR; rw [h0, h1, h2]; rfl)) hb0
    · refine And.intro (fun h => by cases h) (fun _ => ?_)
      refine And.intro (fun h => by cases h) (fun _ => ?_)
      exact And.intro (rb (by unfold geoR; rw [h0, h1]; rfl)) hb0
  · refine And.intro (fun h => by cases h) (fun _ => ?_)
    refine And.intro (fun h => by cases h) (fun _ => ?_)
    refine And.intro (fun h => by cases h) (fun _ => ?_)
    exact And.intro (rb (by unfold geoR; rw [h0]; rfl)) hb0

end Go.Proofs.YtedeohcdcaimhaaGreatDoor
namespace Go.Proofs.YtedeohcdcaimhaaGreatDoor
open Go.Vc Go.RowKit Go.Sei
set_option linter.unusedVariables false

theorem FitsR_c {wv vs : List Value} {g : Geo} {mode : UInt8} {s : Sy} {w : World} (hW : WorV wv g.enc mode) (hS : SysV w.heap.size w vs s) :
    Calls Tryz.prog 16 #[.agg wv.toArray, .agg vs.toArray] w fun e w' => e = .returned (.bool (fitsB g s)) ∧ Below w.heap.size w w' := by
  refine calls_of_M (S := sg 76) (sgOk _) (args := [.agg wv.toArray, .agg vs.toArray]) (.s .p (.s (.c .p .p) .p)) Tryz.func16 rfl rfl (Nat.le_of_ble_eq_true rfl) rfl ?_
  obtain ⟨W0, hW0⟩ : ∃ W0, (w.alloc (.cells wv.toArray 44)).alloc (.cells vs.toArray 58) = W0 := ⟨_, rfl⟩
  have hb0 : Below w.heap.size w W0 := by rw [← hW0]; exact ((Below.refl _ _).alloc (Nat.le_refl _) _).alloc (by simp) _
  have f0 : W0.heap[w.heap.size]? = some (.cells wv.toArray 44 (0, 0)) := by rw [← hW0]; exact hold _ (hnew w _)
  have f1 : W0.heap[w.heap.size + 1]? = some (.cells vs.toArray 58 (0, 0)) := by
    have := hnew (w.alloc (.cells wv.toArray 44)) (.cells vs.toArray 58)
    rw [World.size_alloc] at this
    rw [← hW0]; exact this
  have es : (w.alloc (.cells wv.toArray 44)).heap.size = w.heap.size + 1 := World.size_alloc _ _
  obtain ⟨⟨p1, c1, p2, c2, p3, c3, hvs, hco, hca, hne, hnil⟩, h6⟩ := hS.below hb0
  have hH : (s.homes.flatMap homE.enc).length = 66 := by rw [flat_len, h6]; rfl
  have hcl : Cells W0 ⟨w.heap.size + 1, 0, none⟩ (.slice p1 s.cores.length c1 :: .slice p2 s.caches.length c2 :: (s.homes.flatMap homE.enc ++ [.slice p3 s.net.length c3])) := by
    have := cells_block f1; rw [← hvs]; exact this
  have hgeo : Cells W0 ⟨w.heap.size, 10, none⟩ g.enc := by
    have := cells_sub (n := 10) (m := 5) (cells_block f0)
    simp only [Nat.zero_add] at this
    rw [← hW.geo]; exact this
  refine ⟨Bool, fun b => ⟨[(2, .pointer (some ⟨w.heap.size, 0, none⟩)), (3, .pointer (some ⟨w.heap.size + 1, 0, none⟩)), (34, .bool b)], []⟩, fun b V => b = !fit4 g s ∧ Below W0.heap.size W0 V, ?_, ?_⟩
  · have hr := RightR_geo_c g W0
    rw [← hW0] at hr hgeo hcl
    refine ⟨g.enc, rfl, hgeo, (by have := hlt f0; rw [← hW0] at this; exact this), ?_⟩
    refine Calls.mono hr ?_
    rintro e V ⟨rfl, hb⟩
    rw [hW0] at hb
    have hclV : Cells V ⟨w.heap.size + 1, 0, none⟩ (.slice p1 s.cores.length c1 :: .slice p2 s.caches.length c2 :: (s.homes.flatMap homE.enc ++ [.slice p3 s.net.length c3])) := by
      rw [hW0] at hcl; exact cells_below hb hcl
    have ptr1 : some (Value.pointer (some ⟨(w.alloc (.cells wv.toArray 44)).heap.size, 0, none⟩)) = some (Value.pointer (some ⟨w.heap.size + 1, 0, none⟩)) := by rw [es]
    have hclE : Cells V ⟨(w.alloc (.cells wv.toArray 44)).heap.size, 0, none⟩ (.slice p1 s.cores.length c1 :: .slice p2 s.caches.length c2 :: (s.homes.flatMap homE.enc ++ [.slice p3 s.net.length c3])) := by rw [es]; exact hclV
    have hgV : Cells V ⟨w.heap.size, 10, none⟩ g.enc := by
      rw [hW0] at hgeo; exact cells_below hb hgeo
    refine And.intro (fun h => ?_) (fun h => ?_)
    · have h : geoR g = false := by
        have : (!geoR g) = true := h
        simpa using this
      refine And.intro (fun _ => ?_) (fun h => by cases h)
      refine And.intro (fun _ => ?_) (fun h => by cases h)
      exact ⟨true, ⟨.cons rfl (.cons ptr1 (.cons rfl .nil)), rfl⟩, by unfold fit4; rw [h]; rfl, hb⟩
    have h : geoR g = true := by
      have : (!geoR g) = false := h
      simpa using this
    refine ⟨_, cells_at hclE (i := 0) rfl, ?_⟩
    refine ⟨_, cells_at hgV (i := 0) rfl, ?_⟩
    refine And.intro (fun h1 => ?_) (fun h1 => ?_)
    · have h1 := nt h1
      refine And.intro (fun _ => ?_) (fun h => by cases h)
      exact ⟨true, ⟨.cons rfl (.cons ptr1 (.cons rfl .nil)), rfl⟩, by unfold fit4; rw [decide_eq_false h1]; simp, hb⟩
    have h1 := nf h1
    refine ⟨_, cells_at hclE (i := 1) rfl, ?_⟩
    refine ⟨_, cells_at hgV (i := 0) rfl, ?_⟩
    refine And.intro (fun h2 => ?_) (fun h2 => ?_)
    · have h2 := nt h2
      exact ⟨true, ⟨.cons rfl (.cons ptr1 (.cons rfl .nil)), rfl⟩, by unfold fit4; rw [decide_eq_false h2]; simp, hb⟩
    have h2 := nf h2
    refine ⟨_, cells_at hclE (i := 68) (sys_net hH), ?_⟩
    refine ⟨decide (64 < (s.net.length : Int)), ⟨.cons rfl (.cons ptr1 (.cons rfl .nil)), rfl⟩, ?_, hb⟩
    unfold fit4
    rw [h, decide_eq_true h1, decide_eq_true h2]
    by_cases h3 : s.net.length ≤ 64
    · rw [decide_eq_true h3, decide_eq_false (by omega)]; rfl
    · rw [decide_eq_false h3, decide_eq_true (by omega)]; rfl
  rintro b V ⟨rfl, hbV⟩
  have hclV : ∀ X, Below W0.heap.size W0 X → Cells X ⟨w.heap.size + 1, 0, none⟩ (.slice p1 s.cores.length c1 :: .slice p2 s.caches.length c2 :: (s.homes.flatMap homE.enc ++ [.slice p3 s.net.length c3])) := fun X hX => cells_below hX hcl
  have hwX : ∀ X, Below W0.heap.size W0 X → Below w.heap.size w X := fun X hX => hb0.trans (hX.mono hb0.size)
  refine And.intro (fun h => ?_) (fun h => ?_)
  · have h : fit4 g s = false := by
      have : (!fit4 g s) = true := h
      simpa using this
    exact ⟨rb (by unfold fitsB; rw [h]; rfl), hwX _ hbV⟩
  have h : fit4 g s = true := by
    have : (!fit4 g s) = false := h
    simpa using this
  have hf4 := h
  simp only [fit4, Bool.and_eq_true, decide_eq_true_eq] at h
  obtain ⟨⟨⟨hg, hc1⟩, hc2⟩, hc3⟩ := h
  have hgc := (geoR_spec hg).1
  obtain ⟨b1, o1, hp1, hat1⟩ := hco
  obtain ⟨b2, o2, hp2, hat2⟩ := hca
  refine ⟨Nat, fun k => ⟨[(2, .pointer (some ⟨w.heap.size, 0, none⟩)), (3, .pointer (some ⟨w.heap.size + 1, 0, none⟩)), (5, .int .i64 (k : Nat))], []⟩,
    fun k X => k ≤ s.cores.length ∧ (∀ c ∈ s.cores.take k, bufB c = true) ∧ (∀ c ∈ s.caches.take k, c.notes.all nteB = true) ∧ Below W0.heap.size W0 X, fun k => s.cores.length - k, 0, ⟨.cons rfl (.cons rfl (.cons rfl .nil)), rfl⟩, ⟨Nat.zero_le _, by simp, by simp, hbV⟩, ?_⟩
  rintro k X ⟨hk, hno, hmo, hX⟩
  dsimp only at hk hno hmo hX ⊢
  refine ⟨_, cells_at (hclV _ hX) (i := 0) rfl, ?_⟩
  refine And.intro (fun hc => ?_) (fun hc => ?_)
  · have hc : (k : Int) < s.cores.length := of_decide_eq_true hc
    have hks : k < s.cores.length := by omega
    have hkc : k < s.caches.length := by omega
    obtain ⟨pb, cb, hbB, hcb, _⟩ := (hat1 k hks).below (hX.mono (by have := hb0.size; omega))
    rcases hp1 with hp | hp
    · omega
    rcases hp2 with hq | hq
    · omega
    subst hp hq
    refine ⟨_, cells_at (hclV _ hX) (i := 0) rfl, ?_⟩
    refine ⟨k, rfl, hks, ?_⟩
    refine ⟨_, cells_at hcb (i := 9) rfl, ?_⟩
    refine And.intro (fun h5 => ?_) (fun h5 => ?_)
    · have h5 : (255 : Int) < s.cores[k].buf.length := of_decide_eq_true h5
      have hf : s.cores.all bufB = false := by
        rw [List.all_eq_false]
        exact ⟨s.cores[k], List.getElem_mem _, by unfold bufB; simp; omega⟩
      exact ⟨rb (by unfold fitsB; rw [hf]; simp), hwX _ hX⟩
    have h5 : ¬ (255 : Int) < s.cores[k].buf.length := of_decide_eq_false h5
    have hno' : ∀ c ∈ s.cores.take (k + 1), bufB c = true := by
      rw [List.take_succ_eq_append_getElem hks]
      intro c hc
      rcases List.mem_append.1 hc with hc | hc
      · exact hno c hc
      · simp only [List.mem_singleton] at hc
        subst hc
        unfold bufB; simp; omega
    clear hno h5 hcb hbB
    refine ⟨Nat, fun j => ⟨[(2, .pointer (some ⟨w.heap.size, 0, none⟩)), (3, .pointer (some ⟨w.heap.size + 1, 0, none⟩)), (5, .int .i64 (k : Nat)), (6, .int .i64 (j : Nat))], []⟩,
      fun j X => j ≤ 4 ∧ (∀ n ∈ s.caches[k].notes.take j, nteB n = true) ∧ Below W0.heap.size W0 X, fun j => 4 - j, 0, ⟨.cons rfl (.cons rfl (.cons rfl (.cons rfl .nil))), rfl⟩, ⟨Nat.zero_le _, by simp, hX⟩, ?_⟩
    rintro j Y ⟨hj, hnj, hY⟩
    dsimp only at hj hnj hY ⊢
    obtain ⟨hbB, hcb, hw16, hn4⟩ := (hat2 k hkc).below (hY.mono (by have := hb0.size; omega))
    refine And.intro (fun hc => ?_) (fun hc => ?_)
    · have hc : (j : Int) < 4 := of_decide_eq_true hc
      have hj4 : j < s.caches[k].notes.length := by omega
      have hnt := note_at hcb hw16 hj4
      have bad : nteB s.caches[k].notes[j] = false → fitsB g s = false := fun hb => by
        have hf : (s.caches.all fun c => c.notes.all nteB) = false := by
          rw [List.all_eq_false]
          refine ⟨s.caches[k], List.getElem_mem _, ?_⟩
          rw [Bool.not_eq_true, List.all_eq_false]
          exact ⟨_, List.getElem_mem hj4, by rw [hb]; simp⟩
        unfold fitsB; rw [hf]; simp
      refine ⟨_, cells_at (hclV _ hY) (i := 1) rfl, ?_⟩
      refine ⟨k, rfl, hkc, ?_⟩
      refine ⟨j, rfl, by omega, ?_⟩
      refine ⟨_, cells_at hnt (i := 1) rfl, ?_⟩
      refine And.intro (fun h5 => ?_) (fun h5 => ?_)
      · have h5 : s.caches[k].notes[j].ways < 0 := of_decide_eq_true h5
        refine And.intro (fun _ => ?_) (fun h => by cases h)
        exact ⟨rb (bad (by unfold nteB; rw [decide_eq_false (by omega)]; rfl)).symm, hwX _ hY⟩
      have h5 : ¬ s.caches[k].notes[j].ways < 0 := of_decide_eq_false h5
      refine ⟨_, cells_at (hclV _ hY) (i := 1) rfl, ?_⟩
      refine ⟨k, rfl, hkc, ?_⟩
      refine ⟨j, rfl, by omega, ?_⟩
      refine ⟨_, cells_at hnt (i := 1) rfl, ?_⟩
      refine And.intro (fun h6 => ?_) (fun h6 => ?_)
      · have h6 : (255 : Int) < s.caches[k].notes[j].ways := of_decide_eq_true h6
        exact ⟨rb (bad (by unfold nteB; rw [decide_eq_false (p := s.caches[k].notes[j].ways ≤ 255) (by omega)]; simp)).symm, hwX _ hY⟩
      have h6 : ¬ (255 : Int) < s.caches[k].notes[j].ways := of_decide_eq_false h6
      refine ⟨(j + 1 : Nat), (wrap_i64 (by omega)).trans (by omega), ?_⟩
      refine ⟨j + 1, ⟨.cons rfl (.cons rfl (.cons rfl (.cons rfl .nil))), rfl⟩, ⟨by omega, ?_, hY⟩, by first | omega | (dsimp only; omega)⟩
      rw [List.take_succ_eq_append_getElem hj4]
      intro c hc
      rcases List.mem_append.1 hc with hc | hc
      · exact hnj c hc
      · simp only [List.mem_singleton] at hc
        subst hc
        unfold nteB; rw [decide_eq_true (by omega), decide_eq_true (by omega)]; rfl
    · have hc : ¬ (j : Int) < 4 := of_decide_eq_false hc
      rw [List.take_of_length_le (by omega)] at hnj
      refine ⟨(k + 1 : Nat), (wrap_i64 (by omega)).trans (by omega), ?_⟩
      refine ⟨k + 1, ⟨.cons rfl (.cons rfl (.cons rfl .nil)), rfl⟩, ⟨hks, hno', ?_, hY⟩, by first | omega | (dsimp only; omega)⟩
      rw [List.take_succ_eq_append_getElem hkc]
      intro c hc
      rcases List.mem_append.1 hc with hc | hc
      · exact hmo c hc
      · simp only [List.mem_singleton] at hc
        subst hc
        exact List.all_eq_true.2 hnj
  · have hc : ¬ (k : Int) < s.cores.length := of_decide_eq_false hc
    have hkl : k = s.cores.length := by omega
    subst hkl
    rw [List.take_length] at hno
    rw [List.take_of_length_le (by omega)] at hmo
    have e1 := List.all_eq_true.2 hno
    have e2 : (s.caches.all fun c => c.notes.all nteB) = true := List.all_eq_true.2 hmo
    exact ⟨rb (by unfold fitsB; rw [hf4, e1, e2]; rfl), hwX _ hX⟩
end Go.Proofs.YtedeohcdcaimhaaGreatDoor
namespace Go.Proofs.YtedeohcdcaimhaaGreatDoor
open Go.Vc Go.RowKit Go.Sei

def les (a b : Msg) : Bool := decide (cmpL (codeOf a) (codeOf b) < 0)
/-! ### Bytes -/
theorem BytesR_c (m : Msg) (w : World) : Calls Tryz.prog 48 #[m.val] w fun e w' => ∃ g, e = .returned (.slice (some ⟨g, 0, none⟩) 11 11) ∧ w'.heap[g]? = some (.cells ((codeOf m).map u8).toArray 5 (0, 0)) ∧ w.heap.size ≤ g ∧ Below w.heap.size w w' := by
  refine calls_of_M (S := sg 32) (sgOk _) (args := [m.val]) (.s .p (.s .p (.c .p .p))) Tryz.func48 rfl rfl (Nat.le_of_ble_eq_true rfl) rfl ?_
  have hb0 : Below w.heap.size w (w.alloc (.cells m.val.cells 107)) := (Below.refl _ _).alloc (Nat.le_refl _) _
  have f0 := hnew w (.cells m.val.cells 107)
  have c0 := cells_block f0
  refine ⟨Unit, fun _ => ⟨[(1, .pointer (some ⟨w.heap.size, 0, none⟩)), (3, u8 (if m.alone then 1 else 0))], []⟩, fun _ V => V = w.alloc (.cells m.val.cells 107), ?_, ?_⟩
  · refine ⟨_, cells_at c0 (i := 6) rfl, ?_⟩
    refine And.intro (fun h => ?_) (fun h => ?_)
    · exact ⟨(), ⟨.cons rfl (.cons (by rw [h]; rfl) .nil), rfl⟩, rfl⟩
    · exact ⟨(), ⟨.cons rfl (.cons (by rw [h]; rfl) .nil), rfl⟩, rfl⟩
  rintro _ _ rfl
  refine ⟨_, cells_at c0 (i := 0) rfl, ?_⟩
  refine ⟨_, cells_at c0 (i := 1) rfl, ?_⟩
  refine ⟨_, cells_at c0 (i := 2) rfl, ?_⟩
  refine ⟨_, cells_at c0 (i := 3) rfl, ?_⟩
  refine ⟨_, cells_at c0 (i := 4) rfl, ?_⟩
  refine ⟨_, cells_at c0 (i := 5) rfl, ?_⟩
  refine ⟨0, rfl, by decide, ?_⟩
  refine ⟨_, cells_at c0 (i := 7) rfl, ?_⟩
  refine ⟨1, rfl, by decide, ?_⟩
  refine ⟨_, cells_at c0 (i := 8) rfl, ?_⟩
  refine ⟨2, rfl, by decide, ?_⟩
  refine ⟨_, cells_at c0 (i := 9) rfl, ?_⟩
  refine ⟨3, rfl, by decide, ?_⟩
  refine ⟨_, cells_at c0 (i := 10) rfl, ?_⟩
  refine ⟨⟨by decide, by decide, rfl⟩, (codeOf m).map u8, by kernel_rfl, ?_⟩
  exact ⟨_, rfl, hnew _ _, hb0.size, hb0.alloc hb0.size _⟩

/-! ### Class -/
def clsR (k : UInt8) : UInt8 := classOf k
theorem ClassR_c (k : UInt8) (w : World) : Calls Tryz.prog 106 #[u8 k] w fun e w' => e = .returned (u8 (classOf k)) ∧ w = w' := by
  have tab : ∀ n : Nat, n < 256 → classes.getD n 0 = if n = 1 ∨ n = 2 ∨ n = 3 then 1 else if n = 6 ∨ n = 7 ∨ n = 8 ∨ n = 9 then 2 else if n = 4 ∨ n = 5 ∨ n = 10 ∨ n = 11 ∨ n = 12 then 3 else 0 := by
    intro n hn
    have h : ((List.range 256).all fun n => decide (classes.getD n 0 = if n = 1 ∨ n = 2 ∨ n = 3 then 1 else if n = 6 ∨ n = 7 ∨ n = 8 ∨ n = 9 then 2 else if n = 4 ∨ n = 5 ∨ n = 10 ∨ n = 11 ∨ n = 12 then 3 else 0)) = true := by kernel_rfl
    exact of_decide_eq_true (List.all_eq_true.1 h n (List.mem_range.2 hn))
  have hc : classOf k = _ := tab k.toNat k.toNat_lt
  refine calls_of_E (S := sg 20) (sgOk _) (args := [u8 k]) Tryz.func106 rfl rfl (Nat.le_of_ble_eq_true rfl) rfl ?_
  refine ⟨_, wrap_u8_i64 k, ?_⟩
  have h13 : k.toNat = 0 ∨ k.toNat = 1 ∨ k.toNat = 2 ∨ k.toNat = 3 ∨ k.toNat = 4 ∨ k.toNat = 5 ∨ k.toNat = 6 ∨ k.toNat = 7 ∨ k.toNat = 8 ∨ k.toNat = 9 ∨ k.toNat = 10 ∨ k.toNat = 11 ∨ k.toNat = 12 ∨ 13 ≤ k.toNat := by omega
  rcases h13 with hk | hk | hk | hk | hk | hk | hk | hk | hk | hk | hk | hk | hk | hk
  all_goals
    repeat first
      | exact And.intro (by rw [hc]; simp [hk]; rfl) rfl
      | exact And.intro (by rw [hc, if_neg (by omega), if_neg (by omega), if_neg (by omega)]; rfl) rfl
      | refine And.intro (fun h => absurd (of_decide_eq_true h) (by omega)) (fun _ => ?_)
      | refine And.intro (fun _ => ?_) (fun h => absurd (of_decide_eq_false h) (by omega))

/-! ### Less -/
theorem cmpL_at : ∀ (a b : List UInt8) (i : Nat), a.length = b.length → (∀ j, j < i → a[j]? = b[j]?) → ∀ (h : i < a.length) (h2 : i < b.length), a[i] ≠ b[i] → (decide (cmpL a b < 0) = decide (a[i].toNat < b[i].toNat))
  | x :: r, y :: s, 0, _, _, _, _, hne => by
    have hne : x ≠ y := hne
    rw [decide_eq_decide, cmpL_lt_cons]
    exact ⟨fun h => h.elim id (fun h => absurd h.1 hne), .inl⟩
  | x :: r, y :: s, i + 1, hl, he, h, h2, hne => by
    have h0 : x = y := by simpa using he 0 (by omega)
    subst h0
    have ih := cmpL_at r s i (by simpa using hl) (fun j hj => by simpa using he (j + 1) (by omega)) (by simpa using h) (by simpa using h2) (by simpa using hne)
    have e : cmpL (x :: r) (x :: s) = cmpL r s := by rw [cmpL, if_pos rfl]
    rw [e, ih]; rfl
  | [], _, _, _, _, h, _, _ => absurd h (by simp)
  | _ :: _, [], _, _, _, _, h2, _ => absurd h2 (by simp)
theorem codeOf_len (m : Msg) : (codeOf m).length = 11 := rfl
theorem LessR_c (a b : Msg) (w : World) : Calls Tryz.prog 105 #[a.val, b.val] w fun e w' => e = .returned (.bool (les a b)) ∧ Below w.heap.size w w' := by
  refine calls_of_M (S := sg 34) (sgOk _) (args := [a.val, b.val]) (.s .p (.s .p (.c .p .p))) Tryz.func105 rfl rfl (Nat.le_of_ble_eq_true rfl) rfl ?_
  have hb0 : Below w.heap.size w ((w.alloc (.cells a.val.cells 107)).alloc (.cells b.val.cells 107)) := ((Below.refl _ _).alloc (Nat.le_refl _) _).alloc (by simp) _
  have fa := hold (.cells b.val.cells 107) (hnew w (.cells a.val.cells 107))
  have fb := hnew (w.alloc (.cells a.val.cells 107)) (.cells b.val.cells 107)
  refine ⟨a.enc, rfl, cells_block fa, hlt fa, ?_⟩
  refine Calls.mono (BytesR_c a _) ?_
  rintro e V ⟨g1, rfl, k1, _, hb1⟩
  have hw1 := hb0.trans (hb1.mono hb0.size)
  have fb1 := block_below hb1 fb
  refine ⟨Nat × Nat, fun g => ⟨[(5, .slice (some ⟨g.1, 0, none⟩) 11 11), (6, .slice (some ⟨g.2, 0, none⟩) 11 11)], []⟩, fun g X => X.heap[g.1]? = some (.cells ((codeOf a).map u8).toArray 5 (0, 0)) ∧ X.heap[g.2]? = some (.cells ((codeOf b).map u8).toArray 5 (0, 0)) ∧ Below w.heap.size w X, ?_, ?_⟩
  · refine ⟨b.enc, rfl, cells_block fb1, hlt fb1, ?_⟩
    refine Calls.mono (BytesR_c b _) ?_
    rintro e X ⟨g2, rfl, k2, _, hb2⟩
    exact ⟨(_, _), ⟨.cons rfl (.cons rfl .nil), rfl⟩, block_below hb2 k1, k2, hw1.trans (hb2.mono hw1.size)⟩
  clear hb1 hw1 fb1 k1
  rintro ⟨g1, g2⟩ X ⟨k1, k2, hb⟩
  dsimp only at k1 k2
  refine ⟨Nat, fun i => ⟨[(5, .slice (some ⟨g1, 0, none⟩) 11 11), (6, .slice (some ⟨g2, 0, none⟩) 11 11), (7, .int .i64 (i : Nat))], []⟩, fun i Y => i ≤ 11 ∧ (∀ j, j < i → (codeOf a)[j]? = (codeOf b)[j]?) ∧
    Y.heap[g1]? = some (.cells ((codeOf a).map u8).toArray 5 (0, 0)) ∧ Y.heap[g2]? = some (.cells ((codeOf b).map u8).toArray 5 (0, 0)) ∧ Below w.heap.size w Y, fun i => 11 - i, 0, ⟨.cons rfl (.cons rfl (.cons rfl .nil)), rfl⟩, ⟨by decide, fun _ h => absurd h (by omega), k1, k2, hb⟩, ?_⟩
  clear k1 k2 hb X
  rintro i X ⟨hi, heq, k1, k2, hb⟩
  refine And.intro (fun h => ?_) (fun h => ?_)
  · have h : (i : Int) < 11 := of_decide_eq_true h
    have ha : i < (codeOf a).length := by rw [codeOf_len]; omega
    have hb' : i < (codeOf b).length := by rw [codeOf_len]; omega
    have ca : ∀ {Y : World}, Y.heap[g1]? = some (.cells ((codeOf a).map u8).toArray 5 (0, 0)) → Y.cell? ⟨g1, 0 + i * 1, none⟩ = some (u8 ((codeOf a)[i]'ha)) := fun h => by
      rw [Nat.mul_one]; exact cells_at (cells_block h) (by simp [ha])
    have cb : ∀ {Y : World}, Y.heap[g2]? = some (.cells ((codeOf b).map u8).toArray 5 (0, 0)) → Y.cell? ⟨g2, 0 + i * 1, none⟩ = some (u8 ((codeOf b)[i]'hb')) := fun h => by
      rw [Nat.mul_one]; exact cells_at (cells_block h) (by simp [hb'])
    refine DrawE.ord [] [0, 1, 2, 3, 4, 5, 6, 7, 8] (by kernel_rfl) ?_
    refine ⟨i, rfl, by omega, ?_⟩
    refine ⟨_, ca (hdr k1), ?_⟩
    refine ⟨i, rfl, by omega, ?_⟩
    refine ⟨_, cb (hdr k2), ?_⟩
    refine And.intro (fun h1 => ?_) (fun h1 => ?_)
    · have h1 : ¬ (((codeOf a)[i]'ha).toNat : Int) = (((codeOf b)[i]'hb').toNat : Int) := by
        have : (!decide ((((codeOf a)[i]'ha).toNat : Int) = (((codeOf b)[i]'hb').toNat : Int))) = true := h1
        simpa using this
      refine DrawE.ord [] [0, 1, 2, 3, 4, 5, 6, 7, 8, 9] (by kernel_rfl) ?_
      refine ⟨i, rfl, by omega, ?_⟩
      refine ⟨_, ca (hdr (hdr k1)), ?_⟩
      refine ⟨i, rfl, by omega, ?_⟩
      refine ⟨_, cb (hdr (hdr k2)), ?_⟩
      refine And.intro (rb ?_) hb.drew.drew
      have := cmpL_at (codeOf a) (codeOf b) i rfl heq ha hb' (fun e => h1 (u8_eq.2 e))
      unfold les
      rw [this, decide_eq_decide]
      exact Int.ofNat_lt
    · have h1 : (((codeOf a)[i]'ha).toNat : Int) = (((codeOf b)[i]'hb').toNat : Int) := by
        have : (!decide ((((codeOf a)[i]'ha).toNat : Int) = (((codeOf b)[i]'hb').toNat : Int))) = false := h1
        simpa using this
      have h1 := u8_eq.1 h1
      refine ⟨((i + 1 : Nat) : Int), (wrap_i64 (by omega)).trans (by omega), ?_⟩
      refine ⟨i + 1, ⟨.cons rfl (.cons rfl (.cons rfl .nil)), rfl⟩, ⟨by omega, fun j hj => ?_, hdr k1, hdr k2, hb.drew⟩, by dsimp only; omega⟩
      by_cases e : j = i
      · subst e; rw [List.getElem?_eq_getElem ha, List.getElem?_eq_getElem hb', h1]
      · exact heq j (by omega)
  · have h : ¬ (i : Int) < 11 := of_decide_eq_false h
    refine And.intro (rb ?_) hb
    have : codeOf a = codeOf b := List.ext_getElem? fun j => by
      by_cases hj : j < 11
      · exact heq j (by omega)
      · rw [List.getElem?_eq_none (by rw [codeOf_len]; omega), List.getElem?_eq_none (by rw [codeOf_len]; omega)]
    unfold les; rw [this, cmpL_self]; rfl

end Go.Proofs.YtedeohcdcaimhaaGreatDoor
namespace Go.Proofs.YtedeohcdcaimhaaGreatDoor
open Go.Vc Go.RowKit Go.Sei
set_option linter.unusedVariables false

theorem sys_home {a b c : Value} {hs : List Hom} {X : World} {g : Nat} (h : Cells X ⟨g, 0, none⟩ (a :: b :: (hs.flatMap homE.enc ++ [c]))) {k : Nat} (hk : k < hs.length) : Cells X ⟨g, 0 + 2 + k * 11, none⟩ (homE.enc hs[k]) := by
  have h1 : Cells X ⟨g, 0 + 2, none⟩ (hs.flatMap homE.enc ++ [c]) := by
    have h2 : Cells X ⟨g, 0, none⟩ ([a, b] ++ (hs.flatMap homE.enc ++ [c])) := h
    exact (cells_app.1 h2).2
  rw [← flat_get (E := homE) hs k hk]
  exact cells_sub (cells_app.1 h1).1

theorem BytesR_s {wv vs : List Value} {g : Geo} {mode : UInt8} {s : Sy} {w : World} (hW : WorV wv g.enc mode) (hS : SysV w.heap.size w vs s) :
    Calls Tryz.prog 17 #[.agg wv.toArray, .agg vs.toArray] w fun e w' => ∃ p cap, e = .returned (.slice p (bytesL g s).length cap) ∧ OwnS byteE 5 w.heap.size w' p cap (bytesL g s) ∧ Below w.heap.size w w' := by
  refine calls_of_M (S := sg 78) (sgOk _) (args := [.agg wv.toArray, .agg vs.toArray]) (.s .p (.s .p (.s .p (.c .p (.c .p (.c .p (.s .p (.c .p .p)))))))) Tryz.func17 rfl rfl (Nat.le_of_ble_eq_true rfl) rfl ?_
  obtain ⟨W0, hW0⟩ : ∃ W0, (w.alloc (.cells wv.toArray 44)).alloc (.cells vs.toArray 58) = W0 := ⟨_, rfl⟩
  have hb0 : Below w.heap.size w W0 := by rw [← hW0]; exact ((Below.refl _ _).alloc (Nat.le_refl _) _).alloc (by simp) _
  have f0 : W0.heap[w.heap.size]? = some (.cells wv.toArray 44 (0, 0)) := by rw [← hW0]; exact hold _ (hnew w _)
  have es : (w.alloc (.cells wv.toArray 44)).heap.size = w.heap.size + 1 := World.size_alloc _ _
  have f1 : W0.heap[(w.alloc (.cells wv.toArray 44)).heap.size]? = some (.cells vs.toArray 58 (0, 0)) := by
    rw [← hW0]; exact hnew (w.alloc (.cells wv.toArray 44)) (.cells vs.toArray 58)
  have hS0 := (hS.below hb0).mono hb0.size
  have hvl := hS.len
  have hFit := FitsR_c hW hS0
  obtain ⟨gs, hgs⟩ : ∃ gs, gs = (w.alloc (.cells wv.toArray 44)).heap.size := ⟨_, rfl⟩
  rw [← hgs] at f1
  have first : ∀ (Q : Exit → Env → World → Prop) , True := fun _ => trivial
  clear first
  have hgw : w.heap.size ≤ gs := by rw [hgs, es]; omega
  have hsz0 := hb0.size
  have hwX : ∀ X, Below W0.heap.size W0 X → Below w.heap.size w X := fun X hX => hb0.trans (hX.mono hb0.size)
  have hgl : gs < W0.heap.size := hlt f1
  have hgl0 : w.heap.size < W0.heap.size := hlt f0
  obtain ⟨⟨p1, c1, p2, c2, p3, c3, hvs, hco, hca, hne, hnil⟩, h6⟩ := hS0
  have hH : (s.homes.flatMap homE.enc).length = 66 := by rw [flat_len, h6]; rfl
  have hcl : ∀ X, Below W0.heap.size W0 X → Cells X ⟨gs, 0, none⟩ (.slice p1 s.cores.length c1 :: .slice p2 s.caches.length c2 :: (s.homes.flatMap homE.enc ++ [.slice p3 s.net.length c3])) := fun X hX => by
    have := cells_block (block_below hX f1)
    rw [← hvs]; exact this
  subst hgs
  subst hW0
  refine ⟨wv, hW.len, cells_block f0, hgl0, ?_⟩
  refine ⟨vs, hvl, cells_block f1, hgl, ?_⟩
  refine Calls.mono hFit ?_
  rintro e V ⟨rfl, hbV⟩
  refine And.intro (fun h => ?_) (fun h => ?_)
  · have h : fitsB g s = false := by
      have : (!fitsB g s) = true := h
      simpa using this
    have e : bytesL g s = [] := by unfold bytesL; rw [h]; rfl
    rw [e]
    exact ⟨none, 0, rfl, .nil, hwX V hbV⟩
  have h : fitsB g s = true := by
    have : (!fitsB g s) = false := h
    simpa using this
  have e : bytesL g s = encSy s := by unfold bytesL; rw [h]; rfl
  rw [e]
  obtain ⟨h1, h2, _⟩ := fits_ok hS.okm h
  generalize hW0 : (w.alloc (.cells wv.toArray 44)).alloc (.cells vs.toArray 58) = W0 at *
  generalize hgs : (w.alloc (.cells wv.toArray 44)).heap.size = gs at *
  have hcN : s.cores.length ≤ 4 := by rw [h1.cores]; exact h2
  have hcaN : s.caches.length ≤ 4 := by rw [h1.caches]; exact h2
  have hbufs := bufs_le s.cores h1.cor
  have hlenC : ∀ k, ((s.cores.take k).flatMap encCor).length ≤ 2084 := fun k => by
    have hle : bufsL (s.cores.take k) ≤ 255 * (s.cores.take k).length := bufs_le _ fun c hc => h1.cor c (List.mem_of_mem_take hc)
    rw [cors_len]
    have : (s.cores.take k).length ≤ s.cores.length := by rw [List.length_take]; omega
    omega
  have hlenA : ∀ k, ((s.caches.take k).flatMap encCac).length ≤ 640 := fun k => by
    rw [cacs_len _ fun c hc => ⟨(h1.cac c (List.mem_of_mem_take hc)).1, (h1.cac c (List.mem_of_mem_take hc)).2.1⟩, List.length_take]; omega
  have hlenH : ∀ k, ((s.homes.take k).flatMap encHom).length ≤ 108 := fun k => by rw [homs_len, List.length_take]; omega
  have hlenN : ∀ k, ((s.net.take k).flatMap codeOf).length ≤ 704 := fun k => by rw [msgs_len, List.length_take]; have := h1.net; omega
  have hsz : ∀ {X : World}, Below W0.heap.size W0 X → W0.heap.size ≤ X.heap.size := fun hX => hX.size
  -- cores
  refine ⟨Option Addr × Nat, fun s' => ⟨[(3, .pointer (some ⟨gs, 0, none⟩)), (5, .slice s'.1 (s.cores.flatMap encCor).length s'.2)], []⟩, fun s' X => OwnS byteE 5 W0.heap.size X s'.1 s'.2 (s.cores.flatMap encCor) ∧ Below W0.heap.size W0 X, ?_, ?_⟩
  · refine ⟨Option Addr × Nat × Nat, fun s' => ⟨[(3, .pointer (some ⟨gs, 0, none⟩)), (5, .slice s'.1 ((s.cores.take s'.2.2).flatMap encCor).length s'.2.1), (6, .int .i64 (s'.2.2 : Nat))], []⟩, fun s' X => s'.2.2 ≤ s.cores.length ∧ OwnS byteE 5 W0.heap.size X s'.1 s'.2.1 ((s.cores.take s'.2.2).flatMap encCor) ∧ Below W0.heap.size W0 X, fun s' => s.cores.length - s'.2.2, (none, 0, 0),
      ⟨.cons (by show some (Value.pointer (some ⟨(w.alloc (.cells wv.toArray 44)).heap.size, 0, none⟩)) = _; rw [hgs]) (.cons rfl (.cons rfl .nil)), rfl⟩, ⟨Nat.zero_le _, .nil, hbV⟩, ?_⟩
    clear hbV V
    rintro ⟨q, cq, k⟩ X ⟨hk, ho, hX⟩
    dsimp only at hk ho hX ⊢
    refine ⟨_, cells_at (hcl X hX) (i := 0) rfl, ?_⟩
    refine And.intro (fun hc => ?_) (fun hc => ?_)
    · have hc : (k : Int) < s.cores.length := of_decide_eq_true hc
      have hkl : k < s.cores.length := by omega
      obtain ⟨xs, hxm, hxr, hxe⟩ := cors_rows (hco.below hX) (hsz hX)
      have hxl : k < xs.length := by rw [← hxm, List.length_map] at hkl; exact hkl
      have hxk : xs[k].1 = s.cores[k] := by
        have : (xs.map (·.1))[k]'(by rw [List.length_map]; exact hxl) = s.cores[k] := by congr 1
        rwa [List.getElem_map] at this
      rcases hxr with hx0 | ⟨b, o, rfl, hb, hc⟩
      · rw [hx0] at hxl; simp at hxl
      refine ⟨_, cells_at (hcl X hX) (i := 0) rfl, ?_⟩
      refine ⟨k, rfl, hkl, ?_⟩
      refine ⟨corE.enc xs[k], corE.len _, hc k hxl, hb, ?_⟩
      refine Calls.mono (coreR_c (x := xs[k]) ((hxe _ (List.getElem_mem _)).slr (hsz hX)) (by rw [hxk]; exact h1.cor _ (List.getElem_mem _))) ?_
      rintro e Y ⟨q2, d2, rfl, ho2, hbY⟩
      rw [hxk] at ho2 ⊢
      have hY := hX.trans (hbY.mono hX.size)
      have hl1 := hlenC k
      have hl2 : (encCor s.cores[k]).length ≤ 521 := by rw [cor_len]; have : s.cores[k].buf.length ≤ 255 := h1.cor _ (List.getElem_mem _); omega
      refine app_s (l := (s.cores.take k).flatMap encCor) (news := encCor s.cores[k]) (ho.below hbY) hY.size ho2.row (by omega) ?_
      intro q3 d3 Z ho3 hb3
      rw [← (take_flat encCor hkl).1] at ho3 ⊢
      refine ⟨(k + 1 : Nat), (wrap_i64 (by omega)).trans (by omega), ?_⟩
      exact ⟨(q3, d3, k + 1), ⟨.cons rfl (.cons rfl (.cons rfl .nil)), rfl⟩, ⟨hkl, ho3, hY.trans hb3⟩, by show s.cores.length - (k + 1) < s.cores.length - k; omega⟩
    · have hc : ¬ (k : Int) < s.cores.length := of_decide_eq_false hc
      obtain rfl : k = s.cores.length := by omega
      rw [List.take_length] at ho
      exact ⟨(q, cq), ⟨.cons rfl (.cons (by dsimp only; rw [List.take_length]; rfl) .nil), rfl⟩, ho, hX⟩
  clear hbV V
  rintro ⟨q1, d1⟩ V ⟨ho1, hbV⟩
  dsimp only at ho1 hbV ⊢
  have hl1 := hlenC s.cores.length
  rw [List.take_length] at hl1
  generalize hL1 : s.cores.flatMap encCor = L1 at *
  -- caches
  refine ⟨Option Addr × Nat, fun s' => ⟨[(3, .pointer (some ⟨gs, 0, none⟩)), (5, .slice s'.1 (L1 ++ s.caches.flatMap encCac).length s'.2)], []⟩, fun s' X => OwnS byteE 5 W0.heap.size X s'.1 s'.2 (L1 ++ s.caches.flatMap encCac) ∧ Below W0.heap.size W0 X, ?_, ?_⟩
  · refine ⟨Option Addr × Nat × Nat, fun s' => ⟨[(3, .pointer (some ⟨gs, 0, none⟩)), (5, .slice s'.1 (L1 ++ (s.caches.take s'.2.2).flatMap encCac).length s'.2.1), (7, .int .i64 (s'.2.2 : Nat))], []⟩, fun s' X => s'.2.2 ≤ s.caches.length ∧ OwnS byteE 5 W0.heap.size X s'.1 s'.2.1 (L1 ++ (s.caches.take s'.2.2).flatMap encCac) ∧ Below W0.heap.size W0 X, fun s' => s.caches.length - s'.2.2, (q1, d1, 0),
      ⟨.cons rfl (.cons (by show _ = some (Value.slice q1 (L1 ++ []).length d1); rw [List.append_nil]; rfl) (.cons rfl .nil)), rfl⟩, ⟨Nat.zero_le _, by simpa using ho1, hbV⟩, ?_⟩
    clear hbV V ho1
    rintro ⟨q, cq, k⟩ X ⟨hk, ho, hX⟩
    dsimp only at hk ho hX ⊢
    refine ⟨_, cells_at (hcl X hX) (i := 1) rfl, ?_⟩
    refine And.intro (fun hc => ?_) (fun hc => ?_)
    · have hc : (k : Int) < s.caches.length := of_decide_eq_true hc
      have hkl : k < s.caches.length := by omega
      obtain ⟨xs, hxm, hxr⟩ := cacs_rows (hca.below hX) (hsz hX)
      have hxl : k < xs.length := by rw [← hxm, List.length_map] at hkl; exact hkl
      have hxk : xs[k].1 = s.caches[k] := by
        have : (xs.map (·.1))[k]'(by rw [List.length_map]; exact hxl) = s.caches[k] := by congr 1
        rwa [List.getElem_map] at this
      rcases hxr with hx0 | ⟨b, o, rfl, hb, hc⟩
      · rw [hx0] at hxl; simp at hxl
      refine ⟨_, cells_at (hcl X hX) (i := 1) rfl, ?_⟩
      refine ⟨k, rfl, hkl, ?_⟩
      refine ⟨cacE.enc xs[k], cacE.len _, hc k hxl, hb, ?_⟩
      have hok := h1.cac _ (List.getElem_mem hkl)
      refine Calls.mono (cacheR_c (c := xs[k]) (by rw [hxk]; exact hok)) ?_
      rintro e Y ⟨q2, d2, rfl, ho2, hbY⟩
      rw [hxk] at ho2 ⊢
      have hY := hX.trans (hbY.mono hX.size)
      have hl1 := hlenA k
      have hl2 : (encCac s.caches[k]).length = 160 := cac_len hok.1 hok.2.1
      refine app_s (l := L1 ++ (s.caches.take k).flatMap encCac) (news := encCac s.caches[k]) (ho.below hbY) hY.size ho2.row (by rw [List.length_append]; omega) ?_
      intro q3 d3 Z ho3 hb3
      rw [List.append_assoc, ← (take_flat encCac hkl).1] at ho3 ⊢
      refine ⟨(k + 1 : Nat), (wrap_i64 (by omega)).trans (by omega), ?_⟩
      exact ⟨(q3, d3, k + 1), ⟨.cons rfl (.cons rfl (.cons rfl .nil)), rfl⟩, ⟨hkl, ho3, hY.trans hb3⟩, by show s.caches.length - (k + 1) < s.caches.length - k; omega⟩
    · have hc : ¬ (k : Int) < s.caches.length := of_decide_eq_false hc
      obtain rfl : k = s.caches.length := by omega
      rw [List.take_length] at ho
      exact ⟨(q, cq), ⟨.cons rfl (.cons (by dsimp only; rw [List.take_length]; rfl) .nil), rfl⟩, ho, hX⟩
  clear hbV V ho1 q1 d1
  rintro ⟨q1, d1⟩ V ⟨ho1, hbV⟩
  dsimp only at ho1 hbV ⊢
  have hl2 := hlenA s.caches.length
  rw [List.take_length] at hl2
  have hl12 : (L1 ++ s.caches.flatMap encCac).length ≤ 2724 := by rw [List.length_append]; omega
  generalize hL2 : L1 ++ s.caches.flatMap encCac = L2 at *
  -- directory entries
  refine ⟨Option Addr × Nat, fun s' => ⟨[(3, .pointer (some ⟨gs, 0, none⟩)), (5, .slice s'.1 (L2 ++ s.homes.flatMap encHom).length s'.2)], []⟩, fun s' X => OwnS byteE 5 W0.heap.size X s'.1 s'.2 (L2 ++ s.homes.flatMap encHom) ∧ Below W0.heap.size W0 X, ?_, ?_⟩
  · refine ⟨Option Addr × Nat × Nat, fun s' => ⟨[(3, .pointer (some ⟨gs, 0, none⟩)), (5, .slice s'.1 (L2 ++ (s.homes.take s'.2.2).flatMap encHom).length s'.2.1), (8, .int .i64 (s'.2.2 : Nat))], []⟩, fun s' X => s'.2.2 ≤ 6 ∧ OwnS byteE 5 W0.heap.size X s'.1 s'.2.1 (L2 ++ (s.homes.take s'.2.2).flatMap encHom) ∧ Below W0.heap.size W0 X, fun s' => 6 - s'.2.2, (q1, d1, 0),
      ⟨.cons rfl (.cons (by show _ = some (Value.slice q1 (L2 ++ []).length d1); rw [List.append_nil]; rfl) (.cons rfl .nil)), rfl⟩, ⟨Nat.zero_le _, by simpa using ho1, hbV⟩, ?_⟩
    clear hbV V ho1
    rintro ⟨q, cq, k⟩ X ⟨hk, ho, hX⟩
    dsimp only at hk ho hX ⊢
    refine And.intro (fun hc => ?_) (fun hc => ?_)
    · have hc : (k : Int) < 6 := of_decide_eq_true hc
      have hkl : k < s.homes.length := by omega
      refine ⟨k, rfl, by omega, ?_⟩
      refine ⟨homE.enc s.homes[k], homE.len _, sys_home (hcl X hX) hkl, (by have := hsz hX; show gs < _; omega), ?_⟩
      refine Calls.mono (homeR_c (h := s.homes[k])) ?_
      rintro e Y ⟨q2, d2, rfl, ho2, hbY⟩
      have hY := hX.trans (hbY.mono hX.size)
      have hl1 := hlenH k
      have hl2 : (encHom s.homes[k]).length = 18 := rfl
      refine app_s (l := L2 ++ (s.homes.take k).flatMap encHom) (news := encHom s.homes[k]) (ho.below hbY) hY.size ho2.row (by rw [List.length_append]; omega) ?_
      intro q3 d3 Z ho3 hb3
      rw [List.append_assoc, ← (take_flat encHom hkl).1] at ho3 ⊢
      refine ⟨(k + 1 : Nat), (wrap_i64 (by omega)).trans (by omega), ?_⟩
      exact ⟨(q3, d3, k + 1), ⟨.cons rfl (.cons rfl (.cons rfl .nil)), rfl⟩, ⟨by show k + 1 ≤ _; omega, ho3, hY.trans hb3⟩, by show 6 - (k + 1) < 6 - k; omega⟩
    · have hc : ¬ (k : Int) < 6 := of_decide_eq_false hc
      obtain rfl : k = 6 := by omega
      rw [List.take_of_length_le (by omega)] at ho
      exact ⟨(q, cq), ⟨.cons rfl (.cons (by dsimp only; rw [List.take_of_length_le (by omega)]; rfl) .nil), rfl⟩, ho, hX⟩
  clear hbV V ho1 q1 d1
  rintro ⟨q1, d1⟩ V ⟨ho1, hbV⟩
  dsimp only at ho1 hbV ⊢
  have hl3 := hlenH s.homes.length
  rw [List.take_length] at hl3
  have hl23 : (L2 ++ s.homes.flatMap encHom).length ≤ 2832 := by rw [List.length_append]; omega
  generalize hL3 : L2 ++ s.homes.flatMap encHom = L3 at *
  have hn64 := h1.net
  refine ⟨_, cells_at (hcl V hbV) (i := 68) (sys_net hH), ?_⟩
  refine ⟨((UInt8.ofNat s.net.length).toNat : Int), (wrap_u8 (by omega)).trans (by rw [UInt8.toNat_ofNat']; omega), ?_⟩
  refine ⟨⟨by decide, by decide, rfl⟩, [u8 (UInt8.ofNat s.net.length)], rfl, ?_⟩
  refine app_b (l := L3) (news := [UInt8.ofNat s.net.length]) (ho1.alloc _) (by have := hbV.size; simp; omega) cells_new (by simp only [List.length_append, List.length_cons, List.length_nil]; omega) ?_
  intro q2 d2 U ho2 hb2 hat2
  have hU := (hbV.alloc hbV.size _).trans hb2
  clear ho1 hb2 hat2
  have hl4 : (L3 ++ [UInt8.ofNat s.net.length]).length ≤ 2833 := by rw [List.length_append]; simp; omega
  generalize hL4 : L3 ++ [UInt8.ofNat s.net.length] = L4 at *
  -- messages
  refine ⟨Option Addr × Nat, fun s' => ⟨[(5, .slice s'.1 (L4 ++ s.net.flatMap codeOf).length s'.2)], []⟩, fun s' X => OwnS byteE 5 W0.heap.size X s'.1 s'.2 (L4 ++ s.net.flatMap codeOf) ∧ Below W0.heap.size W0 X, ?_, ?_⟩
  · refine ⟨Option Addr × Nat × Nat, fun s' => ⟨[(3, .pointer (some ⟨gs, 0, none⟩)), (5, .slice s'.1 (L4 ++ (s.net.take s'.2.2).flatMap codeOf).length s'.2.1), (9, .int .i64 (s'.2.2 : Nat))], []⟩, fun s' X => s'.2.2 ≤ s.net.length ∧ OwnS byteE 5 W0.heap.size X s'.1 s'.2.1 (L4 ++ (s.net.take s'.2.2).flatMap codeOf) ∧ Below W0.heap.size W0 X, fun s' => s.net.length - s'.2.2, (q2, d2, 0),
      ⟨.cons rfl (.cons (by show _ = some (Value.slice q2 (L4 ++ []).length d2); rw [List.append_nil]; rfl) (.cons rfl .nil)), rfl⟩, ⟨Nat.zero_le _, by simpa using ho2, hU⟩, ?_⟩
    clear hbV V ho2 hU U
    rintro ⟨q, cq, k⟩ X ⟨hk, ho, hX⟩
    dsimp only at hk ho hX ⊢
    refine ⟨_, cells_at (hcl X hX) (i := 68) (sys_net hH), ?_⟩
    refine And.intro (fun hc => ?_) (fun hc => ?_)
    · have hc : (k : Int) < s.net.length := of_decide_eq_true hc
      have hkl : k < s.net.length := by omega
      have hr : SlR Msg.E X p3 s.net := (hne.below hX).slr (hsz hX)
      rcases hr with hx0 | ⟨b, o, rfl, hb, hc⟩
      · rw [hx0] at hkl; simp at hkl
      refine ⟨_, cells_at (hcl X hX) (i := 68) (sys_net hH), ?_⟩
      refine ⟨k, rfl, hkl, ?_⟩
      refine ⟨Msg.E.enc s.net[k], Msg.E.len _, hc k hkl, hb, ?_⟩
      refine Calls.mono (BytesR_c s.net[k] X) ?_
      rintro e Y ⟨g2, rfl, hg2, _, hbY⟩
      have hY := hX.trans (hbY.mono hX.size)
      have hl1 := hlenN k
      have hl2 : (codeOf s.net[k]).length = 11 := rfl
      refine app_s (l := L4 ++ (s.net.take k).flatMap codeOf) (news := codeOf s.net[k]) (ho.below hbY) hY.size (SlR.of_cells (hlt hg2) (by rw [bytes_flat]; exact cells_block hg2)) (by rw [List.length_append]; omega) ?_
      intro q3 d3 Z ho3 hb3
      rw [List.append_assoc, ← (take_flat codeOf hkl).1] at ho3 ⊢
      refine ⟨(k + 1 : Nat), (wrap_i64 (by omega)).trans (by omega), ?_⟩
      exact ⟨(q3, d3, k + 1), ⟨.cons rfl (.cons rfl (.cons rfl .nil)), rfl⟩, ⟨hkl, ho3, hY.trans hb3⟩, by show s.net.length - (k + 1) < s.net.length - k; omega⟩
    · have hc : ¬ (k : Int) < s.net.length := of_decide_eq_false hc
      obtain rfl : k = s.net.length := by omega
      rw [List.take_length] at ho
      exact ⟨(q, cq), ⟨.cons (by dsimp only; rw [List.take_length]; rfl) .nil, rfl⟩, ho, hX⟩
  clear hbV V ho2 hU U q2 d2
  rintro ⟨q1, d1⟩ V ⟨ho1, hbV⟩
  dsimp only at ho1 hbV ⊢
  have e4 : L4 ++ s.net.flatMap codeOf = encSy s := by
    rw [← hL4, ← hL3, ← hL2, ← hL1]; unfold encSy; simp only [List.append_assoc, List.cons_append, List.nil_append]
  rw [e4] at ho1 ⊢
  exact ⟨q1, d1, rfl, own_weak ho1 hb0.size, hwX V hbV⟩
end Go.Proofs.YtedeohcdcaimhaaGreatDoor
