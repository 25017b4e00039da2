/- Strings as bytes. Law22: the decoder's bytes: next, one, most, flag, end. Law22: the decoder reads a store, a line, a note. Law22: the decoder reads a note. Law22: the decoder reads a core. Law22: the decoder reads a cache. Law22: the decoder reads a directory entry. Law22: SameStores, SameCore, SameCores, SameCaches, SameSys. Law22: SameCore, SameCores, SameCaches, SameSys. Law22: Key, Same. Law17: msg.Read. Law22: the decoder reads a message; the closures of Read. Law22: Read's deferred closure. Law22: Read. Law22: world, empty, great. Law22: awake. Law22: readings opened: numbers, messages, bytes. -/
import Derived.Test.YtedeohcdcaimhaaGreatDoorZ2
import Derived.Laws.BytesArg
import Derived.Laws.Strings
import Derived.Test.YtedeohcdcaimhaaGreatDoorZ1
import Derived.Laws.CopyRow
import Derived.Laws.MakeOwn
import Derived.Test.YtedeohcdcaimhaaGreatDoorZ3
import Derived.Test.YtedeohcdcaimhaaGreatDoorRows
import Derived.ProofKit
import Derived.OpenShut
import Derived.LaidLaws
import Derived.Below
import Derived.HandedShaped
set_option linter.unusedSimpArgs false
namespace Go.Proofs.YtedeohcdcaimhaaGreatDoor
open Go.Vc Go.RowKit Go.Sei

/-- A string of these bytes. -/
def bs (l : List UInt8) : ByteArray := ⟨l.toArray⟩
def strV (l : List UInt8) : Value := .string (bs l)
theorem bs_list (l : List UInt8) : (bs l).data.toList = l := rfl
theorem bs_inj {a b : List UInt8} (h : bs a = bs b) : a = b := by
  have := congrArg (fun x : ByteArray => x.data.toList) h
  exact this
theorem eql_str (x y : Operand) (a b : List UInt8) (w : World) : (do eqGuard .eql 9 x y (strV a) (strV b); binOp .eql 9 (strV a) (strV b)).run Tryz.prog w = .ok (.bool (decide (a = b))) w := by
  have h1 : (eqGuard .eql 9 x y (strV a) (strV b)).run Tryz.prog w = .ok () w := rfl
  rw [Sem.run_bind, h1, Result.andThen_ok]
  show (Op.stringOp .eql (bs a) (bs b)).run Tryz.prog w = _
  simp only [Op.stringOp, Sem.run_pure, ByteArray.toList_eq, bs_list]
  have hd : (a == b) = decide (a = b) := by by_cases h : a = b <;> simp [h]
  rw [hd]
theorem neq_str (x y : Operand) (a b : List UInt8) (w : World) : (do eqGuard .neq 9 x y (strV a) (strV b); binOp .neq 9 (strV a) (strV b)).run Tryz.prog w = .ok (.bool (!decide (a = b))) w := by
  have h1 : (eqGuard .neq 9 x y (strV a) (strV b)).run Tryz.prog w = .ok () w := rfl
  rw [Sem.run_bind, h1, Result.andThen_ok]
  show (Op.stringOp .neq (bs a) (bs b)).run Tryz.prog w = _
  simp only [Op.stringOp, Sem.run_pure, ByteArray.toList_eq, bs_list]
  have hd : (a == b) = decide (a = b) := by by_cases h : a = b <;> simp [h]
  rw [hd]
theorem strOfNums_u8 (l : List UInt8) : strOfNums (l.map fun b => (b.toNat : Int)) = bs l := by
  unfold strOfNums bs
  congr 2
  rw [List.map_map]
  conv => rhs; rw [← List.map_id l]
  refine List.map_congr_left fun b _ => ?_
  simp
theorem conv_arg {w : World} {p : Option Addr} {cap : Nat} {l : List UInt8} (h : SlR byteE w p l) (w2 : World) (hb : Below w.heap.size w w2) :
    (convert 23 9 (.slice p l.length cap)).run Tryz.prog w2 = .ok (strV l) w2 := by
  have h2 := h.below hb
  cases p with
  | none =>
    have hl : l = [] := h2.none
    subst hl
    exact run_convert_bytes_nil (P := Tryz.prog) (w := w2) 23 5 Tryz.underlying23 Tryz.underlying5 0 cap 9 Tryz.underlying9
  | some a =>
    cases l with
    | nil =>
      obtain ⟨b, o, f⟩ := a
      have := run_convert_bytes_string w2 23 9 5 (some ⟨b, o, f⟩) 0 cap Tryz.underlying23 Tryz.underlying5 Tryz.underlying9
      rw [show ([] : List UInt8).length = 0 from rfl, this]
      rfl
    | cons x r =>
      obtain ⟨b, o, hp, hbk, hcl⟩ := h2.at (i := 0) (by simp)
      obtain rfl := Option.some.inj hp
      have := run_convert_bytes_arg (P := Tryz.prog) w2 23 5 Tryz.underlying23 Tryz.underlying5 b o (x :: r).length cap ((x :: r).map fun b => (b.toNat : Int)) (by simp) (fun i hi => by
        have h3 : w2.cell? ⟨b, o + i * 1, none⟩ = some (u8 ((x :: r)[i]'hi)) := cells_head (hcl i hi)
        rw [Nat.mul_one] at h3
        have h4 : ((x :: r).map fun b => (b.toNat : Int)).getD i 0 = (((x :: r)[i]'hi).toNat : Int) := by
          rw [List.getD_eq_getElem?_getD, List.getElem?_map, List.getElem?_eq_getElem hi]; rfl
        rw [h3, h4]; rfl) 9 Tryz.underlying9
      rw [this, strOfNums_u8]; rfl
end Go.Proofs.YtedeohcdcaimhaaGreatDoor
namespace Go.Proofs.YtedeohcdcaimhaaGreatDoor
open Go.Vc Go.RowKit Go.Sei

/-- Only the blocks of L are written, and no block of cells changes its size. -/
structure Fr (L : List Nat) (w w' : World) : Prop where
  os : w'.os = w.os
  tape : w'.tape = w.tape
  output : w'.output = w.output
  size : w.heap.size ≤ w'.heap.size
  same : ∀ k, k < w.heap.size → k ∉ L → w'.heap[k]? = w.heap[k]?
  sz : ∀ (k : Nat) (cs : Array Value) (T : TypeId), w.heap[k]? = some (.cells cs T (0, 0)) → ∃ cs', w'.heap[k]? = some (.cells cs' T (0, 0)) ∧ cs'.size = cs.size
theorem Fr.refl (L : List Nat) (w : World) : Fr L w w := ⟨rfl, rfl, rfl, Nat.le_refl _, fun _ _ _ => rfl, fun _ cs _ h => ⟨cs, h, rfl⟩⟩
theorem Fr.trans {L : List Nat} {a b c : World} (h : Fr L a b) (k : Fr L b c) : Fr L a c :=
  ⟨k.os.trans h.os, k.tape.trans h.tape, k.output.trans h.output, Nat.le_trans h.size k.size, fun i hi hl => (k.same i (Nat.lt_of_lt_of_le hi h.size) hl).trans (h.same i hi hl), fun i cs T hc => by
    obtain ⟨c1, h1, h2⟩ := h.sz i cs T hc
    obtain ⟨c2, h3, h4⟩ := k.sz i c1 T h1
    exact ⟨c2, h3, h4.trans h2⟩⟩
theorem Fr.mono {L L' : List Nat} {a b : World} (h : Fr L a b) (hl : ∀ k, k < a.heap.size → k ∈ L → k ∈ L') : Fr L' a b :=
  ⟨h.os, h.tape, h.output, h.size, fun i hi hn => h.same i hi fun hm => hn (hl i hi hm), h.sz⟩
theorem Fr.of_below {L : List Nat} {a b : World} (h : Below a.heap.size a b) : Fr L a b :=
  ⟨h.os, h.tape, h.output, h.size, fun i hi _ => h.block i hi, fun _ cs _ hc => ⟨cs, block_below h hc, rfl⟩⟩
theorem Fr.below {L : List Nat} {a b : World} {B : Nat} (h : Fr L a b) (hB : B ≤ a.heap.size) (hl : ∀ k ∈ L, B ≤ k) : Below B a b :=
  ⟨h.os, h.tape, h.output, h.size, fun k hk => h.same k (by omega) fun hm => by have := hl k hm; omega⟩
theorem Fr.setRow {w : World} {g : Nat} {cs cs' : Array Value} {T : TypeId} (hg : w.heap[g]? = some (.cells cs T (0, 0))) (hs : cs'.size = cs.size) : Fr [g] w (w.setRow g cs') := by
  refine ⟨rfl, rfl, rfl, by simp, fun k _ hk => setRow_old (by simpa using hk), fun k c T' hc => ?_⟩
  by_cases e : k = g
  · subst e
    rw [hg] at hc
    cases hc
    exact ⟨cs', setRow_new hg, hs⟩
  · exact ⟨c, (setRow_old e).trans hc, rfl⟩
theorem Fr.cell {L : List Nat} {a b : World} (h : Fr L a b) {k : Nat} {o : Obj} (hk : a.heap[k]? = some o) (hn : k ∉ L) : b.heap[k]? = some o := (h.same k (hlt hk) hn).trans hk

/-- A panic of the decoder's. -/
def PanOk (ch : List PanicEntry) : Prop := ∃ te pv, ch = [{ v := .iface te pv, recovered := false }]

/-- The decoder: its box g, the bytes that are left. -/
def DecB (B : Nat) (g : Nat) (rest : List UInt8) (w : World) : Prop :=
  ∃ p cap, w.heap[g]? = some (.cells #[.slice p rest.length cap] 81 (0, 0)) ∧ RowB byteE B w p rest ∧ rest.length ≤ cap ∧ rest.length ≤ 1000000000 ∧ B ≤ g
theorem DecB.lt {B g : Nat} {rest : List UInt8} {w : World} (h : DecB B g rest w) : B ≤ g ∧ g < w.heap.size := by
  obtain ⟨p, cap, h1, _, _, _, h2⟩ := h
  exact ⟨h2, hlt h1⟩
theorem DecB.fr {B g : Nat} {rest : List UInt8} {L : List Nat} {w w' : World} (h : DecB B g rest w) (hf : Fr L w w') (hg : g ∉ L) (hB : ∀ k ∈ L, B ≤ k) : DecB B g rest w' := by
  have := h.lt
  obtain ⟨p, cap, h1, h2, h3, h4, h5⟩ := h
  exact ⟨p, cap, hf.cell h1 hg, h2.below (hf.below (by omega) hB), h3, h4, h5⟩

theorem RowB.cut {B : Nat} {w : World} {p : Option Addr} {l : List UInt8} (h : RowB byteE B w p l) {cap n : Nat} (hn : n ≤ l.length) (hc : l.length ≤ cap) : RowB byteE B w (cutBase p cap n 1) (l.drop n) := by
  by_cases h0 : l.drop n = []
  · exact .inl h0
  rcases h with rfl | ⟨b, o, rfl, hlt, hcl⟩
  · simp at h0
  · have hnl : n < l.length := by rcases Nat.lt_or_ge n l.length with h | h; exact h; exact absurd (List.drop_of_length_le h) h0
    refine .inr ⟨b, o + n, ?_, hlt, ?_⟩
    · unfold cutBase
      rw [if_neg (by omega)]
      simp [add_none']
    · have h1 := flat_sub' (E := byteE) l n
      rw [← h1]
      have e : n * byteE.sz = n := Nat.mul_one n
      rw [e]
      have h2 := cells_sub (n := n) (m := (l.flatMap byteE.enc).length) hcl
      rwa [List.take_of_length_le (by rw [List.length_drop]; omega)] at h2
where
  flat_sub' {α : Type} {E : Enc α} : ∀ (l : List α) (k : Nat), (l.flatMap E.enc).drop (k * E.sz) = (l.drop k).flatMap E.enc
    | [], k => by simp
    | a :: r, 0 => by simp
    | a :: r, k + 1 => by
      have e : (k + 1) * E.sz = (E.enc a).length + k * E.sz := by rw [E.len, Nat.add_mul]; omega
      rw [List.flatMap_cons, e, ← List.drop_drop, List.drop_left, flat_sub' r k]; rfl
theorem RowB.take {B : Nat} {w : World} {p : Option Addr} {l : List UInt8} (h : RowB byteE B w p l) (n : Nat) : RowB byteE B w p (l.take n) := by
  rcases h with rfl | ⟨b, o, rfl, hlt, hcl⟩
  · exact .inl (by simp)
  · refine .inr ⟨b, o, rfl, hlt, ?_⟩
    have : l.flatMap byteE.enc = (l.take n).flatMap byteE.enc ++ (l.drop n).flatMap byteE.enc := by rw [← List.flatMap_append, List.take_append_drop]
    rw [this] at hcl
    exact (cells_app.1 hcl).1

theorem mkI (s : ByteArray) (w : World) : (Instr.makeInterface 9 (.string s)).run Tryz.prog w = .ok (.iface 9 (.string s)) w := by
  simp [Instr.makeInterface, run_underlying Tryz.underlying9]

theorem Next_c {B g : Nat} {rest : List UInt8} {w : World} (hD : DecB B g rest w) (n : Nat) (hn : n ≤ 1000000000) :
    CallR Tryz.prog 64 #[.pointer (some ⟨g, 0, none⟩), .int .i64 (n : Nat)] w
      (fun v w' => n ≤ rest.length ∧ (∃ p cap, v = .slice p n cap ∧ RowB byteE B w' p (rest.take n) ∧ n ≤ cap) ∧ DecB B g (rest.drop n) w' ∧ Fr [g] w w') (fun ch w' => rest.length < n ∧ PanOk ch ∧ Fr [g] w w') := by
  refine calls_of_E (S := sg 30) (sgOk _) (args := [.pointer (some ⟨g, 0, none⟩), .int .i64 (n : Nat)]) Tryz.func64 rfl rfl (Nat.le_of_ble_eq_true rfl) rfl ?_
  have hgB := hD.lt
  obtain ⟨p, cap, fg, hr, hc, hl, hB⟩ := hD
  refine ⟨_, cells_at (cells_block fg) (i := 0) rfl, ?_⟩
  refine And.intro (fun h => ?_) (fun h => ?_)
  · have h : (rest.length : Int) < n := of_decide_eq_true h
    refine SatR.mk (mkI _ _) ?_
    refine ⟨_, _, rfl, ?_⟩
    exact ⟨rfl, by omega, ⟨_, _, rfl⟩, Fr.refl _ _⟩
  · have h : ¬ (rest.length : Int) < n := of_decide_eq_false h
    have hnl : n ≤ rest.length := by omega
    refine ⟨_, cells_at (cells_block fg) (i := 0) rfl, ?_⟩
    refine ⟨n, rfl, by omega, ?_⟩
    refine ⟨_, cells_at (cells_block fg) (i := 0) rfl, ?_⟩
    refine ⟨n, rfl, by omega, ?_⟩
    refine store_box (v := .slice (cutBase p cap n 1) (rest.length - n) (cap - n)) (ttOk.get 23 _ rfl) fg (by rfl) rfl (by rfl) ?_
    have hfr : Fr [g] w (w.setRow g (Value.slice (cutBase p cap n 1) (rest.length - n) (cap - n)).cells) := Fr.setRow fg rfl
    have hbl := hfr.below (B := B) (by omega) (fun k hk => by simp at hk; omega)
    refine ⟨hnl, ⟨cutBase p cap 0 1, cap - 0, rfl, by rw [cutBase_zero]; exact (hr.take n).below hbl, by omega⟩, ⟨cutBase p cap n 1, cap - n, ?_, (hr.cut hnl hc).below hbl, by rw [List.length_drop]; omega, by rw [List.length_drop]; omega, hB⟩, hfr⟩
    rw [List.length_drop]
    exact setRow_new fg

theorem One_c {B g : Nat} {rest : List UInt8} {w : World} (hD : DecB B g rest w) :
    CallR Tryz.prog 63 #[.pointer (some ⟨g, 0, none⟩)] w
      (fun v w' => ∃ x r, rest = x :: r ∧ v = u8 x ∧ DecB B g r w' ∧ Fr [g] w w') (fun ch w' => rest = [] ∧ PanOk ch ∧ Fr [g] w w') := by
  refine calls_of_E (S := sg 7) (sgOk _) (args := [.pointer (some ⟨g, 0, none⟩)]) Tryz.func63 rfl rfl (Nat.le_of_ble_eq_true rfl) rfl ?_
  refine CallR.imp (Next_c hD 1 (by decide)) ?_ ?_
  · rintro v V ⟨h1, ⟨p, cap, rfl, hr, _⟩, hD2, hf⟩
    match rest, h1 with
    | x :: r, _ =>
      have hr : RowB byteE B V p [x] := by simpa using hr
      rcases hr with h | ⟨b, o, rfl, hlt, hcl⟩
      · cases h
      refine ⟨0, rfl, by decide, ?_⟩
      refine ⟨_, cells_at hcl (i := 0) rfl, ?_⟩
      exact ⟨x, r, rfl, rfl, by simpa using hD2, hf⟩
  · rintro ch V ⟨h1, h2, h3⟩
    exact ⟨rfl, List.eq_nil_of_length_eq_zero (by omega), h2, h3⟩

theorem Most_c {B g : Nat} {rest : List UInt8} {w : World} (hD : DecB B g rest w) (m : UInt8) :
    CallR Tryz.prog 33 #[.pointer (some ⟨g, 0, none⟩), u8 m] w
      (fun v w' => ∃ x r, rest = x :: r ∧ x.toNat ≤ m.toNat ∧ v = u8 x ∧ DecB B g r w' ∧ Fr [g] w w') (fun ch w' => (∀ x r, rest = x :: r → ¬ x.toNat ≤ m.toNat) ∧ PanOk ch ∧ Fr [g] w w') := by
  refine calls_of_E (S := sg 13) (sgOk _) (args := [.pointer (some ⟨g, 0, none⟩), u8 m]) Tryz.func33 rfl rfl (Nat.le_of_ble_eq_true rfl) rfl ?_
  refine CallR.imp (One_c hD) ?_ ?_
  · rintro v V ⟨x, r, rfl, rfl, hD2, hf⟩
    refine And.intro (fun h => ?_) (fun h => ?_)
    · have h : (m.toNat : Int) < x.toNat := of_decide_eq_true h
      refine SatR.mk (mkI _ _) ?_
      refine ⟨_, _, rfl, ?_⟩
      refine ⟨rfl, fun y s e => ?_, ⟨_, _, rfl⟩, hf⟩
      cases e
      omega
    · have h : ¬ (m.toNat : Int) < x.toNat := of_decide_eq_false h
      exact ⟨x, r, rfl, by omega, rfl, hD2, hf⟩
  · rintro ch V ⟨rfl, h2, h3⟩
    exact ⟨rfl, fun x r e => (by cases e), h2, h3⟩

theorem Flag_c {B g : Nat} {rest : List UInt8} {w : World} (hD : DecB B g rest w) :
    CallR Tryz.prog 71 #[.pointer (some ⟨g, 0, none⟩)] w
      (fun v w' => ∃ x r, rest = x :: r ∧ x.toNat ≤ 1 ∧ v = .bool (decide (x.toNat = 1)) ∧ DecB B g r w' ∧ Fr [g] w w') (fun ch w' => (∀ x r, rest = x :: r → ¬ x.toNat ≤ 1) ∧ PanOk ch ∧ Fr [g] w w') := by
  refine calls_of_E (S := sg 6) (sgOk _) (args := [.pointer (some ⟨g, 0, none⟩)]) Tryz.func71 rfl rfl (Nat.le_of_ble_eq_true rfl) rfl ?_
  refine CallR.imp (Most_c hD 1) ?_ ?_
  · rintro v V ⟨x, r, rfl, hx, rfl, hD2, hf⟩
    refine ⟨x, r, rfl, hx, ?_, hD2, hf⟩
    have : decide ((x.toNat : Int) = ((1 : UInt8).toNat : Int)) = decide (x.toNat = 1) := by rw [decide_eq_decide]; show (x.toNat : Int) = 1 ↔ _; omega
    exact congrArg Value.bool this
  · rintro ch V ⟨h1, h2, h3⟩
    exact ⟨rfl, h1, h2, h3⟩

theorem End_c {B g : Nat} {rest : List UInt8} {w : World} (hD : DecB B g rest w) :
    CallR Tryz.prog 37 #[.pointer (some ⟨g, 0, none⟩)] w (fun _ w' => rest = [] ∧ Fr [g] w w') (fun ch w' => rest ≠ [] ∧ PanOk ch ∧ Fr [g] w w') := by
  refine calls_of_E (S := sg 9) (sgOk _) (args := [.pointer (some ⟨g, 0, none⟩)]) Tryz.func37 rfl rfl (Nat.le_of_ble_eq_true rfl) rfl ?_
  obtain ⟨p, cap, fg, hr, hc, hl, hB⟩ := hD
  refine ⟨_, cells_at (cells_block fg) (i := 0) rfl, ?_⟩
  refine And.intro (fun h => ?_) (fun h => ?_)
  · have h : ¬ (rest.length : Int) = 0 := by simpa using h
    refine SatR.mk (mkI _ _) ?_
    refine ⟨_, _, rfl, ?_⟩
    exact ⟨rfl, fun e => h (by rw [e]; rfl), ⟨_, _, rfl⟩, Fr.refl _ _⟩
  · have h : (rest.length : Int) = 0 := by simpa using h
    exact ⟨List.eq_nil_of_length_eq_zero (by omega), Fr.refl _ _⟩
end Go.Proofs.YtedeohcdcaimhaaGreatDoor
namespace Go.Proofs.YtedeohcdcaimhaaGreatDoor
open Go.Vc Go.RowKit Go.Sei

/-- Block b: M behind A, ahead of Z. -/
def Blk (w : World) (b : Nat) (T : TypeId) (A M Z : List Value) : Prop := w.heap[b]? = some (.cells (A ++ M ++ Z).toArray T (0, 0))
theorem Blk.fr {L : List Nat} {w w' : World} {b : Nat} {T : TypeId} {A M Z : List Value} (h : Blk w b T A M Z) (hf : Fr L w w') (hb : b ∉ L) : Blk w' b T A M Z := hf.cell h hb
theorem Blk.cells {w : World} {b : Nat} {T : TypeId} {A M Z : List Value} (h : Blk w b T A M Z) {o : Nat} (hA : A.length = o) : Cells w ⟨b, o, none⟩ M := by
  have h1 := cells_block h
  rw [List.append_assoc] at h1
  have h2 := (cells_app.1 (cells_app.1 h1).2).1
  rw [hA, Nat.zero_add] at h2
  exact h2
theorem set_mid {A M Z : List Value} {o i : Nat} {v : Value} (hA : A.length = o) (hi : i < M.length) : (A ++ M ++ Z).take (o + i) ++ [v] ++ (A ++ M ++ Z).drop (o + i + 1) = A ++ M.set i v ++ Z := by
  subst hA
  rw [List.append_assoc A M Z, List.take_length_add_append, Nat.add_assoc, List.drop_length_add_append, List.take_append_of_le_length (by omega), List.drop_append_of_le_length (by omega), List.set_eq_take_append_cons_drop, if_pos hi]
  simp
theorem sets_mid {A M Z vs : List Value} {o i n : Nat} (hA : A.length = o) (hn : vs.length = n) (hi : i + n ≤ M.length) : (A ++ M ++ Z).take (o + i) ++ vs ++ (A ++ M ++ Z).drop (o + i + n) = A ++ (M.take i ++ vs ++ M.drop (i + n)) ++ Z := by
  subst hA
  rw [List.append_assoc A M Z, List.take_length_add_append, Nat.add_assoc, List.drop_length_add_append, List.take_append_of_le_length (by omega), List.drop_append_of_le_length (by omega)]
  simp
theorem Fr.inl {b g : Nat} {w w' : World} (h : Fr [b] w w') : Fr [b, g] w w' := h.mono fun k _ hk => by simp at hk; simp [hk]
theorem Fr.inr {b g : Nat} {w w' : World} (h : Fr [g] w w') : Fr [b, g] w w' := h.mono fun k _ hk => by simp at hk; simp [hk]
section
variable {P : Program} {w : World} {b o i : Nat} {T : TypeId} {A M Z : List Value}
theorem st_cell {Te : TypeId} {iT : TI} (hT : TIok P Te iT) (hs : iT.size = 1) (hb : Blk w b T A M Z) (hA : A.length = o) (hi : i < M.length) {v : Value} (hv : v.cells = #[v]) (h1 : v.oneCell' = true) {K : World → Prop}
    (k : ∀ w', Blk w' b T A (M.set i v) Z → Fr [b] w w' → K w') : SatR ((storeVar Te ⟨b, o + i, none⟩ v).run P w) fun _ w' => K w' := by
  obtain ⟨⟨inf, hinf, hsz, _, _⟩, _⟩ := hT
  have hst := run_storeCells_at P b (o + i) T [v] 0 _ w hb (by simp; omega) (by simp [h1])
  have hrun : (sizeOf Te).run P w = .ok iT.size w := by simp [sizeOf, typeInfo, hinf, hsz]
  refine SatR.mk (v := ()) (w' := w.setRow b (A ++ M.set i v ++ Z).toArray) ?_ (k _ (setRow_new hb) (Fr.setRow hb (by simp)))
  simp only [storeVar, Sem.run_bind, hrun, Result.andThen_ok, hv, hs]
  have e := set_mid (A := A) (M := M) (Z := Z) (v := v) hA hi
  rw [← e]
  simpa using hst
theorem st_agg {Te : TypeId} {iT : TI} {n : Nat} (hT : TIok P Te iT) (hs : iT.size = n) (hb : Blk w b T A M Z) (hA : A.length = o) {vs : List Value} (hn : vs.length = n) (hi : i + n ≤ M.length) (h1 : ∀ u ∈ vs, u.oneCell' = true) {K : World → Prop}
    (k : ∀ w', Blk w' b T A (M.take i ++ vs ++ M.drop (i + n)) Z → Fr [b] w w' → K w') : SatR ((storeVar Te ⟨b, o + i, none⟩ (.agg vs.toArray)).run P w) fun _ w' => K w' := by
  obtain ⟨⟨inf, hinf, hsz, _, _⟩, _⟩ := hT
  have hst := run_storeCells_at P b (o + i) T vs 0 _ w hb (by simp; omega) h1
  have hrun : (sizeOf Te).run P w = .ok iT.size w := by simp [sizeOf, typeInfo, hinf, hsz]
  refine SatR.mk (v := ()) (w' := w.setRow b (A ++ (M.take i ++ vs ++ M.drop (i + n)) ++ Z).toArray) ?_ (k _ (setRow_new hb) (Fr.setRow hb (by simp; omega)))
  have e := sets_mid (A := A) (M := M) (Z := Z) hA hn hi
  rw [← e]
  simp only [storeVar, Sem.run_bind, hrun, Result.andThen_ok]
  have hc : (Value.agg vs.toArray).cells = vs.toArray := rfl
  rw [hc]
  simp only [List.size_toArray, hn, hs, ne_eq, not_true_eq_false, if_false]
  rw [hst]
  simp [hn]
theorem cp_blk {dT sT ty B dCap n cap : Nat} {p : Option Addr} {news : List UInt8} {iT : TI} (hu : P.underlying dT = some (.slice 5)) (hT : TIok P 5 iT) (hs : iT.size = 1) (hb : Blk w b T A M Z) (hA : A.length = o) (hn : news.length = n) (h0 : 0 < n) (hi : i + n ≤ M.length) (hr : RowB byteE B w p news)
    {K : Value → World → Prop} (k : ∀ v w', Blk w' b T A (M.take i ++ news.map u8 ++ M.drop (i + n)) Z → Fr [b] w w' → K v w') : SatR ((Builtin.copy_ #[dT, sT] ty #[.slice (some ⟨b, o + i, none⟩) n dCap, .slice p n cap]).run P w) K := by
  obtain ⟨⟨inf, hinf, hsz, _, _⟩, _⟩ := hT
  rcases hr with h | ⟨bb, oo, rfl, hlt, hcl⟩
  · rw [h] at hn; simp at hn; omega
  have hsi : (P.info? 5).map (·.size) = some 1 := by rw [hinf]; simp [hsz, hs]
  rw [bytes_flat] at hcl
  have hrun := run_copy_row (P := P) w dT sT ty 5 b (o + i) n dCap ⟨bb, oo, none⟩ n cap _ T (news.map u8) hu hsi hb (by simp [hn]) (fun j v hv => hcl j v hv) (by simp; omega) (by simp [u8, Value.oneCell'])
  have e := sets_mid (A := A) (M := M) (Z := Z) (vs := news.map u8) hA (by simp [hn]) hi
  have hl : (news.map u8).length = n := by simp [hn]
  have e2 : (A ++ M ++ Z).toArray.toList = A ++ M ++ Z := rfl
  rw [hl, e2, e] at hrun
  exact SatR.mk hrun (k _ _ (setRow_new hb) (Fr.setRow hb (by simp; omega)))
theorem make_full {t : TypeId} {iT : TI} {z : List Value} {kl kc : IntKind} (hu : P.underlying t = some (.slice T)) (hT : TIok P T iT) (hz : iT.zero = some z) (n : Nat) (h1 : iT.bytes * n ≤ 281474976710656) (h63 : n ≤ 9223372036854775807) {K : Value → World → Prop}
    (k : ∀ w' cs, cs.length = n * iT.size → Blk w' w.heap.size T [] cs [] → Below w.heap.size w w' → w'.heap.size = w.heap.size + 1 → K (.slice (some ⟨w.heap.size, 0, none⟩) n n) w') :
    SatR ((Instr.makeSlice t (.int kl (n : Int)) (.int kc (n : Int))).run P w) K := by
  obtain ⟨⟨inf, hi, hsz, hby, hzz⟩, _⟩ := hT
  obtain ⟨zv, hzv, hzc⟩ := hzz z hz
  have h63' : (n : Int) ≤ 9223372036854775807 := by omega
  have hb' : (inf.bytes : Int) * (n : Int) ≤ 281474976710656 := by
    have h : ((inf.bytes * n : Nat) : Int) ≤ 281474976710656 := by rw [hby]; omega
    rwa [Int.natCast_mul] at h
  have hr := run_make (P := P) w t T inf zv hu hi hzv kl kc n n (by omega) (Int.le_refl _) hb' h63'
  simp only [Int.toNat_natCast] at hr
  refine SatR.mk hr (k _ (madeCells zv.cells (n * inf.size)).toList (by rw [← hsz]; simpa using size_madeCells _ _) ?_ ((Below.refl _ _).alloc (Nat.le_refl _) _) (by simp))
  unfold Blk
  have := hnew w (.cells (madeCells zv.cells (n * inf.size)) T)
  simpa using this
end

/-- The box of the decoder's pointer. -/
def PBox (w : World) (ep g : Nat) : Prop := w.heap[ep]? = some (.cells #[.pointer (some ⟨g, 0, none⟩)] 127 (0, 0))

theorem decSto_c {B g b o ep : Nat} {T : TypeId} {A M Z : List Value} {rest : List UInt8} {w : World} (hD : DecB B g rest w) (hp : PBox w ep g) (hb : Blk w b T A M Z) (hA : A.length = o) (hM : M.length = 2) (hbg : b ≠ g) (hep : ep ≠ b ∧ ep ≠ g) (hB : B ≤ b) :
    CallR Tryz.prog 66 #[.pointer (some ⟨b, o, none⟩), .pointer (some ⟨ep, 0, none⟩)] w
      (fun _ w' => ∃ x r, decSto rest = some (x, r) ∧ Blk w' b T A (stoE.enc x) Z ∧ DecB B g r w' ∧ Fr [b, g] w w') (fun ch w' => decSto rest = none ∧ PanOk ch ∧ Fr [b, g] w w') := by
  refine calls_of_E (S := sg 17) (sgOk _) (args := [.pointer (some ⟨b, o, none⟩), .pointer (some ⟨ep, 0, none⟩)]) Tryz.func66 rfl rfl (Nat.le_of_ble_eq_true rfl) rfl ?_
  match M, hM with
  | [m0, m1], _ =>
  refine ⟨_, cells_at (cells_block hp) (i := 0) rfl, ?_⟩
  refine CallR.imp (One_c hD) ?_ (fun ch w' ⟨h1, h2, h3⟩ => ⟨rfl, by rw [h1]; rfl, h2, h3.inr⟩)
  rintro v V1 ⟨x0, r0, rfl, rfl, hD1, hf1⟩
  refine st_cell (i := 0) (ttOk.get 5 _ rfl) rfl (hb.fr hf1 (by simpa using hbg)) hA (by simp) rfl rfl ?_
  intro V2 hb2 hf2
  have hD2 := hD1.fr hf2 (by simpa using hbg.symm) (by simpa using hB)
  have hf12 : Fr [b, g] w V2 := hf1.inr.trans hf2.inl
  have hp2 : PBox V2 ep g := hf12.cell hp (by simp [hep])
  refine ⟨_, cells_at (cells_block hp2) (i := 0) rfl, ?_⟩
  refine CallR.imp (One_c hD2) ?_ (fun ch w' ⟨h1, h2, h3⟩ => ⟨rfl, by rw [h1]; rfl, h2, hf12.trans h3.inr⟩)
  rintro v V3 ⟨x1, r1, rfl, rfl, hD3, hf3⟩
  refine st_cell (i := 1) (ttOk.get 5 _ rfl) rfl (hb2.fr hf3 (by simpa using hbg)) hA (by simp) rfl rfl ?_
  intro V4 hb4 hf4
  exact ⟨⟨x0, x1⟩, r1, rfl, hb4, hD3.fr hf4 (by simpa using hbg.symm) (by simpa using hB), hf12.trans (hf3.inr.trans hf4.inl)⟩

theorem split4 {l : List UInt8} (h : 4 ≤ l.length) : ∃ a b c d r, l = a :: b :: c :: d :: r := by
  match l, h with
  | a :: b :: c :: d :: r, _ => exact ⟨a, b, c, d, r, rfl⟩
theorem len8 {l : List Value} (h : l.length = 8) : ∃ a b c d e f g k, l = [a, b, c, d, e, f, g, k] := by
  match l, h with
  | [a, b, c, d, e, f, g, k], _ => exact ⟨a, b, c, d, e, f, g, k, rfl⟩
theorem len7 {l : List Value} (h : l.length = 7) : ∃ a b c d e f g, l = [a, b, c, d, e, f, g] := by
  match l, h with
  | [a, b, c, d, e, f, g], _ => exact ⟨a, b, c, d, e, f, g, rfl⟩
theorem wrap_i8 (x : UInt8) : IntKind.i8.wrap (x.toNat : Int) = s8 x := by
  unfold IntKind.wrap s8
  simp only [IntKind.bits, IntKind.signed, Bool.true_and, show ((2 : Int) ^ 8) = 256 from rfl, show ((2 : Int) ^ (8 - 1)) = 128 from rfl]
  have := x.toNat_lt
  by_cases h : x.toNat < 128
  · rw [if_neg (by simp; omega), if_pos h]; omega
  · rw [if_pos (by simp; omega), if_neg h]; omega
theorem lin_len {rest : List UInt8} {y : Lin × List UInt8} (h : decLin rest = some y) : 8 ≤ rest.length ∧ ∀ a b c d r, rest = a :: b :: c :: d :: r → d.toNat ≤ 1 := by
  unfold decLin at h
  split at h
  · split at h
    · rename_i h1
      refine ⟨by simp only [List.length_cons]; omega, ?_⟩
      rintro _ _ _ _ _ e
      cases e
      exact h1
    · cases h
  · cases h
theorem lin_none {rest : List UInt8} (h : rest.length < 8 ∨ ∃ a b c d r, rest = a :: b :: c :: d :: r ∧ ¬ d.toNat ≤ 1) : decLin rest = none := by
  cases hd : decLin rest with
  | none => rfl
  | some y =>
    obtain ⟨h1, h2⟩ := lin_len hd
    rcases h with h | ⟨a, b, c, d, r, h3, h4⟩
    · omega
    · exact absurd (h2 a b c d r h3) h4
theorem lin_flag {x0 x1 x2 : UInt8} {r2 : List UInt8} (h : ∀ x r, r2 = x :: r → ¬ x.toNat ≤ 1) : decLin (x0 :: x1 :: x2 :: r2) = none := by
  refine lin_none ?_
  cases r2 with
  | nil => exact .inl (by simp)
  | cons y s => exact .inr ⟨_, _, _, y, s, rfl, h y s rfl⟩
theorem nte_none {rest : List UInt8} (h : rest.length < 7) : decNte rest = none := by
  unfold decNte
  split
  · simp only [List.length_cons] at h; omega
  · rfl

theorem decLin_c {B g b o ep : Nat} {T : TypeId} {A M Z : List Value} {rest : List UInt8} {w : World} (hD : DecB B g rest w) (hp : PBox w ep g) (hb : Blk w b T A M Z) (hA : A.length = o) (hM : M.length = 8) (hbg : b ≠ g) (hep : ep ≠ b ∧ ep ≠ g) (hB : B ≤ b) :
    CallR Tryz.prog 70 #[.pointer (some ⟨b, o, none⟩), .pointer (some ⟨ep, 0, none⟩)] w
      (fun _ w' => ∃ x r, decLin rest = some (x, r) ∧ Blk w' b T A (linE.enc x) Z ∧ DecB B g r w' ∧ Fr [b, g] w w') (fun ch w' => decLin rest = none ∧ PanOk ch ∧ Fr [b, g] w w') := by
  refine calls_of_M (S := sg 41) (sgOk _) (args := [.pointer (some ⟨b, o, none⟩), .pointer (some ⟨ep, 0, none⟩)]) (.c .p (.c .p (.c .p (.c .p .p)))) Tryz.func70 rfl rfl (Nat.le_of_ble_eq_true rfl) rfl ?_
  have nb : b ∉ [g] := by simpa using hbg
  have ng : g ∉ [b] := by simpa using hbg.symm
  have nB : ∀ k ∈ [b], B ≤ k := by simpa using hB
  have ne : ep ∉ [b, g] := by simp [hep]
  obtain ⟨m0, m1, m2, m3, m4, m5, m6, m7, rfl⟩ := len8 hM
  refine ⟨Unit, fun _ => ⟨[(0, .pointer (some ⟨b, o, none⟩)), (1, .pointer (some ⟨ep, 0, none⟩))], []⟩, fun _ V => ∃ x0 r0, rest = x0 :: r0 ∧ DecB B g r0 V ∧ Blk V b T A [u8 x0, m1, m2, m3, m4, m5, m6, m7] Z ∧ Fr [b, g] w V, ?_, ?_⟩
  · refine ⟨_, cells_at (cells_block hp) (i := 0) rfl, ?_⟩
    refine CallR.imp (One_c hD) ?_ (fun ch w' ⟨h1, h2, h3⟩ => ⟨rfl, lin_none (.inl (by rw [h1]; simp)), h2, h3.inr⟩)
    rintro v V1 ⟨x0, r0, rfl, rfl, hD1, hf1⟩
    refine st_cell (i := 0) (ttOk.get 5 _ rfl) rfl (hb.fr hf1 nb) hA (by simp) rfl rfl ?_
    intro V2 hb2 hf2
    exact ⟨(), ⟨.cons rfl (.cons rfl .nil), rfl⟩, x0, r0, rfl, hD1.fr hf2 ng nB, hb2, hf1.inr.trans hf2.inl⟩
  rintro _ V ⟨x0, r0, rfl, hD, hb, hf⟩
  refine ⟨Unit, fun _ => ⟨[(0, .pointer (some ⟨b, o, none⟩)), (1, .pointer (some ⟨ep, 0, none⟩))], []⟩, fun _ V => ∃ x1 r1, r0 = x1 :: r1 ∧ DecB B g r1 V ∧ Blk V b T A [u8 x0, u8 x1, m2, m3, m4, m5, m6, m7] Z ∧ Fr [b, g] w V, ?_, ?_⟩
  · refine ⟨_, cells_at (cells_block (hf.cell hp ne)) (i := 0) rfl, ?_⟩
    refine CallR.imp (One_c hD) ?_ (fun ch w' ⟨h1, h2, h3⟩ => ⟨rfl, lin_none (.inl (by rw [h1]; simp)), h2, hf.trans h3.inr⟩)
    rintro v V1 ⟨x1, r1, rfl, rfl, hD1, hf1⟩
    refine st_cell (i := 1) (ttOk.get 5 _ rfl) rfl (hb.fr hf1 nb) hA (by simp) rfl rfl ?_
    intro V2 hb2 hf2
    exact ⟨(), ⟨.cons rfl (.cons rfl .nil), rfl⟩, x1, r1, rfl, hD1.fr hf2 ng nB, hb2, hf.trans (hf1.inr.trans hf2.inl)⟩
  rintro _ V ⟨x1, r1, rfl, hD, hb, hf⟩
  refine ⟨Unit, fun _ => ⟨[(0, .pointer (some ⟨b, o, none⟩)), (1, .pointer (some ⟨ep, 0, none⟩))], []⟩, fun _ V => ∃ x2 r2, r1 = x2 :: r2 ∧ DecB B g r2 V ∧ Blk V b T A [u8 x0, u8 x1, .int .i8 (s8 x2), m3, m4, m5, m6, m7] Z ∧ Fr [b, g] w V, ?_, ?_⟩
  · refine ⟨_, cells_at (cells_block (hf.cell hp ne)) (i := 0) rfl, ?_⟩
    refine CallR.imp (One_c hD) ?_ (fun ch w' ⟨h1, h2, h3⟩ => ⟨rfl, lin_none (.inl (by rw [h1]; simp)), h2, hf.trans h3.inr⟩)
    rintro v V1 ⟨x2, r2, rfl, rfl, hD1, hf1⟩
    refine ⟨_, wrap_i8 x2, ?_⟩
    refine st_cell (i := 2) (ttOk.get 86 _ rfl) rfl (hb.fr hf1 nb) hA (by simp) rfl rfl ?_
    intro V2 hb2 hf2
    exact ⟨(), ⟨.cons rfl (.cons rfl .nil), rfl⟩, x2, r2, rfl, hD1.fr hf2 ng nB, hb2, hf.trans (hf1.inr.trans hf2.inl)⟩
  rintro _ V ⟨x2, r2, rfl, hD, hb, hf⟩
  refine ⟨Unit, fun _ => ⟨[(0, .pointer (some ⟨b, o, none⟩)), (1, .pointer (some ⟨ep, 0, none⟩))], []⟩, fun _ V => ∃ x3 r3, r2 = x3 :: r3 ∧ x3.toNat ≤ 1 ∧ DecB B g r3 V ∧ Blk V b T A [u8 x0, u8 x1, .int .i8 (s8 x2), .bool (decide (x3.toNat = 1)), m4, m5, m6, m7] Z ∧ Fr [b, g] w V, ?_, ?_⟩
  · refine ⟨_, cells_at (cells_block (hf.cell hp ne)) (i := 0) rfl, ?_⟩
    refine CallR.imp (Flag_c hD) ?_ (fun ch w' ⟨h1, h2, h3⟩ => ⟨rfl, lin_flag h1, h2, hf.trans h3.inr⟩)
    rintro v V1 ⟨x3, r3, rfl, hx3, rfl, hD1, hf1⟩
    refine st_cell (i := 3) (ttOk.get 4 _ rfl) rfl (hb.fr hf1 nb) hA (by simp) rfl rfl ?_
    intro V2 hb2 hf2
    exact ⟨(), ⟨.cons rfl (.cons rfl .nil), rfl⟩, x3, r3, rfl, hx3, hD1.fr hf2 ng nB, hb2, hf.trans (hf1.inr.trans hf2.inl)⟩
  rintro _ V ⟨x3, r3, rfl, hx3, hD, hb, hf⟩
  refine DrawE.ord [7, 8] [0, 1, 2, 3, 4, 5, 6, 7, 8] (by kernel_rfl) ?_
  refine ⟨_, cells_at (cells_block (hdr (hf.cell hp ne))) (i := 0) rfl, ?_⟩
  refine CallR.imp (Next_c (hD.fr (Fr.of_below (L := []) (Below.refl _ V).drew) (by simp) (by simp)) 4 (by decide)) ?_ (fun ch w' ⟨h1, h2, h3⟩ => ⟨rfl, lin_none (.inl (by simp only [List.length_cons]; omega)), h2, hf.trans ((Fr.of_below (Below.refl _ V).drew).trans h3.inr)⟩)
  rintro v V1 ⟨h4, ⟨p, cap, rfl, hr, _⟩, hD1, hf1⟩
  have hf1 : Fr [g] V V1 := (Fr.of_below (Below.refl _ V).drew).trans hf1
  obtain ⟨y0, y1, y2, y3, r4, rfl⟩ := split4 h4
  refine cp_blk (i := 4) (news := [y0, y1, y2, y3]) Tryz.underlying23 (ttOk.get 5 _ rfl) rfl (hb.fr hf1 nb) hA rfl (by simp) (by simp) hr ?_
  intro _ V2 hb2 hf2
  have hD2 := hD1.fr hf2 ng nB
  exact ⟨⟨x0, x1, x2, decide (x3.toNat = 1), y0, y1, y2, y3⟩, r4, by simp only [decLin, if_pos hx3], hb2, hD2, hf.trans (hf1.inr.trans hf2.inl)⟩
end Go.Proofs.YtedeohcdcaimhaaGreatDoor
namespace Go.Proofs.YtedeohcdcaimhaaGreatDoor
open Go.Vc Go.RowKit Go.Sei

theorem decNte_c {B g b o ep : Nat} {T : TypeId} {A M Z : List Value} {rest : List UInt8} {w : World} (hD : DecB B g rest w) (hp : PBox w ep g) (hb : Blk w b T A M Z) (hA : A.length = o) (hM : M.length = 7) (hbg : b ≠ g) (hep : ep ≠ b ∧ ep ≠ g) (hB : B ≤ b) :
    CallR Tryz.prog 73 #[.pointer (some ⟨b, o, none⟩), .pointer (some ⟨ep, 0, none⟩)] w
      (fun _ w' => ∃ x r, decNte rest = some (x, r) ∧ Blk w' b T A (nteE.enc x) Z ∧ DecB B g r w' ∧ Fr [b, g] w w') (fun ch w' => decNte rest = none ∧ PanOk ch ∧ Fr [b, g] w w') := by
  refine calls_of_M (S := sg 34) (sgOk _) (args := [.pointer (some ⟨b, o, none⟩), .pointer (some ⟨ep, 0, none⟩)]) (.c .p (.c .p (.c .p .p))) Tryz.func73 rfl rfl (Nat.le_of_ble_eq_true rfl) rfl ?_
  have nb : b ∉ [g] := by simpa using hbg
  have ng : g ∉ [b] := by simpa using hbg.symm
  have nB : ∀ k ∈ [b], B ≤ k := by simpa using hB
  have ne : ep ∉ [b, g] := by simp [hep]
  obtain ⟨m0, m1, m2, m3, m4, m5, m6, rfl⟩ := len7 hM
  refine ⟨Unit, fun _ => ⟨[(0, .pointer (some ⟨b, o, none⟩)), (1, .pointer (some ⟨ep, 0, none⟩))], []⟩, fun _ V => ∃ x0 r0, rest = x0 :: r0 ∧ DecB B g r0 V ∧ Blk V b T A [u8 x0, m1, m2, m3, m4, m5, m6] Z ∧ Fr [b, g] w V, ?_, ?_⟩
  · refine ⟨_, cells_at (cells_block hp) (i := 0) rfl, ?_⟩
    refine CallR.imp (One_c hD) ?_ (fun ch w' ⟨h1, h2, h3⟩ => ⟨rfl, nte_none (by rw [h1]; simp), h2, h3.inr⟩)
    rintro v V1 ⟨x0, r0, rfl, rfl, hD1, hf1⟩
    refine st_cell (i := 0) (ttOk.get 5 _ rfl) rfl (hb.fr hf1 nb) hA (by simp) rfl rfl ?_
    intro V2 hb2 hf2
    exact ⟨(), ⟨.cons rfl (.cons rfl .nil), rfl⟩, x0, r0, rfl, hD1.fr hf2 ng nB, hb2, hf1.inr.trans hf2.inl⟩
  rintro _ V ⟨x0, r0, rfl, hD, hb, hf⟩
  refine ⟨Unit, fun _ => ⟨[(0, .pointer (some ⟨b, o, none⟩)), (1, .pointer (some ⟨ep, 0, none⟩))], []⟩, fun _ V => ∃ x1 r1, r0 = x1 :: r1 ∧ DecB B g r1 V ∧ Blk V b T A [u8 x0, i64v x1.toNat, m2, m3, m4, m5, m6] Z ∧ Fr [b, g] w V, ?_, ?_⟩
  · refine ⟨_, cells_at (cells_block (hf.cell hp ne)) (i := 0) rfl, ?_⟩
    refine CallR.imp (One_c hD) ?_ (fun ch w' ⟨h1, h2, h3⟩ => ⟨rfl, nte_none (by rw [h1]; simp), h2, hf.trans h3.inr⟩)
    rintro v V1 ⟨x1, r1, rfl, rfl, hD1, hf1⟩
    refine ⟨(x1.toNat : Int), wrap_u8_i64 x1, ?_⟩
    refine st_cell (i := 1) (ttOk.get 3 _ rfl) rfl (hb.fr hf1 nb) hA (by simp) rfl rfl ?_
    intro V2 hb2 hf2
    exact ⟨(), ⟨.cons rfl (.cons rfl .nil), rfl⟩, x1, r1, rfl, hD1.fr hf2 ng nB, hb2, hf.trans (hf1.inr.trans hf2.inl)⟩
  rintro _ V ⟨x1, r1, rfl, hD, hb, hf⟩
  refine ⟨Unit, fun _ => ⟨[(0, .pointer (some ⟨b, o, none⟩)), (1, .pointer (some ⟨ep, 0, none⟩))], []⟩, fun _ V => ∃ y0 y1 y2 y3 r2, r1 = y0 :: y1 :: y2 :: y3 :: r2 ∧ DecB B g r2 V ∧ Blk V b T A [u8 x0, i64v x1.toNat, u8 y0, u8 y1, u8 y2, u8 y3, m6] Z ∧ Fr [b, g] w V, ?_, ?_⟩
  · refine DrawE.ord [7, 8] [0, 1, 2, 3, 4, 5, 6, 7, 8] (by kernel_rfl) ?_
    refine ⟨_, cells_at (cells_block (hdr (hf.cell hp ne))) (i := 0) rfl, ?_⟩
    refine CallR.imp (Next_c (hD.fr (Fr.of_below (L := []) (Below.refl _ V).drew) (by simp) (by simp)) 4 (by decide)) ?_ (fun ch w' ⟨h1, h2, h3⟩ => ⟨rfl, nte_none (by simp only [List.length_cons]; omega), h2, hf.trans ((Fr.of_below (Below.refl _ V).drew).trans h3.inr)⟩)
    rintro v V1 ⟨h4, ⟨p, cap, rfl, hr, _⟩, hD1, hf1⟩
    have hf1 : Fr [g] V V1 := (Fr.of_below (Below.refl _ V).drew).trans hf1
    obtain ⟨y0, y1, y2, y3, r2, rfl⟩ := split4 h4
    refine cp_blk (i := 2) (news := [y0, y1, y2, y3]) Tryz.underlying23 (ttOk.get 5 _ rfl) rfl (hb.fr hf1 nb) hA rfl (by simp) (by simp) hr ?_
    intro _ V2 hb2 hf2
    exact ⟨(), ⟨.cons rfl (.cons rfl .nil), rfl⟩, y0, y1, y2, y3, r2, rfl, hD1.fr hf2 ng nB, hb2, hf.trans (hf1.inr.trans hf2.inl)⟩
  rintro _ V ⟨y0, y1, y2, y3, r2, rfl, hD, hb, hf⟩
  refine ⟨_, cells_at (cells_block (hf.cell hp ne)) (i := 0) rfl, ?_⟩
  refine CallR.imp (One_c hD) ?_ (fun ch w' ⟨h1, h2, h3⟩ => ⟨rfl, nte_none (by rw [h1]; simp), h2, hf.trans h3.inr⟩)
  rintro v V1 ⟨x2, r3, rfl, rfl, hD1, hf1⟩
  refine st_cell (i := 6) (ttOk.get 5 _ rfl) rfl (hb.fr hf1 nb) hA (by simp) rfl rfl ?_
  intro V2 hb2 hf2
  exact ⟨⟨x0, x1.toNat, y0, y1, y2, y3, x2⟩, r3, rfl, hb2, hD1.fr hf2 ng nB, hf.trans (hf1.inr.trans hf2.inl)⟩
end Go.Proofs.YtedeohcdcaimhaaGreatDoor
namespace Go.Proofs.YtedeohcdcaimhaaGreatDoor
open Go.Vc Go.RowKit Go.Sei

theorem Blk.split {w : World} {b : Nat} {T : TypeId} {A zs Z : List Value} (h : Blk w b T A zs Z) (n : Nat) : Blk w b T A (zs.take n) (zs.drop n ++ Z) := by
  unfold Blk at *
  rw [h]
  congr 3
  rw [List.append_assoc, List.append_assoc, ← List.append_assoc (zs.take n), List.take_append_drop]
theorem Blk.join {w : World} {b : Nat} {T : TypeId} {A M zs Z : List Value} (h : Blk w b T A M (zs ++ Z)) : Blk w b T (A ++ M) zs Z := by
  unfold Blk at *
  rw [h]
  congr 3
  simp
theorem DecB.below {B g : Nat} {rest : List UInt8} {w w' : World} (h : DecB B g rest w) (hb : Below w.heap.size w w') : DecB B g rest w' := h.fr (Fr.of_below (L := []) hb) (by simp) (by simp)

/-- A row of which i elements are read. -/
def RowI {α : Type} (dec : Prs α) (enc : α → List Value) (sz N B b g : Nat) (T : TypeId) (A0 Z0 : List Value) (rest0 : List UInt8) (w0 : World) (i : Nat) (V : World) : Prop :=
  ∃ xs r zs, reps dec i rest0 = some (xs, r) ∧ zs.length = (N - i) * sz ∧ (xs.flatMap enc).length = i * sz ∧ Blk V b T (A0 ++ xs.flatMap enc) zs Z0 ∧ DecB B g r V ∧ Fr [b, g] w0 V
theorem RowI.start {α : Type} {dec : Prs α} {enc : α → List Value} {sz N B b g : Nat} {T : TypeId} {A0 Z0 zs : List Value} {rest0 : List UInt8} {V : World} (hz : zs.length = N * sz) (hb : Blk V b T A0 zs Z0) (hD : DecB B g rest0 V) : RowI dec enc sz N B b g T A0 Z0 rest0 V 0 V :=
  ⟨[], rest0, zs, rfl, hz, by simp, by simpa using hb, hD, Fr.refl _ _⟩
theorem RowI.step {α : Type} {dec : Prs α} {enc : α → List Value} {sz N B b g : Nat} {T : TypeId} {A0 Z0 : List Value} {rest0 : List UInt8} {w0 V : World} {i : Nat} (hl : ∀ r x r', dec r = some (x, r') → (enc x).length = sz) (h : RowI dec enc sz N B b g T A0 Z0 rest0 w0 i V) (hi : i < N) :
    ∃ A r M Z, M.length = sz ∧ Blk V b T A M Z ∧ A.length = A0.length + i * sz ∧ DecB B g r V ∧ Fr [b, g] w0 V ∧ (∀ x r' V', dec r = some (x, r') → Blk V' b T A (enc x) Z → DecB B g r' V' → Fr [b, g] V V' → RowI dec enc sz N B b g T A0 Z0 rest0 w0 (i + 1) V') ∧ (dec r = none → reps dec N rest0 = none) := by
  obtain ⟨xs, r, zs, h1, h2, h3, h4, h5, h6⟩ := h
  have hN : (N - i) * sz = sz + (N - (i + 1)) * sz := by
    have : N - i = (N - (i + 1)) + 1 := by omega
    rw [this, Nat.add_mul]; omega
  refine ⟨A0 ++ xs.flatMap enc, r, zs.take sz, zs.drop sz ++ Z0, by rw [List.length_take]; omega, h4.split sz, by rw [List.length_append, h3], h5, h6, fun x r' V' hd hb hD hf => ?_, fun hd => reps_fail h1 hd hi⟩
  refine ⟨xs ++ [x], r', zs.drop sz, reps_step h1 hd, by rw [List.length_drop]; omega, ?_, ?_, hD, h6.trans hf⟩
  · rw [List.flatMap_append, List.length_append, h3]; simp [hl r x r' hd, Nat.add_mul]
  · have := hb.join
    rw [List.flatMap_append]
    simpa using this
theorem RowI.done {α : Type} {dec : Prs α} {enc : α → List Value} {sz N B b g : Nat} {T : TypeId} {A0 Z0 : List Value} {rest0 : List UInt8} {w0 V : World} (h : RowI dec enc sz N B b g T A0 Z0 rest0 w0 N V) :
    ∃ xs r, reps dec N rest0 = some (xs, r) ∧ Blk V b T A0 (xs.flatMap enc) Z0 ∧ DecB B g r V ∧ Fr [b, g] w0 V := by
  obtain ⟨xs, r, zs, h1, h2, h3, h4, h5, h6⟩ := h
  have : zs = [] := List.eq_nil_of_length_eq_zero (by rw [h2]; simp)
  subst this
  refine ⟨xs, r, h1, ?_, h5, h6⟩
  unfold Blk at *
  rw [h4]
  simp

theorem split8 {l : List UInt8} (h : 8 ≤ l.length) : ∃ a b c d e f g k r, l = a :: b :: c :: d :: e :: f :: g :: k :: r := by
  match l, h with
  | a :: b :: c :: d :: e :: f :: g :: k :: r, _ => exact ⟨a, b, c, d, e, f, g, k, r, rfl⟩
theorem len12 {l : List Value} (h : l.length = 12) : ∃ a b c d e f g k m n p q, l = [a, b, c, d, e, f, g, k, m, n, p, q] := by
  match l, h with
  | [a, b, c, d, e, f, g, k, m, n, p, q], _ => exact ⟨a, b, c, d, e, f, g, k, m, n, p, q, rfl⟩
theorem cor_short {rest : List UInt8} (h : rest.length < 10) : decCor rest = none := by
  unfold decCor
  split
  · simp only [List.length_cons] at h; omega
  · rfl

theorem Fr.over {b g bs : Nat} {w W0 V X : World} (hf : Fr [b, g] W0 V) (hX : Fr [bs, g] V X) (hs0 : W0.heap.size = w.heap.size + 1) (h : w.heap.size < bs) : Fr [b, g] W0 X :=
  ⟨hX.os.trans hf.os, hX.tape.trans hf.tape, hX.output.trans hf.output, Nat.le_trans hf.size hX.size, fun k hk hn => (hX.same k (Nat.lt_of_lt_of_le hk hf.size) (by simp at hn ⊢; omega)).trans (hf.same k hk hn), fun k cs T hc => by
      obtain ⟨c1, h1, h2⟩ := hf.sz k cs T hc
      obtain ⟨c2, h3, h4⟩ := hX.sz k c1 T h1
      exact ⟨c2, h3, h4.trans h2⟩⟩

/-- A core as it was read: its stores lie in a block of their own. -/
def CorM (lo : Nat) (V : World) (c : Cor) (cs : List Value) : Prop :=
  ∃ bs, cs = corCells c (.slice (some ⟨bs, 0, none⟩) c.buf.length c.buf.length) ∧ lo ≤ bs ∧ bs < V.heap.size ∧ Cells V ⟨bs, 0, none⟩ (c.buf.flatMap stoE.enc)

theorem decCor_c {B g b o : Nat} {T : TypeId} {A M Z : List Value} {rest : List UInt8} {w : World} (hD : DecB B g rest w) (hb : Blk w b T A M Z) (hA : A.length = o) (hM : M.length = 12) (hbg : b ≠ g) (hB : B ≤ b) :
    CallR Tryz.prog 26 #[.pointer (some ⟨g, 0, none⟩), .pointer (some ⟨b, o, none⟩)] w
      (fun _ w' => ∃ x r cs, decCor rest = some (x, r) ∧ Blk w' b T A cs Z ∧ CorM w.heap.size w' x cs ∧ DecB B g r w' ∧ Fr [b, g] w w') (fun ch w' => decCor rest = none ∧ PanOk ch ∧ Fr [b, g] w w') := by
  refine calls_of_M (S := sg 51) (sgOk _) (args := [.pointer (some ⟨g, 0, none⟩), .pointer (some ⟨b, o, none⟩)]) (.s .p (.c .p (.c .p (.c .p (.c .p (.c .p (.c .p .p))))))) Tryz.func26 rfl rfl (Nat.le_of_ble_eq_true rfl) rfl ?_
  have nb : b ∉ [g] := by simpa using hbg
  have ng : g ∉ [b] := by simpa using hbg.symm
  have nB : ∀ k ∈ [b], B ≤ k := by simpa using hB
  have hbs := hlt hb
  have hgs := hD.lt.2
  obtain ⟨m0, m1, m2, m3, m4, m5, m6, m7, m8, m9, m10, m11, rfl⟩ := len12 hM
  have hb0 : Below w.heap.size w (w.alloc (.cells (Value.pointer (some ⟨g, 0, none⟩)).cells 127)) := (Below.refl _ _).alloc (Nat.le_refl _) _
  have p0 : PBox (w.alloc (.cells (Value.pointer (some ⟨g, 0, none⟩)).cells 127)) w.heap.size g := hnew w _
  obtain ⟨W0, hW0⟩ : ∃ W0, w.alloc (.cells (Value.pointer (some ⟨g, 0, none⟩)).cells 127) = W0 := ⟨_, rfl⟩
  have hs0 : W0.heap.size = w.heap.size + 1 := by rw [← hW0]; exact World.size_alloc _ _
  have f0 : Fr [b, g] w W0 := by rw [← hW0]; exact Fr.of_below hb0
  have hD0 : DecB B g rest W0 := by rw [← hW0]; exact hD.below hb0
  have hbk0 : Blk W0 b T A [m0, m1, m2, m3, m4, m5, m6, m7, m8, m9, m10, m11] Z := by rw [← hW0]; exact block_below hb0 hb
  rw [hW0] at p0
  have ne : w.heap.size ∉ [b, g] := by simp; omega
  have hP : ∀ V, Fr [b, g] W0 V → PBox V w.heap.size g := fun V h => h.cell p0 ne
  refine ⟨Unit, fun _ => ⟨[(1, .pointer (some ⟨b, o, none⟩)), (2, .pointer (some ⟨w.heap.size, 0, none⟩))], []⟩, fun _ V => ∃ x0 r0, rest = x0 :: r0 ∧ DecB B g r0 V ∧ Blk V b T A [u8 x0, m1, m2, m3, m4, m5, m6, m7, m8, m9, m10, m11] Z ∧ Fr [b, g] W0 V, ?_, ?_⟩
  · subst hW0
    refine ⟨_, cells_at (cells_block p0) (i := 0) rfl, ?_⟩
    refine CallR.imp (One_c hD0) ?_ (fun ch w' ⟨h1, h2, h3⟩ => ⟨rfl, cor_short (by rw [h1]; simp), h2, f0.trans h3.inr⟩)
    rintro v V1 ⟨x0, r0, rfl, rfl, hD1, hf1⟩
    refine st_cell (i := 0) (ttOk.get 5 _ rfl) rfl (hbk0.fr hf1 nb) hA (by simp) rfl rfl ?_
    intro V2 hb2 hf2
    exact ⟨(), ⟨.cons rfl (.cons rfl .nil), rfl⟩, x0, r0, rfl, hD1.fr hf2 ng nB, hb2, hf1.inr.trans hf2.inl⟩
  rintro _ V ⟨x0, r0, rfl, hD, hb, hf⟩
  refine ⟨Unit, fun _ => ⟨[(1, .pointer (some ⟨b, o, none⟩)), (2, .pointer (some ⟨w.heap.size, 0, none⟩))], []⟩, fun _ V => ∃ y0 y1 y2 y3 y4 y5 y6 y7 r1, r0 = y0 :: y1 :: y2 :: y3 :: y4 :: y5 :: y6 :: y7 :: r1 ∧ DecB B g r1 V ∧ Blk V b T A [u8 x0, u8 y0, u8 y1, u8 y2, u8 y3, u8 y4, u8 y5, u8 y6, u8 y7, m9, m10, m11] Z ∧ Fr [b, g] W0 V, ?_, ?_⟩
  · refine DrawE.ord [7, 8] [0, 1, 2, 3, 4, 5, 6, 7, 8] (by kernel_rfl) ?_
    refine ⟨_, cells_at (cells_block (hdr (hP V hf))) (i := 0) rfl, ?_⟩
    refine CallR.imp (Next_c (hD.below (Below.refl _ V).drew) 8 (by decide)) ?_ (fun ch w' ⟨h1, h2, h3⟩ => ⟨rfl, cor_short (by simp only [List.length_cons]; omega), h2, f0.trans (hf.trans ((Fr.of_below (Below.refl _ V).drew).trans h3.inr))⟩)
    rintro v V1 ⟨h8, ⟨p, cap, rfl, hr, _⟩, hD1, hf1⟩
    have hf1 : Fr [g] V V1 := (Fr.of_below (Below.refl _ V).drew).trans hf1
    obtain ⟨y0, y1, y2, y3, y4, y5, y6, y7, r2, rfl⟩ := split8 h8
    refine cp_blk (i := 1) (news := [y0, y1, y2, y3, y4, y5, y6, y7]) Tryz.underlying23 (ttOk.get 5 _ rfl) rfl (hb.fr hf1 nb) hA rfl (by simp) (by simp) hr ?_
    intro _ V2 hb2 hf2
    exact ⟨(), ⟨.cons rfl (.cons rfl .nil), rfl⟩, y0, y1, y2, y3, y4, y5, y6, y7, r2, rfl, hD1.fr hf2 ng nB, hb2, hf.trans (hf1.inr.trans hf2.inl)⟩
  rintro _ V ⟨y0, y1, y2, y3, y4, y5, y6, y7, r1, rfl, hD, hb, hf⟩
  refine ⟨Nat, fun _ => ⟨[(1, .pointer (some ⟨b, o, none⟩)), (2, .pointer (some ⟨w.heap.size, 0, none⟩))], []⟩, fun bs V => ∃ x1 r2 cs, r1 = x1 :: r2 ∧ cs.length = x1.toNat * 2 ∧ Blk V bs 132 [] cs [] ∧ w.heap.size < bs ∧ DecB B g r2 V ∧ Blk V b T A [u8 x0, u8 y0, u8 y1, u8 y2, u8 y3, u8 y4, u8 y5, u8 y6, u8 y7, .slice (some ⟨bs, 0, none⟩) x1.toNat x1.toNat, m10, m11] Z ∧ Fr [b, g] W0 V, ?_, ?_⟩
  · refine ⟨_, cells_at (cells_block (hP V hf)) (i := 0) rfl, ?_⟩
    refine CallR.imp (One_c hD) ?_ (fun ch w' ⟨h1, h2, h3⟩ => ⟨rfl, cor_short (by rw [h1]; simp), h2, f0.trans (hf.trans h3.inr)⟩)
    rintro v V1 ⟨x1, r2, rfl, rfl, hD1, hf1⟩
    have hx := x1.toNat_lt
    refine make_full (T := 132) Tryz.underlying64 (ttOk.get 132 _ rfl) rfl x1.toNat (by dsimp only; omega) (by omega) ?_
    intro V2 cs hcs hbk hbl hsz
    have h1s := hf.size
    have h2s := hf1.size
    refine st_cell (i := 9) (ttOk.get 64 _ rfl) rfl (block_below hbl (hb.fr hf1 nb)) hA (by simp) rfl rfl ?_
    intro V3 hb3 hf3
    have hf13 : Fr [b, g] V V3 := hf1.inr.trans ((Fr.of_below hbl).trans hf3.inl)
    exact ⟨V1.heap.size, ⟨.cons rfl (.cons rfl .nil), rfl⟩, x1, r2, cs, rfl, hcs, hbk.fr hf3 (by simp; omega), by omega, (hD1.below hbl).fr hf3 ng nB, hb3, hf.trans hf13⟩
  rintro bs V ⟨x1, r2, cs, rfl, hcs, hbk, hbs2, hD, hb, hf⟩
  have hs1 := hf.size
  refine ⟨Unit, fun _ => ⟨[(1, .pointer (some ⟨b, o, none⟩)), (2, .pointer (some ⟨w.heap.size, 0, none⟩))], []⟩, fun _ V => ∃ sts r3, reps decSto x1.toNat r2 = some (sts, r3) ∧ Blk V bs 132 [] (sts.flatMap stoE.enc) [] ∧ DecB B g r3 V ∧ Blk V b T A [u8 x0, u8 y0, u8 y1, u8 y2, u8 y3, u8 y4, u8 y5, u8 y6, u8 y7, .slice (some ⟨bs, 0, none⟩) x1.toNat x1.toNat, m10, m11] Z ∧ Fr [b, g] W0 V, ?_, ?_⟩
  · have hx := x1.toNat_lt
    refine ⟨_, cells_at (hb.cells hA) (i := 9) rfl, ?_⟩
    have mono1 : ∀ X, Fr [bs, g] V X → Fr [b, g] W0 X := fun X hX => hf.over hX hs0 hbs2
    refine CallR.imp (each_Sto (p := some ⟨bs, 0, none⟩) (b := bs) (o := 0) (n := x1.toNat) (cap := x1.toNat) (caps := [.pointer (some ⟨w.heap.size, 0, none⟩)]) (RowI decSto stoE.enc 2 x1.toNat B bs g 132 [] [] r2 V)
      (KP := fun ch X => reps decSto x1.toNat r2 = none ∧ PanOk ch ∧ Fr [bs, g] V X) (by kernel_rfl) (.inr rfl) (by omega) ?_ (RowI.start hcs hbk hD)) ?_ ?_
    · intro i X hi hI
      obtain ⟨A1, r, M1, Z1, j1, j2, j3, j4, j5, j6, j7⟩ := hI.step (fun _ x _ _ => stoE.len x) hi
      have pX : PBox X w.heap.size g := hP X (mono1 X j5)
      refine CallR.imp (decSto_c j4 pX j2 j3 j1 (by omega) ⟨by omega, by omega⟩ (by have := hD.lt; omega)) ?_ ?_
      · rintro v Y ⟨x, r', k1, k2, k3, k4⟩
        exact j6 x r' Y k1 k2 k3 k4
      · rintro ch Y ⟨k1, k2, k3⟩
        exact ⟨j7 k1, k2, j5.trans k3⟩
    · rintro v X hI
      obtain ⟨sts, r3, k1, k2, k3, k4⟩ := hI.done
      refine ⟨(), ⟨.cons rfl (.cons rfl .nil), rfl⟩, sts, r3, k1, k2, k3, hb.fr k4 (by simp; omega), mono1 X k4⟩
    · rintro ch X ⟨k1, k2, k3⟩
      exact ⟨rfl, by simp only [decCor, k1], k2, f0.trans (mono1 X k3)⟩
  rintro _ V ⟨sts, r3, hreps, hbk, hD, hb, hf⟩
  have hlen := (reps_g fmt_sto _ _ _ _ hreps).1
  refine ⟨UInt8, fun f => ⟨[(1, .pointer (some ⟨b, o, none⟩)), (4, u8 f)], []⟩, fun f V => ∃ r4, r3 = f :: r4 ∧ f.toNat ≤ 3 ∧ Blk V bs 132 [] (sts.flatMap stoE.enc) [] ∧ DecB B g r4 V ∧ Blk V b T A [u8 x0, u8 y0, u8 y1, u8 y2, u8 y3, u8 y4, u8 y5, u8 y6, u8 y7, .slice (some ⟨bs, 0, none⟩) x1.toNat x1.toNat, m10, m11] Z ∧ Fr [b, g] W0 V, ?_, ?_⟩
  · refine ⟨_, cells_at (cells_block (hP V hf)) (i := 0) rfl, ?_⟩
    refine CallR.imp (Most_c hD 3) ?_ (fun ch w' ⟨h1, h2, h3⟩ => ⟨rfl, ?_, h2, f0.trans (hf.trans h3.inr)⟩)
    · rintro v V1 ⟨f, r4, rfl, hf3, rfl, hD1, hf1⟩
      exact ⟨f, ⟨.cons rfl (.cons rfl .nil), rfl⟩, r4, rfl, hf3, hbk.fr hf1 (by simp; omega), hD1, hb.fr hf1 nb, hf.trans hf1.inr⟩
    · cases r3 with
      | nil => simp only [decCor, hreps]
      | cons y s =>
        have h3 : ¬ y.toNat ≤ 3 := h1 y s rfl
        simp only [decCor, hreps, if_neg h3]
  rintro f V ⟨r4, rfl, hf3, hbk, hD, hb, hf⟩
  refine ⟨Unit, fun _ => ⟨[(1, .pointer (some ⟨b, o, none⟩)), (4, u8 f)], []⟩, fun _ V => Blk V bs 132 [] (sts.flatMap stoE.enc) [] ∧ DecB B g r4 V ∧ Blk V b T A [u8 x0, u8 y0, u8 y1, u8 y2, u8 y3, u8 y4, u8 y5, u8 y6, u8 y7, .slice (some ⟨bs, 0, none⟩) x1.toNat x1.toNat, .bool (decide (f.toNat % 2 = 1)), m11] Z ∧ Fr [b, g] W0 V, ?_, ?_⟩
  · have e1 : ∀ f : UInt8, f.toNat ≤ 3 → ∃ r : Int, IntKind.u8.wrap ((BitVec.ofInt IntKind.u8.bits (f.toNat : Int) &&& BitVec.ofInt IntKind.u8.bits 1).toNat : Int) = r ∧ (!decide (r = 0)) = decide (f.toNat % 2 = 1) := fun f h => by
      have h4 : f.toNat = 0 ∨ f.toNat = 1 ∨ f.toNat = 2 ∨ f.toNat = 3 := by omega
      rcases h4 with h | h | h | h <;> (rw [h]; exact ⟨_, rfl, by decide⟩)
    obtain ⟨r, q1, q2⟩ := e1 f hf3
    refine ⟨r, q1, ?_⟩
    refine st_cell (i := 10) (ttOk.get 4 _ rfl) rfl hb hA (by simp) rfl rfl ?_
    intro V2 hb2 hf2
    rw [q2] at hb2
    exact ⟨(), ⟨.cons rfl (.cons rfl .nil), rfl⟩, hbk.fr hf2 (by simp; omega), hD.fr hf2 ng nB, hb2, hf.trans hf2.inl⟩
  rintro _ V ⟨hbk, hD, hb, hf⟩
  have e1 : ∀ f : UInt8, f.toNat ≤ 3 → ∃ r : Int, IntKind.u8.wrap ((BitVec.ofInt IntKind.u8.bits (f.toNat : Int) &&& BitVec.ofInt IntKind.u8.bits 2).toNat : Int) = r ∧ (!decide (r = 0)) = decide (f.toNat / 2 = 1) := fun f h => by
    have h4 : f.toNat = 0 ∨ f.toNat = 1 ∨ f.toNat = 2 ∨ f.toNat = 3 := by omega
    rcases h4 with h | h | h | h <;> (rw [h]; exact ⟨_, rfl, by decide⟩)
  obtain ⟨r, q1, q2⟩ := e1 f hf3
  refine ⟨r, q1, ?_⟩
  refine st_cell (i := 11) (ttOk.get 4 _ rfl) rfl hb hA (by simp) rfl rfl ?_
  intro V2 hb2 hf2
  rw [q2] at hb2
  have hbk2 : Blk V2 bs 132 [] (sts.flatMap stoE.enc) [] := hbk.fr hf2 (by simp; omega)
  refine ⟨⟨x0, y0, y1, y2, y3, y4, y5, y6, y7, sts, decide (f.toNat % 2 = 1), decide (f.toNat / 2 = 1)⟩, r4, _, by simp only [decCor, hreps, if_pos hf3], hb2, ⟨bs, ?_, by omega, hlt hbk2, hbk2.cells rfl⟩, hD.fr hf2 ng nB, f0.trans (hf.trans hf2.inl)⟩
  rw [← hlen]; rfl
end Go.Proofs.YtedeohcdcaimhaaGreatDoor
namespace Go.Proofs.YtedeohcdcaimhaaGreatDoor
open Go.Vc Go.RowKit Go.Sei

theorem reps_add {α : Type} (d : Prs α) : ∀ (a c : Nat) (b : List UInt8), reps d (a + c) b = match reps d a b with
    | none => none
    | some (xs, r) => match reps d c r with
      | none => none
      | some (ys, r') => some (xs ++ ys, r')
  | 0, c, b => by
    rw [Nat.zero_add]
    simp only [reps]
    cases reps d c b with
    | none => rfl
    | some x => rfl
  | a + 1, c, b => by
    rw [show a + 1 + c = (a + c) + 1 by omega, reps, reps]
    cases d b with
    | none => rfl
    | some x =>
      obtain ⟨x, r⟩ := x
      simp only
      rw [reps_add d a c r]
      cases reps d a r with
      | none => rfl
      | some y =>
        obtain ⟨y, r2⟩ := y
        simp only
        cases reps d c r2 with
        | none => rfl
        | some z => rfl
theorem reps_reps {α : Type} (d : Prs α) (m : Nat) : ∀ (n : Nat) (b : List UInt8), reps d (m * n) b = match reps (reps d m) n b with
    | none => none
    | some (xss, r) => some (xss.flatten, r)
  | 0, b => rfl
  | n + 1, b => by
    rw [show m * (n + 1) = m + m * n by rw [Nat.mul_add]; omega, reps_add, reps]
    cases reps d m b with
    | none => rfl
    | some x =>
      obtain ⟨x, r⟩ := x
      simp only
      rw [reps_reps d m n r]
      cases reps (reps d m) n r with
      | none => rfl
      | some y => rfl
theorem flat_flat {α β : Type} (f : α → List β) : ∀ l : List (List α), l.flatMap (fun x => x.flatMap f) = l.flatten.flatMap f
  | [] => rfl
  | a :: r => by rw [List.flatMap_cons, flat_flat f r, List.flatten_cons, List.flatMap_append]
theorem Blk.assoc {w : World} {b : Nat} {T : TypeId} {A X M Z : List Value} (h : Blk w b T (A ++ X) M Z) : Blk w b T A (X ++ M) Z := by
  unfold Blk at *
  rw [h]
  simp

theorem cac_short {rest r1 r2 : List UInt8} {ws : List Lin} {ns : List Nte} (hws : reps decLin 16 rest = some (ws, r1)) (hns : reps decNte 4 r1 = some (ns, r2)) (h : r2.length < 4) : decCac rest = none := by
  unfold decCac
  simp only [hws, hns]
  match r2, h with
  | [], _ => rfl
  | [_], _ => rfl
  | [_, _], _ => rfl
  | [_, _, _], _ => rfl
  | _ :: _ :: _ :: _ :: _, h => simp at h; omega
theorem rr_some {α : Type} {d : Prs α} {m n : Nat} {b r : List UInt8} {xss : List (List α)} (h : reps (reps d m) n b = some (xss, r)) : reps d (m * n) b = some (xss.flatten, r) := by rw [reps_reps, h]
theorem rr_none {α : Type} {d : Prs α} {m n : Nat} {b : List UInt8} (h : reps (reps d m) n b = none) : reps d (m * n) b = none := by rw [reps_reps, h]

theorem decRow_c {B g b o ep : Nat} {T : TypeId} {A M Z : List Value} {rest : List UInt8} {w : World} (hD : DecB B g rest w) (hp : PBox w ep g) (hb : Blk w b T A M Z) (hA : A.length = o) (hM : M.length = 32) (hbg : b ≠ g) (hep : ep ≠ b ∧ ep ≠ g) (hB : B ≤ b) :
    CallR Tryz.prog 68 #[.pointer (some ⟨b, o, none⟩), .pointer (some ⟨ep, 0, none⟩)] w
      (fun _ w' => ∃ x r, reps decLin 4 rest = some (x, r) ∧ Blk w' b T A (x.flatMap linE.enc) Z ∧ DecB B g r w' ∧ Fr [b, g] w w') (fun ch w' => reps decLin 4 rest = none ∧ PanOk ch ∧ Fr [b, g] w w') := by
  refine calls_of_E (S := sg 8) (sgOk _) (args := [.pointer (some ⟨b, o, none⟩), .pointer (some ⟨ep, 0, none⟩)]) Tryz.func68 rfl rfl (Nat.le_of_ble_eq_true rfl) rfl ?_
  refine CallR.imp (each_Lin (p := some ⟨b, o, none⟩) (b := b) (o := o) (n := 4) (cap := 4) (caps := [.pointer (some ⟨ep, 0, none⟩)]) (RowI decLin linE.enc 8 4 B b g T A Z rest w)
    (KP := fun ch X => reps decLin 4 rest = none ∧ PanOk ch ∧ Fr [b, g] w X) (by kernel_rfl) (.inr rfl) (by decide) ?_ (RowI.start hM hb hD)) ?_ ?_
  · intro i X hi hI
    obtain ⟨A1, r, M1, Z1, j1, j2, j3, j4, j5, j6, j7⟩ := hI.step (fun _ x _ _ => linE.len x) hi
    refine CallR.imp (decLin_c j4 (j5.cell hp (by simp [hep])) j2 (by rw [j3, hA]; rfl) j1 hbg hep hB) ?_ ?_
    · rintro v Y ⟨x, r', k1, k2, k3, k4⟩
      exact j6 x r' Y k1 k2 k3 k4
    · rintro ch Y ⟨k1, k2, k3⟩
      exact ⟨j7 k1, k2, j5.trans k3⟩
  · rintro v X hI
    obtain ⟨xs, r, k1, k2, k3, k4⟩ := hI.done
    exact ⟨xs, r, k1, k2, k3, k4⟩
  · rintro ch X ⟨k1, k2, k3⟩
    exact ⟨rfl, k1, k2, k3⟩

theorem decCac_c {B g b o : Nat} {T : TypeId} {A M Z : List Value} {rest : List UInt8} {w : World} (hD : DecB B g rest w) (hb : Blk w b T A M Z) (hA : A.length = o) (hM : M.length = 160) (hbg : b ≠ g) (hB : B ≤ b) :
    CallR Tryz.prog 29 #[.pointer (some ⟨g, 0, none⟩), .pointer (some ⟨b, o, none⟩)] w
      (fun _ w' => ∃ x r, decCac rest = some (x, r) ∧ Blk w' b T A (cacCells x) Z ∧ DecB B g r w' ∧ Fr [b, g] w w') (fun ch w' => decCac rest = none ∧ PanOk ch ∧ Fr [b, g] w w') := by
  refine calls_of_M (S := sg 37) (sgOk _) (args := [.pointer (some ⟨g, 0, none⟩), .pointer (some ⟨b, o, none⟩)]) (.s .p (.c .p (.c .p (.c .p .p)))) Tryz.func29 rfl rfl (Nat.le_of_ble_eq_true rfl) rfl ?_
  have nb : b ∉ [g] := by simpa using hbg
  have ng : g ∉ [b] := by simpa using hbg.symm
  have nB : ∀ k ∈ [b], B ≤ k := by simpa using hB
  have hbs := hlt hb
  have hgs := hD.lt.2
  have hb0 : Below w.heap.size w (w.alloc (.cells (Value.pointer (some ⟨g, 0, none⟩)).cells 127)) := (Below.refl _ _).alloc (Nat.le_refl _) _
  have p0 : PBox (w.alloc (.cells (Value.pointer (some ⟨g, 0, none⟩)).cells 127)) w.heap.size g := hnew w _
  obtain ⟨W0, hW0⟩ : ∃ W0, w.alloc (.cells (Value.pointer (some ⟨g, 0, none⟩)).cells 127) = W0 := ⟨_, rfl⟩
  have f0 : Fr [b, g] w W0 := by rw [← hW0]; exact Fr.of_below hb0
  have hD0 : DecB B g rest W0 := by rw [← hW0]; exact hD.below hb0
  have hbk0 : Blk W0 b T A M Z := by rw [← hW0]; exact block_below hb0 hb
  rw [hW0] at p0
  have ne : w.heap.size ∉ [b, g] := by simp; omega
  have hP : ∀ V, Fr [b, g] W0 V → PBox V w.heap.size g := fun V h => h.cell p0 ne
  have hep : w.heap.size ≠ b ∧ w.heap.size ≠ g := ⟨by omega, by omega⟩
  have hl4 : ∀ (r : List UInt8) (x : List Lin) (r' : List UInt8), reps decLin 4 r = some (x, r') → (x.flatMap linE.enc).length = 32 := fun r x r' h => by
    rw [flat_len, (reps_g fmt_lin _ _ _ _ h).1]; rfl
  refine ⟨Unit, fun _ => ⟨[(1, .pointer (some ⟨b, o, none⟩)), (2, .pointer (some ⟨w.heap.size, 0, none⟩))], []⟩, fun _ V => ∃ ws r1, reps decLin 16 rest = some (ws, r1) ∧ DecB B g r1 V ∧ Blk V b T A (ws.flatMap linE.enc) (M.drop 128 ++ Z) ∧ Fr [b, g] W0 V, ?_, ?_⟩
  · subst hW0
    refine CallR.imp (each_Row (p := some ⟨b, o, none⟩) (b := b) (o := o) (n := 4) (cap := 4) (caps := [.pointer (some ⟨w.heap.size, 0, none⟩)]) (RowI (reps decLin 4) (fun x => x.flatMap linE.enc) 32 4 B b g T A (M.drop 128 ++ Z) rest (w.alloc (.cells (Value.pointer (some ⟨g, 0, none⟩)).cells 127)))
      (KP := fun ch X => reps (reps decLin 4) 4 rest = none ∧ PanOk ch ∧ Fr [b, g] (w.alloc (.cells (Value.pointer (some ⟨g, 0, none⟩)).cells 127)) X) (by kernel_rfl) (.inr rfl) (by decide) ?_ (RowI.start (zs := M.take 128) (by rw [List.length_take]; omega) (hbk0.split 128) hD0)) ?_ ?_
    · intro i X hi hI
      obtain ⟨A1, r, M1, Z1, j1, j2, j3, j4, j5, j6, j7⟩ := hI.step hl4 hi
      refine CallR.imp (decRow_c j4 (hP X j5) j2 (by rw [j3, hA]) j1 hbg hep hB) ?_ ?_
      · rintro v Y ⟨x, r', k1, k2, k3, k4⟩
        exact j6 x r' Y k1 k2 k3 k4
      · rintro ch Y ⟨k1, k2, k3⟩
        exact ⟨j7 k1, k2, j5.trans k3⟩
    · rintro v X hI
      obtain ⟨xs, r, k1, k2, k3, k4⟩ := hI.done
      rw [flat_flat] at k2
      exact ⟨(), ⟨.cons rfl (.cons rfl .nil), rfl⟩, xs.flatten, r, rr_some (m := 4) (n := 4) k1, k3, k2, k4⟩
    · rintro ch X ⟨k1, k2, k3⟩
      exact ⟨rfl, by have h16 : reps decLin 16 rest = none := rr_none (m := 4) (n := 4) k1; simp only [decCac, h16], k2, f0.trans k3⟩
  rintro _ V ⟨ws, r1, hws, hD, hb, hf⟩
  have hwl := (reps_g fmt_lin _ _ _ _ hws).1
  have hwc : (ws.flatMap linE.enc).length = 128 := by rw [flat_len, hwl]; rfl
  refine ⟨Unit, fun _ => ⟨[(1, .pointer (some ⟨b, o, none⟩)), (2, .pointer (some ⟨w.heap.size, 0, none⟩))], []⟩, fun _ V => ∃ ns r2, reps decNte 4 r1 = some (ns, r2) ∧ DecB B g r2 V ∧ Blk V b T (A ++ ws.flatMap linE.enc) (ns.flatMap nteE.enc) (M.drop 156 ++ Z) ∧ Fr [b, g] W0 V, ?_, ?_⟩
  · have hA2 : (A ++ ws.flatMap linE.enc).length = o + 128 := by rw [List.length_append, hA, hwc]
    have hz : ((M.drop 128).take 28).length = 4 * 7 := by rw [List.length_take, List.length_drop]; omega
    have hb2 : Blk V b T (A ++ ws.flatMap linE.enc) ((M.drop 128).take 28) (M.drop 156 ++ Z) := by
      have := hb.join.split 28
      rwa [List.drop_drop] at this
    refine CallR.imp (each_Nte (p := some ⟨b, o + 128, none⟩) (b := b) (o := o + 128) (n := 4) (cap := 4) (caps := [.pointer (some ⟨w.heap.size, 0, none⟩)]) (RowI decNte nteE.enc 7 4 B b g T (A ++ ws.flatMap linE.enc) (M.drop 156 ++ Z) r1 V)
      (KP := fun ch X => reps decNte 4 r1 = none ∧ PanOk ch ∧ Fr [b, g] V X) (by kernel_rfl) (.inr rfl) (by decide) ?_ (RowI.start hz hb2 hD)) ?_ ?_
    · intro i X hi hI
      obtain ⟨A1, r, M1, Z1, j1, j2, j3, j4, j5, j6, j7⟩ := hI.step (fun _ x _ _ => nteE.len x) hi
      refine CallR.imp (decNte_c j4 (hP X (hf.trans j5)) j2 (by rw [j3, hA2]; rfl) j1 hbg hep hB) ?_ ?_
      · rintro v Y ⟨x, r', k1, k2, k3, k4⟩
        exact j6 x r' Y k1 k2 k3 k4
      · rintro ch Y ⟨k1, k2, k3⟩
        exact ⟨j7 k1, k2, j5.trans k3⟩
    · rintro v X hI
      obtain ⟨xs, r, k1, k2, k3, k4⟩ := hI.done
      exact ⟨(), ⟨.cons rfl (.cons rfl .nil), rfl⟩, xs, r, k1, k3, k2, hf.trans k4⟩
    · rintro ch X ⟨k1, k2, k3⟩
      exact ⟨rfl, by simp only [decCac, hws, k1], k2, f0.trans (hf.trans k3)⟩
  rintro _ V ⟨ns, r2, hns, hD, hb, hf⟩
  have hnl := (reps_g fmt_nte _ _ _ _ hns).1
  have hnc : (ns.flatMap nteE.enc).length = 28 := by rw [flat_len, hnl]; rfl
  refine ⟨Option Addr × Nat, fun s => ⟨[(1, .pointer (some ⟨b, o, none⟩)), (4, .slice s.1 4 s.2)], []⟩, fun s V => ∃ y0 y1 y2 y3 r3, r2 = y0 :: y1 :: y2 :: y3 :: r3 ∧ RowB byteE B V s.1 [y0, y1, y2, y3] ∧ DecB B g r3 V ∧ Blk V b T (A ++ ws.flatMap linE.enc) (ns.flatMap nteE.enc) (M.drop 156 ++ Z) ∧ Fr [b, g] W0 V, ?_, ?_⟩
  · refine ⟨_, cells_at (cells_block (hP V hf)) (i := 0) rfl, ?_⟩
    refine CallR.imp (Next_c hD 4 (by decide)) ?_ (fun ch w' ⟨h1, h2, h3⟩ => ⟨rfl, ?_, h2, f0.trans (hf.trans h3.inr)⟩)
    · rintro v V1 ⟨h4, ⟨p, cap, rfl, hr, _⟩, hD1, hf1⟩
      obtain ⟨y0, y1, y2, y3, r3, rfl⟩ := split4 h4
      exact ⟨(p, cap), ⟨.cons rfl (.cons rfl .nil), rfl⟩, y0, y1, y2, y3, r3, rfl, hr, hD1, hb.fr hf1 nb, hf.trans hf1.inr⟩
    · exact cac_short hws hns h1
  rintro ⟨p, cap⟩ V ⟨y0, y1, y2, y3, r3, rfl, hr, hD, hb, hf⟩
  rcases hr with h | ⟨bb, oo, hpp, hbB, hcl⟩
  · cases h
  dsimp only at hpp
  subst hpp
  refine DrawE.ord [16] [0, 1, 2, 3, 4, 5, 6, 7, 8, 9, 10, 11, 12, 13, 14, 15, 16] (by kernel_rfl) ?_
  refine ⟨0, rfl, by decide, ?_⟩
  refine ⟨_, cells_at hcl (i := 0) rfl, ?_⟩
  refine ⟨1, rfl, by decide, ?_⟩
  refine ⟨_, cells_at hcl (i := 1) rfl, ?_⟩
  refine ⟨2, rfl, by decide, ?_⟩
  refine ⟨_, cells_at hcl (i := 2) rfl, ?_⟩
  refine ⟨3, rfl, by decide, ?_⟩
  refine ⟨_, cells_at hcl (i := 3) rfl, ?_⟩
  refine ⟨[u8 y0, u8 y1, u8 y2, u8 y3], rfl, ?_⟩
  have hA3 : ((A ++ ws.flatMap linE.enc) ++ ns.flatMap nteE.enc).length = o + 156 := by rw [List.length_append, List.length_append, hA, hwc, hnc]
  have hM4 : (M.drop 156).length = 4 := by rw [List.length_drop]; omega
  refine st_agg (w := V.drew) (i := 0) (n := 4) (ttOk.get 95 _ rfl) rfl (hb.join : Blk V.drew b T _ (M.drop 156) Z) hA3 (vs := [u8 y0, u8 y1, u8 y2, u8 y3]) rfl (by omega) (by simp [u8, Value.oneCell']) ?_
  intro V2 hb2 hf2
  have hf2 : Fr [b] V V2 := (Fr.of_below (Below.refl _ V).drew).trans hf2
  refine ⟨⟨ws, ns, y0, y1, y2, y3⟩, r3, by simp only [decCac, hws, hns], ?_, hD.fr hf2 ng nB, f0.trans (hf.trans hf2.inl)⟩
  have e1 : (M.drop 156).drop (0 + 4) = [] := List.drop_of_length_le (by omega)
  rw [e1] at hb2
  have h3 := hb2.assoc.assoc
  simpa [cacCells, opCells] using h3
end Go.Proofs.YtedeohcdcaimhaaGreatDoor
namespace Go.Proofs.YtedeohcdcaimhaaGreatDoor
open Go.Vc Go.RowKit Go.Sei

def leL : List UInt8 → Nat
  | [] => 0
  | b :: r => b.toNat + 256 * leL r
theorem leL_lt : ∀ l : List UInt8, leL l < 2 ^ (8 * l.length)
  | [] => by simp [leL]
  | b :: r => by
    have h1 := leL_lt r
    have h2 := b.toNat_lt
    have e : 2 ^ (8 * (b :: r).length) = 256 * 2 ^ (8 * r.length) := by rw [List.length_cons, show 8 * (r.length + 1) = 8 + 8 * r.length by omega, Nat.pow_add]
    rw [e, leL]; omega
theorem leL_snoc : ∀ (l : List UInt8) (b : UInt8), leL (l ++ [b]) = leL l + b.toNat * 2 ^ (8 * l.length)
  | [], b => by simp [leL]
  | a :: r, b => by
    have e : 2 ^ (8 * (a :: r).length) = 256 * 2 ^ (8 * r.length) := by rw [List.length_cons, show 8 * (r.length + 1) = 8 + 8 * r.length by omega, Nat.pow_add]
    rw [List.cons_append, leL, leL_snoc r b, leL, e, Nat.mul_add]
    have : 256 * (b.toNat * 2 ^ (8 * r.length)) = b.toNat * (256 * 2 ^ (8 * r.length)) := by rw [Nat.mul_left_comm]
    omega
theorem or_step {a b k : Nat} (ha : a < 2 ^ (8 * k)) (hb : b < 256) (hk : k < 8) : IntKind.u64.wrap ((BitVec.ofInt IntKind.u64.bits (a : Int) ||| BitVec.ofInt IntKind.u64.bits ((b * 2 ^ (8 * k) : Nat) : Int)).toNat : Int) = ((a + b * 2 ^ (8 * k) : Nat) : Int) := by
  have hp : 2 ^ (8 * k) * 256 ≤ 2 ^ 64 := by
    have : 2 ^ (8 * k) * 256 = 2 ^ (8 * k + 8) := by rw [Nat.pow_add]
    rw [this]
    exact Nat.pow_le_pow_right (by decide) (by omega)
  have h1 : b * 2 ^ (8 * k) + 2 ^ (8 * k) ≤ 2 ^ (8 * k) * 256 := by
    rw [Nat.mul_comm b, ← Nat.mul_succ]
    exact Nat.mul_le_mul_left _ hb
  have h64 : (2 : Nat) ^ 64 = 18446744073709551616 := by decide
  have ha64 : a < 18446744073709551616 := by omega
  have hb64 : b * 2 ^ (8 * k) < 18446744073709551616 := by omega
  have e1 : (BitVec.ofInt IntKind.u64.bits (a : Int)).toNat = a := by
    show (BitVec.ofInt 64 (a : Int)).toNat = a
    rw [BitVec.toNat_ofInt]; omega
  have e2 : (BitVec.ofInt IntKind.u64.bits ((b * 2 ^ (8 * k) : Nat) : Int)).toNat = b * 2 ^ (8 * k) := by
    show (BitVec.ofInt 64 _).toNat = _
    rw [BitVec.toNat_ofInt]; omega
  rw [BitVec.toNat_or, e1, e2, Nat.or_comm, Nat.mul_comm b, ← Nat.two_pow_add_eq_or_of_lt ha]
  rw [Nat.mul_comm b] at hb64 h1
  rw [wrap_u64 (by omega)]
  omega
theorem shl_step {b k : Nat} (hb : b < 256) (hk : k < 8) : IntKind.u64.wrap ((b : Int) * 2 ^ (min ((8 * k : Nat) : Int).toNat IntKind.u64.bits)) = ((b * 2 ^ (8 * k) : Nat) : Int) := by
  have e : min ((8 * k : Nat) : Int).toNat IntKind.u64.bits = 8 * k := by
    show min _ 64 = _
    omega
  rw [e]
  have hp : 2 ^ (8 * k) * 256 ≤ 2 ^ 64 := by
    have : 2 ^ (8 * k) * 256 = 2 ^ (8 * k + 8) := by rw [Nat.pow_add]
    rw [this]
    exact Nat.pow_le_pow_right (by decide) (by omega)
  have h1 : b * 2 ^ (8 * k) ≤ 2 ^ (8 * k) * 256 := by
    rw [Nat.mul_comm b]
    exact Nat.mul_le_mul_left _ (by omega)
  have h64 : (2 : Nat) ^ 64 = 18446744073709551616 := by decide
  have hlt : b * 2 ^ (8 * k) < 18446744073709551616 := by
    have : b * 2 ^ (8 * k) + 2 ^ (8 * k) ≤ 2 ^ (8 * k) * 256 := by
      rw [Nat.mul_comm b, ← Nat.mul_succ]
      exact Nat.mul_le_mul_left _ hb
    have h2 : 0 < 2 ^ (8 * k) := Nat.pow_pos (by decide)
    omega
  have e2 : (b : Int) * 2 ^ (8 * k) = ((b * 2 ^ (8 * k) : Nat) : Int) := by push_cast; rfl
  rw [e2]
  exact wrap_u64 (by omega)
theorem leM_leL (h : Hom) : leM h = leL (mL h) := by
  simp only [leM, mL, leL]; omega
theorem hom_none {rest : List UInt8} (h : rest.length < 18 ∨ ∃ a b c d0 d1 d2 d3 d4 d5 d6 d7 x r, rest = a :: b :: c :: d0 :: d1 :: d2 :: d3 :: d4 :: d5 :: d6 :: d7 :: x :: r ∧ ¬ x.toNat ≤ 1) : decHom rest = none := by
  unfold decHom
  split
  · rename_i a b c d0 d1 d2 d3 d4 d5 d6 d7 x y0 y1 y2 y3 y4 y5 r
    rcases h with h | ⟨_, _, _, _, _, _, _, _, _, _, _, _, _, e, h⟩
    · simp only [List.length_cons] at h; omega
    · simp only [List.cons.injEq] at e
      obtain ⟨_, _, _, _, _, _, _, _, _, _, _, rfl, _⟩ := e
      rw [if_neg h]
  · rfl
theorem hom_flag {a b c d0 d1 d2 d3 d4 d5 d6 d7 : UInt8} {r : List UInt8} (h : ∀ x s, r = x :: s → ¬ x.toNat ≤ 1) : decHom (a :: b :: c :: d0 :: d1 :: d2 :: d3 :: d4 :: d5 :: d6 :: d7 :: r) = none := by
  refine hom_none ?_
  cases r with
  | nil => exact .inl (by simp)
  | cons y s => exact .inr ⟨_, _, _, _, _, _, _, _, _, _, _, y, s, rfl, h y s rfl⟩
def zeroH : Hom := ⟨0, 0, 0, 0, 0, 0, 0, 0, 0, 0, 0, false, 0, 0, 0, 0, 0, 0⟩

theorem decHom_c {B g b o : Nat} {T : TypeId} {A Z : List Value} {rest : List UInt8} {w : World} (hD : DecB B g rest w) (hb : Blk w b T A (homE.enc zeroH) Z) (hA : A.length = o) (hbg : b ≠ g) (hB : B ≤ b) :
    CallR Tryz.prog 32 #[.pointer (some ⟨g, 0, none⟩), .pointer (some ⟨b, o, none⟩)] w
      (fun _ w' => ∃ x r, decHom rest = some (x, r) ∧ Blk w' b T A (homE.enc x) Z ∧ DecB B g r w' ∧ Fr [b, g] w w') (fun ch w' => decHom rest = none ∧ PanOk ch ∧ Fr [b, g] w w') := by
  refine calls_of_M (S := sg 84) (sgOk _) (args := [.pointer (some ⟨g, 0, none⟩), .pointer (some ⟨b, o, none⟩)]) (.c .p (.c .p (.c .p (.c (.c .p .p) (.c .p (.c .p (.c .p .p))))))) Tryz.func32 rfl rfl (Nat.le_of_ble_eq_true rfl) rfl ?_
  have nb : b ∉ [g] := by simpa using hbg
  have ng : g ∉ [b] := by simpa using hbg.symm
  have nB : ∀ k ∈ [b], B ≤ k := by simpa using hB
  have hb : Blk w b T A [u8 0, u8 0, u8 0, .int .u64 (0 : Nat), .bool false, u8 0, u8 0, u8 0, u8 0, u8 0, u8 0] Z := hb
  refine ⟨Unit, fun _ => ⟨[(0, .pointer (some ⟨g, 0, none⟩)), (1, .pointer (some ⟨b, o, none⟩))], []⟩, fun _ V => ∃ x0 r0, rest = x0 :: r0 ∧ DecB B g r0 V ∧ Blk V b T A [u8 x0, u8 0, u8 0, .int .u64 (0 : Nat), .bool false, u8 0, u8 0, u8 0, u8 0, u8 0, u8 0] Z ∧ Fr [b, g] w V, ?_, ?_⟩
  · refine CallR.imp (One_c hD) ?_ (fun ch w' ⟨h1, h2, h3⟩ => ⟨rfl, hom_none (.inl (by rw [h1]; simp)), h2, h3.inr⟩)
    rintro v V1 ⟨x0, r0, rfl, rfl, hD1, hf1⟩
    refine st_cell (i := 0) (ttOk.get 5 _ rfl) rfl (hb.fr hf1 nb) hA (by simp) rfl rfl ?_
    intro V2 hb2 hf2
    exact ⟨(), ⟨.cons rfl (.cons rfl .nil), rfl⟩, x0, r0, rfl, hD1.fr hf2 ng nB, hb2, hf1.inr.trans hf2.inl⟩
  rintro _ V ⟨x0, r0, rfl, hD, hb, hf⟩
  refine ⟨Unit, fun _ => ⟨[(0, .pointer (some ⟨g, 0, none⟩)), (1, .pointer (some ⟨b, o, none⟩))], []⟩, fun _ V => ∃ x1 r1, r0 = x1 :: r1 ∧ DecB B g r1 V ∧ Blk V b T A [u8 x0, u8 x1, u8 0, .int .u64 (0 : Nat), .bool false, u8 0, u8 0, u8 0, u8 0, u8 0, u8 0] Z ∧ Fr [b, g] w V, ?_, ?_⟩
  · refine CallR.imp (One_c hD) ?_ (fun ch w' ⟨h1, h2, h3⟩ => ⟨rfl, hom_none (.inl (by rw [h1]; simp)), h2, hf.trans h3.inr⟩)
    rintro v V1 ⟨x1, r1, rfl, rfl, hD1, hf1⟩
    refine st_cell (i := 1) (ttOk.get 5 _ rfl) rfl (hb.fr hf1 nb) hA (by simp) rfl rfl ?_
    intro V2 hb2 hf2
    exact ⟨(), ⟨.cons rfl (.cons rfl .nil), rfl⟩, x1, r1, rfl, hD1.fr hf2 ng nB, hb2, hf.trans (hf1.inr.trans hf2.inl)⟩
  rintro _ V ⟨x1, r1, rfl, hD, hb, hf⟩
  refine ⟨Unit, fun _ => ⟨[(0, .pointer (some ⟨g, 0, none⟩)), (1, .pointer (some ⟨b, o, none⟩))], []⟩, fun _ V => ∃ x2 r2, r1 = x2 :: r2 ∧ DecB B g r2 V ∧ Blk V b T A [u8 x0, u8 x1, u8 x2, .int .u64 (0 : Nat), .bool false, u8 0, u8 0, u8 0, u8 0, u8 0, u8 0] Z ∧ Fr [b, g] w V, ?_, ?_⟩
  · refine CallR.imp (One_c hD) ?_ (fun ch w' ⟨h1, h2, h3⟩ => ⟨rfl, hom_none (.inl (by rw [h1]; simp)), h2, hf.trans h3.inr⟩)
    rintro v V1 ⟨x2, r2, rfl, rfl, hD1, hf1⟩
    refine st_cell (i := 2) (ttOk.get 5 _ rfl) rfl (hb.fr hf1 nb) hA (by simp) rfl rfl ?_
    intro V2 hb2 hf2
    exact ⟨(), ⟨.cons rfl (.cons rfl .nil), rfl⟩, x2, r2, rfl, hD1.fr hf2 ng nB, hb2, hf.trans (hf1.inr.trans hf2.inl)⟩
  rintro _ V ⟨x2, r2, rfl, hD, hb, hf⟩
  refine ⟨Unit, fun _ => ⟨[(0, .pointer (some ⟨g, 0, none⟩)), (1, .pointer (some ⟨b, o, none⟩))], []⟩, fun _ V => ∃ y0 y1 y2 y3 y4 y5 y6 y7 r3, r2 = y0 :: y1 :: y2 :: y3 :: y4 :: y5 :: y6 :: y7 :: r3 ∧ DecB B g r3 V ∧ Blk V b T A [u8 x0, u8 x1, u8 x2, .int .u64 (leL [y0, y1, y2, y3, y4, y5, y6, y7]), .bool false, u8 0, u8 0, u8 0, u8 0, u8 0, u8 0] Z ∧ Fr [b, g] w V, ?_, ?_⟩
  · refine ⟨Option Addr × Nat, fun s => ⟨[(0, .pointer (some ⟨g, 0, none⟩)), (1, .pointer (some ⟨b, o, none⟩)), (31, .slice s.1 8 s.2), (32, .int .i64 (8 : Nat)), (33, .int .i64 (0 : Nat))], []⟩, fun s V => ∃ y0 y1 y2 y3 y4 y5 y6 y7 r3, r2 = y0 :: y1 :: y2 :: y3 :: y4 :: y5 :: y6 :: y7 :: r3 ∧ RowB byteE B V s.1 [y0, y1, y2, y3, y4, y5, y6, y7] ∧ DecB B g r3 V ∧ Blk V b T A [u8 x0, u8 x1, u8 x2, .int .u64 (0 : Nat), .bool false, u8 0, u8 0, u8 0, u8 0, u8 0, u8 0] Z ∧ Fr [b, g] w V, ?_, ?_⟩
    · refine CallR.imp (Next_c hD 8 (by decide)) ?_ (fun ch w' ⟨h1, h2, h3⟩ => ⟨rfl, hom_none (.inl (by simp only [List.length_cons]; omega)), h2, hf.trans h3.inr⟩)
      rintro v V1 ⟨h8, ⟨p, cap, rfl, hr, _⟩, hD1, hf1⟩
      obtain ⟨y0, y1, y2, y3, y4, y5, y6, y7, r3, rfl⟩ := split8 h8
      exact ⟨(p, cap), ⟨.cons rfl (.cons rfl (.cons rfl (.cons rfl (.cons rfl .nil)))), rfl⟩, y0, y1, y2, y3, y4, y5, y6, y7, r3, rfl, hr, hD1, hb.fr hf1 nb, hf.trans hf1.inr⟩
    rintro ⟨p, cap⟩ V ⟨y0, y1, y2, y3, y4, y5, y6, y7, r3, rfl, hr, hD, hb, hf⟩
    obtain ⟨l, hl⟩ : ∃ l, l = [y0, y1, y2, y3, y4, y5, y6, y7] := ⟨_, rfl⟩
    have hll : l.length = 8 := by rw [hl]; rfl
    rw [← hl] at hr
    dsimp only at hr
    have hr0 := hr
    rcases hr with h | ⟨bb, oo, hpp, hbB, hcl⟩
    · rw [h] at hll; cases hll
    subst hpp
    refine ⟨Nat, fun k => ⟨[(0, .pointer (some ⟨g, 0, none⟩)), (1, .pointer (some ⟨b, o, none⟩)), (31, .slice (some ⟨bb, oo, none⟩) 8 cap), (32, .int .i64 (8 : Nat)), (33, .int .i64 (k : Nat))], []⟩,
      fun k X => k ≤ 8 ∧ DecB B g r3 X ∧ Blk X b T A [u8 x0, u8 x1, u8 x2, .int .u64 (leL (l.take k)), .bool false, u8 0, u8 0, u8 0, u8 0, u8 0, u8 0] Z ∧ Fr [b] V X, fun k => 8 - k, 0, ⟨.cons rfl (.cons rfl (.cons rfl (.cons rfl (.cons rfl .nil)))), rfl⟩, ⟨by omega, hD, hb, Fr.refl _ _⟩, ?_⟩
    rintro k X ⟨hk, hDX, hbX, hfX⟩
    refine And.intro (fun hc => ?_) (fun hc => ?_)
    · have hc : (k : Int) < ((8 : Nat) : Int) := of_decide_eq_true hc
      have hk8 : k < 8 := by omega
      have hkl : k < l.length := by omega
      have hclX : Cells X ⟨bb, oo, none⟩ (l.flatMap byteE.enc) := cells_belowB (hfX.below (by have := hD.lt; omega) nB) hbB hcl
      have hgk : (l.flatMap byteE.enc)[k]? = some (u8 l[k]) := by rw [bytes_flat, List.getElem?_map, List.getElem?_eq_getElem hkl]; rfl
      refine ⟨k, rfl, hk8, ?_⟩
      refine ⟨u8 (l[k]'hkl), by rw [Nat.mul_one]; exact cells_at hclX hgk, ?_⟩
      refine DrawE.ord [14] [0, 1, 2, 3, 4, 5, 6, 7, 8, 9, 10, 11, 12, 13, 14] (by kernel_rfl) ?_
      refine ⟨_, cells_at ((hbX : Blk X.drew b T A _ Z).cells hA) (i := 3) rfl, ?_⟩
      have hbk := l[k].toNat_lt
      refine ⟨(l[k].toNat : Int), wrap_u64 (by omega), ?_⟩
      refine ⟨((8 * k : Nat) : Int), (wrap_i64 (by omega)).trans (by omega), ?_⟩
      refine ⟨by omega, ((l[k].toNat * 2 ^ (8 * k) : Nat) : Int), shl_step hbk hk8, ?_⟩
      have hlt : leL (l.take k) < 2 ^ (8 * k) := by
        have := leL_lt (l.take k)
        rwa [List.length_take, Nat.min_eq_left (by omega)] at this
      refine ⟨((leL (l.take k) + l[k].toNat * 2 ^ (8 * k) : Nat) : Int), or_step hlt hbk hk8, ?_⟩
      refine st_cell (w := X.drew) (i := 3) (ttOk.get 48 _ rfl) rfl (hbX : Blk X.drew b T A _ Z) hA (by simp) rfl rfl ?_
      intro Y hbY hfY
      have hfY : Fr [b] X Y := (Fr.of_below (Below.refl _ X).drew).trans hfY
      refine ⟨(k + 1 : Nat), (wrap_i64 (by omega)).trans (by omega), ?_⟩
      refine ⟨k + 1, ⟨.cons rfl (.cons rfl (.cons rfl (.cons rfl (.cons rfl .nil)))), rfl⟩, ⟨by omega, hDX.fr hfY ng nB, ?_, hfX.trans hfY⟩, by dsimp only; omega⟩
      rw [List.take_succ_eq_append_getElem hkl, leL_snoc, List.length_take, Nat.min_eq_left (by omega)]
      exact hbY
    · have hc : ¬ (k : Int) < ((8 : Nat) : Int) := of_decide_eq_false hc
      rw [List.take_of_length_le (by omega), hl] at hbX
      exact ⟨(), ⟨.cons rfl (.cons rfl .nil), rfl⟩, y0, y1, y2, y3, y4, y5, y6, y7, r3, rfl, hDX, hbX, hf.trans hfX.inl⟩
  rintro _ V ⟨y0, y1, y2, y3, y4, y5, y6, y7, r3, rfl, hD, hb, hf⟩
  obtain ⟨MK, hMK⟩ : ∃ MK, MK = leL [y0, y1, y2, y3, y4, y5, y6, y7] := ⟨_, rfl⟩
  rw [← hMK] at hb
  refine ⟨Unit, fun _ => ⟨[(0, .pointer (some ⟨g, 0, none⟩)), (1, .pointer (some ⟨b, o, none⟩))], []⟩, fun _ V => ∃ x3 r4, r3 = x3 :: r4 ∧ x3.toNat ≤ 1 ∧ DecB B g r4 V ∧ Blk V b T A [u8 x0, u8 x1, u8 x2, .int .u64 MK, .bool (decide (x3.toNat = 1)), u8 0, u8 0, u8 0, u8 0, u8 0, u8 0] Z ∧ Fr [b, g] w V, ?_, ?_⟩
  · refine CallR.imp (Flag_c hD) ?_ (fun ch w' ⟨h1, h2, h3⟩ => ⟨rfl, hom_flag h1, h2, hf.trans h3.inr⟩)
    rintro v V1 ⟨x3, r4, rfl, hx3, rfl, hD1, hf1⟩
    refine st_cell (i := 4) (ttOk.get 4 _ rfl) rfl (hb.fr hf1 nb) hA (by simp) rfl rfl ?_
    intro V2 hb2 hf2
    exact ⟨(), ⟨.cons rfl (.cons rfl .nil), rfl⟩, x3, r4, rfl, hx3, hD1.fr hf2 ng nB, hb2, hf.trans (hf1.inr.trans hf2.inl)⟩
  rintro _ V ⟨x3, r4, rfl, hx3, hD, hb, hf⟩
  refine ⟨Unit, fun _ => ⟨[(0, .pointer (some ⟨g, 0, none⟩)), (1, .pointer (some ⟨b, o, none⟩))], []⟩, fun _ V => ∃ x4 r5, r4 = x4 :: r5 ∧ DecB B g r5 V ∧ Blk V b T A [u8 x0, u8 x1, u8 x2, .int .u64 MK, .bool (decide (x3.toNat = 1)), u8 x4, u8 0, u8 0, u8 0, u8 0, u8 0] Z ∧ Fr [b, g] w V, ?_, ?_⟩
  · refine CallR.imp (One_c hD) ?_ (fun ch w' ⟨h1, h2, h3⟩ => ⟨rfl, hom_none (.inl (by rw [h1]; simp)), h2, hf.trans h3.inr⟩)
    rintro v V1 ⟨x4, r5, rfl, rfl, hD1, hf1⟩
    refine st_cell (i := 5) (ttOk.get 5 _ rfl) rfl (hb.fr hf1 nb) hA (by simp) rfl rfl ?_
    intro V2 hb2 hf2
    exact ⟨(), ⟨.cons rfl (.cons rfl .nil), rfl⟩, x4, r5, rfl, hD1.fr hf2 ng nB, hb2, hf.trans (hf1.inr.trans hf2.inl)⟩
  rintro _ V ⟨x4, r5, rfl, hD, hb, hf⟩
  refine ⟨Unit, fun _ => ⟨[(0, .pointer (some ⟨g, 0, none⟩)), (1, .pointer (some ⟨b, o, none⟩))], []⟩, fun _ V => ∃ x5 r6, r5 = x5 :: r6 ∧ DecB B g r6 V ∧ Blk V b T A [u8 x0, u8 x1, u8 x2, .int .u64 MK, .bool (decide (x3.toNat = 1)), u8 x4, u8 x5, u8 0, u8 0, u8 0, u8 0] Z ∧ Fr [b, g] w V, ?_, ?_⟩
  · refine CallR.imp (One_c hD) ?_ (fun ch w' ⟨h1, h2, h3⟩ => ⟨rfl, hom_none (.inl (by rw [h1]; simp)), h2, hf.trans h3.inr⟩)
    rintro v V1 ⟨x5, r6, rfl, rfl, hD1, hf1⟩
    refine st_cell (i := 6) (ttOk.get 5 _ rfl) rfl (hb.fr hf1 nb) hA (by simp) rfl rfl ?_
    intro V2 hb2 hf2
    exact ⟨(), ⟨.cons rfl (.cons rfl .nil), rfl⟩, x5, r6, rfl, hD1.fr hf2 ng nB, hb2, hf.trans (hf1.inr.trans hf2.inl)⟩
  rintro _ V ⟨x5, r6, rfl, hD, hb, hf⟩
  refine DrawE.ord [7, 8] [0, 1, 2, 3, 4, 5, 6, 7, 8] (by kernel_rfl) ?_
  refine CallR.imp (Next_c (hD.below (Below.refl _ V).drew) 4 (by decide)) ?_ (fun ch w' ⟨h1, h2, h3⟩ => ⟨rfl, hom_none (.inl (by simp only [List.length_cons]; omega)), h2, hf.trans ((Fr.of_below (Below.refl _ V).drew).trans h3.inr)⟩)
  rintro v V1 ⟨h4, ⟨p, cap, rfl, hr, _⟩, hD1, hf1⟩
  have hf1 : Fr [g] V V1 := (Fr.of_below (Below.refl _ V).drew).trans hf1
  obtain ⟨z0, z1, z2, z3, r7, rfl⟩ := split4 h4
  refine cp_blk (i := 7) (news := [z0, z1, z2, z3]) Tryz.underlying23 (ttOk.get 5 _ rfl) rfl (hb.fr hf1 nb) hA rfl (by simp) (by simp) hr ?_
  intro _ V2 hb2 hf2
  rw [hMK] at hb2
  refine ⟨⟨x0, x1, x2, y0, y1, y2, y3, y4, y5, y6, y7, decide (x3.toNat = 1), x4, x5, z0, z1, z2, z3⟩, r7, by simp only [decHom, if_pos hx3], ?_, hD1.fr hf2 ng nB, hf.trans (hf1.inr.trans hf2.inl)⟩
  have e := leM_leL ⟨x0, x1, x2, y0, y1, y2, y3, y4, y5, y6, y7, decide (x3.toNat = 1), x4, x5, z0, z1, z2, z3⟩
  show Blk V2 b T A [u8 x0, u8 x1, u8 x2, .int .u64 (leM _), .bool _, u8 x4, u8 x5, u8 z0, u8 z1, u8 z2, u8 z3] Z
  rw [e]
  exact hb2
end Go.Proofs.YtedeohcdcaimhaaGreatDoor
namespace Go.Proofs.YtedeohcdcaimhaaGreatDoor
open Go.Vc Go.RowKit Go.Sei

open Classical in
noncomputable def cdec (p : Prop) : Bool := decide p
theorem cdec_eq {p : Prop} [h : Decidable p] : cdec p = decide p := by unfold cdec; congr
theorem cdec_iff {p q : Prop} [Decidable q] (h : p ↔ q) : cdec p = decide q := by
  have : p = q := propext h
  subst this
  exact cdec_eq
section
variable {T : TypeId} {n k : Nat} {G : List Value → Prop} (h : TyEq Tryz.prog T true n k G) (d : Nat) (hd : d + k = 10000) (hg : Tryz.prog.eqGuardType Tryz.prog.depth T = false) {a b : List Value} (ha : a.length = n) (hb : b.length = n) (ga : G a) (gb : G b)
include h hd hg ha hb ga gb
omit hg in
theorem equal_ty (w : World) : (Op.equal T (.agg a.toArray) (.agg b.toArray)).run Tryz.prog w = .ok (cdec (a = b)) w := by
  obtain ⟨r, h1, h2⟩ := h.eq d w a b ha hb ga gb
  have e : r = cdec (a = b) := by
    unfold cdec
    cases r with
    | true => simp [h2.1 rfl]
    | false =>
      have : ¬ a = b := fun e => by have := h2.2 e; cases this
      simp [this]
  rw [hd] at h1
  rw [← e]
  exact h1
theorem neq_ty (x y : Operand) (w : World) : (do eqGuard .neq T x y (.agg a.toArray) (.agg b.toArray); binOp .neq T (.agg a.toArray) (.agg b.toArray)).run Tryz.prog w = .ok (.bool (!cdec (a = b))) w := by
  have he := equal_ty h d hd ha hb ga gb w
  have h1 : (eqGuard .neq T x y (.agg a.toArray) (.agg b.toArray)).run Tryz.prog w = .ok () w := by
    simp only [eqGuard, Bool.not_true, Bool.false_eq_true, if_false, Sem.run_bind, run_program, Result.andThen_ok, hg, Bool.not_false, if_true, Sem.run_pure]
  rw [Sem.run_bind, h1]
  simp only [Result.andThen_ok, binOp, Sem.run_bind, he, Sem.run_pure]
theorem eql_ty (x y : Operand) (w : World) : (do eqGuard .eql T x y (.agg a.toArray) (.agg b.toArray); binOp .eql T (.agg a.toArray) (.agg b.toArray)).run Tryz.prog w = .ok (.bool (cdec (a = b))) w := by
  have he := equal_ty h d hd ha hb ga gb w
  have h1 : (eqGuard .eql T x y (.agg a.toArray) (.agg b.toArray)).run Tryz.prog w = .ok () w := by
    simp only [eqGuard, Bool.not_true, Bool.false_eq_true, if_false, Sem.run_bind, run_program, Result.andThen_ok, hg, Bool.not_false, if_true, Sem.run_pure]
  rw [Sem.run_bind, h1]
  simp only [Result.andThen_ok, binOp, Sem.run_bind, he, Sem.run_pure]
end
theorem eql_bool (x y : Operand) (a b : Bool) (w : World) : (do eqGuard .eql 4 x y (.bool a) (.bool b); binOp .eql 4 (.bool a) (.bool b)).run Tryz.prog w = .ok (.bool (decide (a = b))) w := by
  have he : (Op.equal 4 (.bool a) (.bool b)).run Tryz.prog w = .ok (decide (a = b)) w := eq_bool' 9999 a b w
  have h1 : (eqGuard .eql 4 x y (.bool a) (.bool b)).run Tryz.prog w = .ok () w := by
    simp only [eqGuard, Bool.not_true, Bool.false_eq_true, if_false, Sem.run_pure]
  rw [Sem.run_bind, h1]
  simp only [Result.andThen_ok, binOp, Sem.run_bind, he, Sem.run_pure]

theorem u8_inj {x y : UInt8} (h : u8 x = u8 y) : x = y := by
  simp only [u8, Value.int.injEq, true_and] at h
  exact u8_eq.1 h
theorem s8_inj {x y : UInt8} (h : s8 x = s8 y) : x = y := by
  have hx := x.toNat_lt
  have hy := y.toNat_lt
  apply UInt8.toNat_inj.1
  unfold s8 at h
  split at h <;> split at h <;> omega
theorem leL_inj : ∀ {l l' : List UInt8}, l.length = l'.length → leL l = leL l' → l = l'
  | [], [], _, _ => rfl
  | a :: r, b :: s, hl, h => by
    have ha := a.toNat_lt
    have hb := b.toNat_lt
    simp only [leL] at h
    have h1 : a.toNat = b.toNat := by omega
    have h2 : leL r = leL s := by omega
    rw [UInt8.toNat_inj.1 h1, leL_inj (by simpa using hl) h2]
theorem sto_inj {s t : Sto} (h : stoE.enc s = stoE.enc t) : s = t := by
  simp only [stoE, List.cons.injEq, and_true] at h
  obtain ⟨h1, h2⟩ := h
  cases s; cases t
  simp only [Sto.mk.injEq]
  exact ⟨u8_inj h1, u8_inj h2⟩
theorem lin_inj {s t : Lin} (h : linE.enc s = linE.enc t) : s = t := by
  simp only [linE, List.cons.injEq, and_true, Value.int.injEq, true_and, Value.bool.injEq] at h
  obtain ⟨h1, h2, h3, h4, h5, h6, h7, h8⟩ := h
  cases s; cases t
  simp only [Lin.mk.injEq]
  exact ⟨u8_inj h1, u8_inj h2, s8_inj h3, h4, u8_inj h5, u8_inj h6, u8_inj h7, u8_inj h8⟩
theorem nte_inj {s t : Nte} (h : nteE.enc s = nteE.enc t) : s = t := by
  simp only [nteE, i64v, List.cons.injEq, and_true, Value.int.injEq, true_and] at h
  obtain ⟨h1, h2, h3, h4, h5, h6, h7⟩ := h
  cases s; cases t
  simp only [Nte.mk.injEq]
  exact ⟨u8_inj h1, h2, u8_inj h3, u8_inj h4, u8_inj h5, u8_inj h6, u8_inj h7⟩
theorem hom_inj {s t : Hom} (h : homE.enc s = homE.enc t) : s = t := by
  simp only [homE, List.cons.injEq, and_true, Value.int.injEq, true_and, Value.bool.injEq] at h
  obtain ⟨h1, h2, h3, h4, h5, h6, h7, h8, h9, h10, h11⟩ := h
  have h4 : leM s = leM t := by omega
  rw [leM_leL, leM_leL] at h4
  have h12 := leL_inj (by rfl) h4
  simp only [mL, List.cons.injEq, and_true] at h12
  obtain ⟨g0, g1, g2, g3, g4, g5, g6, g7⟩ := h12
  cases s; cases t
  simp only [Hom.mk.injEq]
  exact ⟨u8_inj h1, u8_inj h2, u8_inj h3, g0, g1, g2, g3, g4, g5, g6, g7, h5, u8_inj h6, u8_inj h7, u8_inj h8, u8_inj h9, u8_inj h10, u8_inj h11⟩
theorem flat_inj {α : Type} {E : Enc α} (hi : ∀ {a b : α}, E.enc a = E.enc b → a = b) : ∀ {l l' : List α}, l.length = l'.length → l.flatMap E.enc = l'.flatMap E.enc → l = l'
  | [], [], _, _ => rfl
  | a :: r, b :: s, hl, h => by
    rw [List.flatMap_cons, List.flatMap_cons] at h
    obtain ⟨h1, h2⟩ := List.append_inj h (by rw [E.len, E.len])
    rw [hi h1, flat_inj hi (by simpa using hl) h2]
theorem cac_inj {c c' : Cac} (h1 : c.ways.length = 16) (h2 : c.notes.length = 4) (h1' : c'.ways.length = 16) (h2' : c'.notes.length = 4) : cacCells c = cacCells c' ↔ c = c' := by
  refine ⟨fun h => ?_, fun h => by rw [h]⟩
  unfold cacCells opCells at h
  obtain ⟨e1, h⟩ := List.append_inj h (by rw [flat_len, flat_len, h1, h1'])
  obtain ⟨e2, h⟩ := List.append_inj h (by rw [flat_len, flat_len, h2, h2'])
  simp only [List.cons.injEq, and_true] at h
  obtain ⟨e3, e4, e5, e6⟩ := h
  have w1 := flat_inj (E := linE) lin_inj (by omega) e1
  have w2 := flat_inj (E := nteE) nte_inj (by omega) e2
  cases c; cases c'
  simp only [Cac.mk.injEq]
  exact ⟨w1, w2, u8_inj e3, u8_inj e4, u8_inj e5, u8_inj e6⟩

theorem neq_sto (x y : Operand) (s t : Sto) (w : World) : (do eqGuard .neq 132 x y (.agg (stoE.enc s).toArray) (.agg (stoE.enc t).toArray); binOp .neq 132 (.agg (stoE.enc s).toArray) (.agg (stoE.enc t).toArray)).run Tryz.prog w = .ok (.bool (!decide (s = t))) w := by
  obtain ⟨G, h1, h2⟩ := tSto
  have := neq_ty h1 9998 rfl (by kernel_rfl) (stoE.len s) (stoE.len t) (h2 s) (h2 t) x y w
  rw [cdec_iff ⟨sto_inj, fun e => by rw [e]⟩] at this
  exact this
theorem neq_cac (x y : Operand) {c c' : Cac} (h1 : c.ways.length = 16) (h2 : c.notes.length = 4) (h1' : c'.ways.length = 16) (h2' : c'.notes.length = 4) (w : World) : (do eqGuard .neq 97 x y (.agg (cacCells c).toArray) (.agg (cacCells c').toArray); binOp .neq 97 (.agg (cacCells c).toArray) (.agg (cacCells c').toArray)).run Tryz.prog w = .ok (.bool (!decide (c = c'))) w := by
  obtain ⟨G, g1, g2⟩ := tCac
  have hl : ∀ c : Cac, c.ways.length = 16 → c.notes.length = 4 → (cacCells c).length = 160 := fun c h1 h2 => by
    unfold cacCells opCells
    rw [List.length_append, List.length_append, flat_len (E := linE), flat_len (E := nteE), h1, h2]; rfl
  have := neq_ty g1 9994 rfl (by kernel_rfl) (hl c h1 h2) (hl c' h1' h2') (g2 c h1 h2) (g2 c' h1' h2') x y w
  rw [cdec_iff (cac_inj h1 h2 h1' h2')] at this
  exact this
theorem eql_homs (x y : Operand) {l l' : List Hom} (h : l.length = 6) (h' : l'.length = 6) (w : World) : (do eqGuard .eql 55 x y (.agg (l.flatMap homE.enc).toArray) (.agg (l'.flatMap homE.enc).toArray); binOp .eql 55 (.agg (l.flatMap homE.enc).toArray) (.agg (l'.flatMap homE.enc).toArray)).run Tryz.prog w = .ok (.bool (decide (l = l'))) w := by
  obtain ⟨G, g1, g2⟩ := tHoms
  have := eql_ty g1 9996 rfl (by kernel_rfl) (by rw [flat_len, h]; rfl) (by rw [flat_len, h']; rfl) (g2 l h) (g2 l' h') x y w
  rw [cdec_iff ⟨fun e => flat_inj (E := homE) hom_inj (by omega) e, fun e => by rw [e]⟩] at this
  exact this
theorem eql_regs (x y : Operand) {l l' : List UInt8} (h : l.length = 8) (h' : l'.length = 8) (w : World) : (do eqGuard .eql 63 x y (.agg (l.map u8).toArray) (.agg (l'.map u8).toArray); binOp .eql 63 (.agg (l.map u8).toArray) (.agg (l'.map u8).toArray)).run Tryz.prog w = .ok (.bool (decide (l = l'))) w := by
  have := eql_ty tRegs 9998 rfl (by kernel_rfl) (by simp [h]) (by simp [h']) (gBytes l h) (gBytes l' h') x y w
  rw [cdec_iff ⟨fun e => List.map_inj_right (fun x y => u8_inj) |>.1 e, fun e => by rw [e]⟩] at this
  exact this

theorem SameStores_c (p1 p2 : Option Addr) (cap1 cap2 : Nat) (l1 l2 : List Sto) (w : World) (h1 : SlR stoE w p1 l1) (h2 : SlR stoE w p2 l2) (hn : l1.length ≤ 1000000000) :
    Calls Tryz.prog 98 #[.slice p1 l1.length cap1, .slice p2 l2.length cap2] w fun e w' => e = .returned (.bool (decide (l1 = l2))) ∧ Below w.heap.size w w' := by
  refine calls_of_E (S := sg 26) (sgOk _) (args := [.slice p1 l1.length cap1, .slice p2 l2.length cap2]) Tryz.func98 rfl rfl (Nat.le_of_ble_eq_true rfl) rfl ?_
  refine And.intro (fun h => ?_) (fun h => ?_)
  · have h := nt h
    refine And.intro (rb ?_) (Below.refl _ _)
    rw [decide_eq_false (fun e => h (by rw [e]))]
  have h := nf h
  refine ⟨Nat, fun k => ⟨[(0, .slice p1 l1.length cap1), (1, .slice p2 l2.length cap2), (4, .bool false), (5, .int .i64 (k : Nat))], []⟩,
    fun k X => k ≤ l1.length ∧ Below w.heap.size w X ∧ l1.take k = l2.take k, fun k => l1.length - k, 0, ⟨.cons rfl (.cons rfl (.cons rfl (.cons rfl .nil))), rfl⟩, ⟨Nat.zero_le _, Below.refl _ _, by simp⟩, ?_⟩
  rintro k X ⟨hk, hbX, hm⟩
  refine And.intro (fun h => ?_) (fun h => ?_)
  · have h := of_decide_eq_true h
    have hkl : k < l1.length := by omega
    have hkl2 : k < l2.length := by omega
    obtain ⟨b1, o1, rfl, hb1, hc1⟩ := (h1.below hbX.drew).at hkl
    obtain ⟨b2, o2, rfl, hb2, hc2⟩ := (h2.below hbX.drew).at hkl2
    refine DrawE.ord [] [0, 1, 2, 3, 4, 5, 6, 7, 8] (by kernel_rfl) ?_
    refine ⟨k, rfl, hkl, ?_⟩
    refine ⟨stoE.enc l1[k], rfl, hc1 k hkl, hb1, ?_⟩
    refine ⟨k, rfl, hkl2, ?_⟩
    refine ⟨stoE.enc l2[k], rfl, hc2 k hkl2, hb2, ?_⟩
    refine ⟨_, fun w => neq_sto _ _ l1[k] l2[k] w, ?_⟩
    refine And.intro (fun h => ?_) (fun h => ?_)
    · have h : ¬ l1[k] = l2[k] := by simpa using h
      refine And.intro (rb ?_) hbX.drew
      rw [decide_eq_false (fun e => h (by simp only [e]))]
    · have h : l1[k] = l2[k] := by simpa using h
      refine ⟨_, wrap_i64 (by omega), ?_⟩
      refine ⟨k + 1, ⟨.cons rfl (.cons rfl (.cons rfl (.cons rfl .nil))), rfl⟩, ⟨hkl, hbX.drew, ?_⟩, by dsimp only; omega⟩
      rw [List.take_succ_eq_append_getElem hkl, List.take_succ_eq_append_getElem hkl2, hm, h]
  · have h := of_decide_eq_false h
    refine And.intro (rb ?_) hbX
    rw [List.take_of_length_le (by omega), List.take_of_length_le (by omega)] at hm
    rw [decide_eq_true hm]
end Go.Proofs.YtedeohcdcaimhaaGreatDoor
namespace Go.Proofs.YtedeohcdcaimhaaGreatDoor
open Go.Vc Go.RowKit Go.Sei

theorem SameCore_c {B : Nat} {c c' : Cor} {p p' : Option Addr} {cap cap' : Nat} {w : World} (h1 : RowB stoE B w p c.buf) (h2 : RowB stoE B w p' c'.buf) (hB : B ≤ w.heap.size) (hn : c.buf.length ≤ 1000000000) :
    Calls Tryz.prog 75 #[.agg (corCells c (.slice p c.buf.length cap)).toArray, .agg (corCells c' (.slice p' c'.buf.length cap')).toArray] w fun e w' => e = .returned (.bool (decide (c = c'))) ∧ Below w.heap.size w w' := by
  refine calls_of_E (S := sg 38) (sgOk _) (args := [.agg (corCells c (.slice p c.buf.length cap)).toArray, .agg (corCells c' (.slice p' c'.buf.length cap')).toArray]) Tryz.func75 rfl rfl (Nat.le_of_ble_eq_true rfl) rfl ?_
  obtain ⟨W0, hW0⟩ : ∃ W0, (w.alloc (.cells (corCells c (.slice p c.buf.length cap)).toArray 66)).alloc (.cells (corCells c' (.slice p' c'.buf.length cap')).toArray 66) = W0 := ⟨_, rfl⟩
  have hb0 : Below w.heap.size w W0 := by rw [← hW0]; exact ((Below.refl _ _).alloc (Nat.le_refl _) _).alloc (by simp) _
  have f0 : W0.heap[w.heap.size]? = some (.cells (corCells c (.slice p c.buf.length cap)).toArray 66 (0, 0)) := by rw [← hW0]; exact hold _ (hnew w _)
  have f1 : W0.heap[(w.alloc (.cells (corCells c (.slice p c.buf.length cap)).toArray 66)).heap.size]? = some (.cells (corCells c' (.slice p' c'.buf.length cap')).toArray 66 (0, 0)) := by rw [← hW0]; exact hnew _ _
  have g1 := (h1.below (hb0.mono hB)).slr (Nat.le_trans hB hb0.size)
  have g2 := (h2.below (hb0.mono hB)).slr (Nat.le_trans hB hb0.size)
  subst hW0
  have c0 : Cells _ ⟨w.heap.size, 0, none⟩ (corCells c (.slice p c.buf.length cap)) := cells_block f0
  have c1 : Cells _ ⟨(w.alloc (.cells (corCells c (.slice p c.buf.length cap)).toArray 66)).heap.size, 0, none⟩ (corCells c' (.slice p' c'.buf.length cap')) := cells_block f1
  refine ⟨_, cells_at c0 (i := 0) rfl, ?_⟩
  refine ⟨_, cells_at c1 (i := 0) rfl, ?_⟩
  refine And.intro (fun q0 => ?_) (fun q0 => ?_)
  · have q0 : c.pc = c'.pc := u8_eq.1 (of_decide_eq_true q0)
    refine ⟨[c.r0, c.r1, c.r2, c.r3, c.r4, c.r5, c.r6, c.r7].map u8, rfl, cells_sub (n := 1) (m := 8) c0, hlt f0, ?_⟩
    refine ⟨[c'.r0, c'.r1, c'.r2, c'.r3, c'.r4, c'.r5, c'.r6, c'.r7].map u8, rfl, cells_sub (n := 1) (m := 8) c1, hlt f1, ?_⟩
    refine ⟨_, fun w => eql_regs _ _ (l := [c.r0, c.r1, c.r2, c.r3, c.r4, c.r5, c.r6, c.r7]) (l' := [c'.r0, c'.r1, c'.r2, c'.r3, c'.r4, c'.r5, c'.r6, c'.r7]) rfl rfl w, ?_⟩
    refine And.intro (fun q1 => ?_) (fun q1 => ?_)
    · have q1 := of_decide_eq_true q1
      refine ⟨_, cells_at c0 (i := 9) rfl, ?_⟩
      refine ⟨_, cells_at c1 (i := 9) rfl, ?_⟩
      refine Calls.mono (SameStores_c p p' cap cap' c.buf c'.buf _ g1 g2 hn) ?_
      rintro e V ⟨rfl, hb⟩
      have hw := hb0.trans (hb.mono hb0.size)
      have v0 := cells_below hb c0
      have v1 := cells_below hb c1
      refine And.intro (fun q2 => ?_) (fun q2 => ?_)
      · have q2 : c.buf = c'.buf := of_decide_eq_true q2
        refine ⟨_, cells_at v0 (i := 10) rfl, ?_⟩
        refine ⟨_, cells_at v1 (i := 10) rfl, ?_⟩
        refine ⟨_, fun w => eql_bool _ _ c.waits c'.waits w, ?_⟩
        refine And.intro (fun q3 => ?_) (fun q3 => ?_)
        · have q3 : c.waits = c'.waits := of_decide_eq_true q3
          refine ⟨_, cells_at v0 (i := 11) rfl, ?_⟩
          refine ⟨_, cells_at v1 (i := 11) rfl, ?_⟩
          refine ⟨_, fun w => eql_bool _ _ c.drain c'.drain w, ?_⟩
          refine ⟨rb ?_, hw⟩
          rw [decide_eq_decide]
          simp only [List.cons.injEq, and_true] at q1
          cases c; cases c'
          simp only at q0 q1 q2 q3
          simp only [Cor.mk.injEq, q0, q1, q2, q3, true_and, and_self]
        · have q3 : ¬ c.waits = c'.waits := of_decide_eq_false q3
          exact ⟨rb (decide_eq_false fun e => q3 (by rw [e])).symm, hw⟩
      · have q2 : ¬ c.buf = c'.buf := of_decide_eq_false q2
        refine And.intro (fun h => by cases h) (fun _ => ?_)
        exact ⟨rb (decide_eq_false fun e => q2 (by rw [e])).symm, hw⟩
    · have q1 := of_decide_eq_false q1
      refine And.intro (fun h => by cases h) (fun _ => ?_)
      refine And.intro (fun h => by cases h) (fun _ => ?_)
      exact ⟨rb (decide_eq_false fun e => q1 (by rw [e])).symm, hb0⟩
  · have q0 : ¬ c.pc = c'.pc := fun e => of_decide_eq_false q0 (u8_eq.2 e)
    refine And.intro (fun h => by cases h) (fun _ => ?_)
    refine And.intro (fun h => by cases h) (fun _ => ?_)
    refine And.intro (fun h => by cases h) (fun _ => ?_)
    exact ⟨rb (decide_eq_false fun e => q0 (by rw [e])).symm, hb0⟩

theorem SameCores_c {B : Nat} {p1 p2 : Option Addr} {cap1 cap2 : Nat} {l1 l2 : List Cor} {w : World} (h1 : CorsV B w p1 l1) (h2 : CorsV B w p2 l2) (hB : B ≤ w.heap.size) (hn : l1.length ≤ 1000000000) (hbf : ∀ c ∈ l1, c.buf.length ≤ 1000000000) :
    Calls Tryz.prog 38 #[.slice p1 l1.length cap1, .slice p2 l2.length cap2] w fun e w' => e = .returned (.bool (decide (l1 = l2))) ∧ Below w.heap.size w w' := by
  refine calls_of_E (S := sg 27) (sgOk _) (args := [.slice p1 l1.length cap1, .slice p2 l2.length cap2]) Tryz.func38 rfl rfl (Nat.le_of_ble_eq_true rfl) rfl ?_
  refine And.intro (fun h => ?_) (fun h => ?_)
  · have h := nt h
    refine And.intro (rb ?_) (Below.refl _ _)
    rw [decide_eq_false (fun e => h (by rw [e]))]
  have h := nf h
  refine ⟨Nat, fun k => ⟨[(0, .slice p1 l1.length cap1), (1, .slice p2 l2.length cap2), (4, .bool false), (5, .int .i64 (k : Nat))], []⟩,
    fun k X => k ≤ l1.length ∧ Below w.heap.size w X ∧ l1.take k = l2.take k, fun k => l1.length - k, 0, ⟨.cons rfl (.cons rfl (.cons rfl (.cons rfl .nil))), rfl⟩, ⟨Nat.zero_le _, Below.refl _ _, by simp⟩, ?_⟩
  rintro k X ⟨hk, hbX, hm⟩
  refine And.intro (fun h => ?_) (fun h => ?_)
  · have h := of_decide_eq_true h
    have hkl : k < l1.length := by omega
    have hkl2 : k < l2.length := by omega
    obtain ⟨b1, o1, hp1, ha1⟩ := h1.below (hbX.drew.mono hB)
    obtain ⟨b2, o2, hp2, ha2⟩ := h2.below (hbX.drew.mono hB)
    obtain ⟨q1, d1, hb1, hc1, hs1⟩ := ha1 k hkl
    obtain ⟨q2, d2, hb2, hc2, hs2⟩ := ha2 k hkl2
    rcases hp1 with hp1 | hp1
    · omega
    rcases hp2 with hp2 | hp2
    · omega
    subst hp1 hp2
    have hsz : B ≤ X.drew.heap.size := Nat.le_trans hB hbX.drew.size
    refine DrawE.ord [] [0, 1, 2, 3, 4, 5, 6, 7, 8, 9] (by kernel_rfl) ?_
    refine ⟨k, rfl, hkl, ?_⟩
    refine ⟨_, rfl, hc1, by show b1 < _; omega, ?_⟩
    refine ⟨k, rfl, hkl2, ?_⟩
    refine ⟨_, rfl, hc2, by show b2 < _; omega, ?_⟩
    refine Calls.mono (SameCore_c hs1 hs2 hsz (hbf _ (List.getElem_mem _))) ?_
    rintro e Y ⟨rfl, hbY⟩
    refine ⟨hbY, ?_⟩
    have hwY := hbX.drew.trans (hbY.mono hbX.drew.size)
    refine And.intro (fun h => ?_) (fun h => ?_)
    · have h : ¬ l1[k] = l2[k] := by simpa using h
      refine And.intro (rb ?_) hwY
      rw [decide_eq_false (fun e => h (by simp only [e]))]
    · have h : l1[k] = l2[k] := by simpa using h
      refine ⟨_, wrap_i64 (by omega), ?_⟩
      refine ⟨k + 1, ⟨.cons rfl (.cons rfl (.cons rfl (.cons rfl .nil))), rfl⟩, ⟨hkl, hwY, ?_⟩, by dsimp only; omega⟩
      rw [List.take_succ_eq_append_getElem hkl, List.take_succ_eq_append_getElem hkl2, hm, h]
  · have h := of_decide_eq_false h
    refine And.intro (rb ?_) hbX
    rw [List.take_of_length_le (by omega), List.take_of_length_le (by omega)] at hm
    rw [decide_eq_true hm]

theorem SameCaches_c {B : Nat} {p1 p2 : Option Addr} {cap1 cap2 : Nat} {l1 l2 : List Cac} {w : World} (h1 : CacsV B w p1 l1) (h2 : CacsV B w p2 l2) (hB : B ≤ w.heap.size) (hn : l1.length ≤ 1000000000) :
    Calls Tryz.prog 39 #[.slice p1 l1.length cap1, .slice p2 l2.length cap2] w fun e w' => e = .returned (.bool (decide (l1 = l2))) ∧ Below w.heap.size w w' := by
  refine calls_of_E (S := sg 26) (sgOk _) (args := [.slice p1 l1.length cap1, .slice p2 l2.length cap2]) Tryz.func39 rfl rfl (Nat.le_of_ble_eq_true rfl) rfl ?_
  refine And.intro (fun h => ?_) (fun h => ?_)
  · have h := nt h
    refine And.intro (rb ?_) (Below.refl _ _)
    rw [decide_eq_false (fun e => h (by rw [e]))]
  have h := nf h
  refine ⟨Nat, fun k => ⟨[(0, .slice p1 l1.length cap1), (1, .slice p2 l2.length cap2), (4, .bool false), (5, .int .i64 (k : Nat))], []⟩,
    fun k X => k ≤ l1.length ∧ Below w.heap.size w X ∧ l1.take k = l2.take k, fun k => l1.length - k, 0, ⟨.cons rfl (.cons rfl (.cons rfl (.cons rfl .nil))), rfl⟩, ⟨Nat.zero_le _, Below.refl _ _, by simp⟩, ?_⟩
  rintro k X ⟨hk, hbX, hm⟩
  refine And.intro (fun h => ?_) (fun h => ?_)
  · have h := of_decide_eq_true h
    have hkl : k < l1.length := by omega
    have hkl2 : k < l2.length := by omega
    obtain ⟨b1, o1, hp1, ha1⟩ := h1.below (hbX.drew.mono hB)
    obtain ⟨b2, o2, hp2, ha2⟩ := h2.below (hbX.drew.mono hB)
    obtain ⟨hb1, hc1, m1, n1⟩ := ha1 k hkl
    obtain ⟨hb2, hc2, m2, n2⟩ := ha2 k hkl2
    rcases hp1 with hp1 | hp1
    · omega
    rcases hp2 with hp2 | hp2
    · omega
    subst hp1 hp2
    have hsz : B ≤ X.drew.heap.size := Nat.le_trans hB hbX.drew.size
    have hl : ∀ c : Cac, c.ways.length = 16 → c.notes.length = 4 → (cacCells c).length = 160 := fun c h1 h2 => by
      unfold cacCells opCells
      rw [List.length_append, List.length_append, flat_len (E := linE), flat_len (E := nteE), h1, h2]; rfl
    refine DrawE.ord [] [0, 1, 2, 3, 4, 5, 6, 7, 8] (by kernel_rfl) ?_
    refine ⟨k, rfl, hkl, ?_⟩
    refine ⟨_, hl _ m1 n1, hc1, by show b1 < _; omega, ?_⟩
    refine ⟨k, rfl, hkl2, ?_⟩
    refine ⟨_, hl _ m2 n2, hc2, by show b2 < _; omega, ?_⟩
    refine ⟨_, fun w => neq_cac _ _ m1 n1 m2 n2 w, ?_⟩
    refine And.intro (fun h => ?_) (fun h => ?_)
    · have h : ¬ l1[k] = l2[k] := by simpa using h
      refine And.intro (rb ?_) hbX.drew
      rw [decide_eq_false (fun e => h (by simp only [e]))]
    · have h : l1[k] = l2[k] := by simpa using h
      refine ⟨_, wrap_i64 (by omega), ?_⟩
      refine ⟨k + 1, ⟨.cons rfl (.cons rfl (.cons rfl (.cons rfl .nil))), rfl⟩, ⟨hkl, hbX.drew, ?_⟩, by dsimp only; omega⟩
      rw [List.take_succ_eq_append_getElem hkl, List.take_succ_eq_append_getElem hkl2, hm, h]
  · have h := of_decide_eq_false h
    refine And.intro (rb ?_) hbX
    rw [List.take_of_length_le (by omega), List.take_of_length_le (by omega)] at hm
    rw [decide_eq_true hm]

theorem SameSys_c {va vb : List Value} {a b : Sy} {w : World} (hSa : SysV w.heap.size w va a) (hSb : SysV w.heap.size w vb b) (hn1 : a.cores.length ≤ 1000000000) (hn2 : a.caches.length ≤ 1000000000) (hn3 : a.net.length ≤ 1000000000) (hbf : ∀ c ∈ a.cores, c.buf.length ≤ 1000000000) :
    Calls Tryz.prog 13 #[.agg va.toArray, .agg vb.toArray] w fun e w' => e = .returned (.bool (decide (a = b))) ∧ Below w.heap.size w w' := by
  refine calls_of_E (S := sg 31) (sgOk _) (args := [.agg va.toArray, .agg vb.toArray]) Tryz.func13 rfl rfl (Nat.le_of_ble_eq_true rfl) rfl ?_
  obtain ⟨W0, hW0⟩ : ∃ W0, (w.alloc (.cells va.toArray 58)).alloc (.cells vb.toArray 58) = W0 := ⟨_, rfl⟩
  have hb0 : Below w.heap.size w W0 := by rw [← hW0]; exact ((Below.refl _ _).alloc (Nat.le_refl _) _).alloc (by simp) _
  have f0 : W0.heap[w.heap.size]? = some (.cells va.toArray 58 (0, 0)) := by rw [← hW0]; exact hold _ (hnew w _)
  have f1 : W0.heap[(w.alloc (.cells va.toArray 58)).heap.size]? = some (.cells vb.toArray 58 (0, 0)) := by rw [← hW0]; exact hnew _ _
  obtain ⟨⟨p1, c1, p2, c2, p3, c3, hva, a1, a2, a3, _⟩, a6⟩ := hSa.below hb0
  obtain ⟨⟨q1, d1, q2, d2, q3, d3, hvb, b1, b2, b3, _⟩, b6⟩ := hSb.below hb0
  have hHa : (a.homes.flatMap homE.enc).length = 66 := by rw [flat_len, a6]; rfl
  have hHb : (b.homes.flatMap homE.enc).length = 66 := by rw [flat_len, b6]; rfl
  subst hW0
  have ca : Cells _ ⟨w.heap.size, 0, none⟩ va := cells_block f0
  have cb : Cells _ ⟨(w.alloc (.cells va.toArray 58)).heap.size, 0, none⟩ vb := cells_block f1
  refine ⟨_, cells_at ca (i := 0) (by rw [hva]; rfl), ?_⟩
  refine ⟨_, cells_at cb (i := 0) (by rw [hvb]; rfl), ?_⟩
  refine Calls.mono (SameCores_c a1 b1 hb0.size hn1 hbf) ?_
  rintro e V ⟨rfl, hbV⟩
  have hwV := hb0.trans (hbV.mono hb0.size)
  refine And.intro (fun h1 => ?_) (fun h1 => ?_)
  · have h1 : a.cores = b.cores := of_decide_eq_true h1
    refine ⟨_, cells_at (cells_below hbV ca) (i := 1) (by rw [hva]; rfl), ?_⟩
    refine ⟨_, cells_at (cells_below hbV cb) (i := 1) (by rw [hvb]; rfl), ?_⟩
    refine Calls.mono (SameCaches_c (a2.below (hbV.mono hb0.size)) (b2.below (hbV.mono hb0.size)) hwV.size hn2) ?_
    rintro e X ⟨rfl, hbX⟩
    have hVX := hbV.trans (hbX.mono hbV.size)
    have hwX := hwV.trans (hbX.mono hwV.size)
    refine And.intro (fun h2 => ?_) (fun h2 => ?_)
    · have h2 : a.caches = b.caches := of_decide_eq_true h2
      have sa : ∀ (v : List Value) (x y z : Value) (H : List Value), v = x :: y :: (H ++ [z]) → H.length = 66 → (v.drop 2).take 66 = H := fun v x y z H h hl => by
        rw [h]
        show (H ++ [z]).take 66 = H
        rw [List.take_append_of_le_length (by omega), List.take_of_length_le (by omega)]
      refine ⟨_, hHa, by rw [← sa _ _ _ _ _ hva hHa]; exact cells_sub (n := 2) (m := 66) (cells_below hVX ca), hlt (block_below hVX f0), ?_⟩
      refine ⟨_, hHb, by rw [← sa _ _ _ _ _ hvb hHb]; exact cells_sub (n := 2) (m := 66) (cells_below hVX cb), hlt (block_below hVX f1), ?_⟩
      refine ⟨_, fun w => eql_homs _ _ a6 b6 w, ?_⟩
      refine And.intro (fun h3 => ?_) (fun h3 => ?_)
      · have h3 : a.homes = b.homes := of_decide_eq_true h3
        refine ⟨_, cells_at (cells_below hVX ca) (i := 68) (by rw [hva]; exact sys_net hHa), ?_⟩
        refine ⟨_, cells_at (cells_below hVX cb) (i := 68) (by rw [hvb]; exact sys_net hHb), ?_⟩
        refine Calls.mono (SameMsgs_c p3 q3 c3 d3 a.net b.net X ((a3.below (hVX.mono hb0.size)).slr hwX.size) ((b3.below (hVX.mono hb0.size)).slr hwX.size) hn3) ?_
        rintro e Y ⟨rfl, hbY⟩
        refine ⟨rb ?_, hwX.trans (hbY.mono hwX.size)⟩
        rw [decide_eq_decide]
        cases a; cases b
        simp only at h1 h2 h3
        simp only [Sy.mk.injEq, h1, h2, h3, true_and]
      · have h3 : ¬ a.homes = b.homes := of_decide_eq_false h3
        exact ⟨rb (decide_eq_false fun e => h3 (by rw [e])).symm, hwX⟩
    · have h2 : ¬ a.caches = b.caches := of_decide_eq_false h2
      refine And.intro (fun h => by cases h) (fun _ => ?_)
      exact ⟨rb (decide_eq_false fun e => h2 (by rw [e])).symm, hwX⟩
  · have h1 : ¬ a.cores = b.cores := of_decide_eq_false h1
    refine And.intro (fun h => by cases h) (fun _ => ?_)
    refine And.intro (fun h => by cases h) (fun _ => ?_)
    exact ⟨rb (decide_eq_false fun e => h1 (by rw [e])).symm, hwV⟩
end Go.Proofs.YtedeohcdcaimhaaGreatDoor
namespace Go.Proofs.YtedeohcdcaimhaaGreatDoor
open Go.Vc Go.RowKit Go.Sei

def sortR (mode : UInt8) (l r : List Msg) : Prop := (knownB mode = true → IsSort mode l r) ∧ (knownB mode = false → r = l)
def eqN (mode : UInt8) (l l' : List Msg) : Prop := (knownB mode = true → EqM mode l l') ∧ (knownB mode = false → l = l')
theorem sortR_len {mode : UInt8} {l r : List Msg} (h : sortR mode l r) : r.length = l.length := by
  cases hk : knownB mode with
  | true => exact (h.1 hk).perm.length_eq
  | false => rw [h.2 hk]
theorem sortR_eq {mode : UInt8} {a b r s : List Msg} (h1 : sortR mode a r) (h2 : sortR mode b s) : r = s ↔ eqN mode a b := by
  cases hk : knownB mode with
  | true =>
    rw [isSort_eq (h1.1 hk) (h2.1 hk)]
    exact ⟨fun h => ⟨fun _ => h, fun h' => by rw [hk] at h'; cases h'⟩, fun h => h.1 hk⟩
  | false =>
    rw [h1.2 hk, h2.2 hk]
    exact ⟨fun h => ⟨fun h' => (by rw [hk] at h'; cases h'), fun _ => h⟩, fun h => h.2 hk⟩
/-- The key of a system. -/
def KeyOf (mode : UInt8) (g : Geo) (s : Sy) (k : List UInt8) : Prop := (fitsB g s = true → ∃ r, sortR mode s.net r ∧ k = encSy { s with net := r }) ∧ (fitsB g s = false → k = [])
theorem ok_net {n : Nat} {s : Sy} (h : okSy n s) {r : List Msg} (hr : r.length = s.net.length) : okSy n { s with net := r } := ⟨h.cores, h.caches, h.homes, by rw [hr]; exact h.net, h.cor, h.cac⟩
theorem key_eq {mode : UInt8} {g : Geo} {a b : Sy} {k1 k2 : List UInt8} (ma : okMem a) (mb : okMem b) (h1 : KeyOf mode g a k1) (h2 : KeyOf mode g b k2) (fa : fitsB g a = true) (fb : fitsB g b = true) :
    k1 = k2 ↔ ({ a with net := [] } : Sy) = { b with net := [] } ∧ eqN mode a.net b.net := by
  obtain ⟨r, hr, rfl⟩ := h1.1 fa
  obtain ⟨r', hr', rfl⟩ := h2.1 fb
  rw [← sortR_eq hr hr']
  have o1 := ok_net (fits_ok ma fa).1 (sortR_len hr)
  have o2 := ok_net (fits_ok mb fb).1 (sortR_len hr')
  constructor
  · intro h
    have := enc_inj o1 o2 rfl h
    simp only [Sy.mk.injEq] at this ⊢
    exact ⟨⟨this.1, this.2.1, this.2.2.1, trivial⟩, this.2.2.2⟩
  · rintro ⟨h, rfl⟩
    simp only [Sy.mk.injEq] at h
    obtain ⟨x1, x2, x3, _⟩ := h
    rw [x1, x2, x3]
theorem sys_set {a b c v : Value} {H : List Value} (h : H.length = 66) : (a :: b :: (H ++ [c])).take 68 ++ [v] ++ (a :: b :: (H ++ [c])).drop 69 = a :: b :: (H ++ [v]) := by
  simp only [List.take_succ_cons, List.drop_succ_cons]
  rw [List.take_append_of_le_length (by omega), List.take_of_length_le (by omega), List.drop_of_length_le (by rw [List.length_append, h]; exact Nat.le_refl _)]
  simp

theorem Key_s {wv vs : List Value} {g : Geo} {mode : UInt8} {s : Sy} {w : World} (hW : WorV wv g.enc mode) (hS : SysV w.heap.size w vs s) (hB : BndM w) (hG : Glob w) :
    Calls Tryz.prog 18 #[.agg wv.toArray, .agg vs.toArray] w fun e w' => ∃ k, e = .returned (strV k) ∧ KeyOf mode g s k ∧ Below w.heap.size w w' := by
  refine calls_of_E (S := sg 19) (sgOk _) (args := [.agg wv.toArray, .agg vs.toArray]) Tryz.func18 rfl rfl (Nat.le_of_ble_eq_true rfl) rfl ?_
  obtain ⟨W0, hW0⟩ : ∃ W0, (w.alloc (.cells wv.toArray 44)).alloc (.cells vs.toArray 58) = W0 := ⟨_, rfl⟩
  have hb0 : Below w.heap.size w W0 := by rw [← hW0]; exact ((Below.refl _ _).alloc (Nat.le_refl _) _).alloc (by simp) _
  have f0 : W0.heap[w.heap.size]? = some (.cells wv.toArray 44 (0, 0)) := by rw [← hW0]; exact hold _ (hnew w _)
  have f1 : W0.heap[w.heap.size + 1]? = some (.cells vs.toArray 58 (0, 0)) := by
    have := hnew (w.alloc (.cells wv.toArray 44)) (.cells vs.toArray 58)
    rw [World.size_alloc] at this
    rw [← hW0]; exact this
  have es : (w.alloc (.cells wv.toArray 44)).heap.size = w.heap.size + 1 := World.size_alloc _ _
  have hS0 := (hS.below hb0).mono hb0.size
  have hvl := hS.len
  rw [← es] at f1
  subst hW0
  refine ⟨wv, hW.len, cells_block f0, hlt f0, ?_⟩
  refine ⟨vs, hvl, cells_block f1, hlt f1, ?_⟩
  refine Calls.mono (Fits_c hW hS0 (hB.below hb0)) ?_
  rintro e V ⟨rfl, hbV⟩
  have hwV := hb0.trans (hbV.mono hb0.size)
  refine And.intro (fun h => ?_) (fun h => ?_)
  · have h : fitsB g s = false := by
      have : (!fitsB g s) = true := h
      simpa using this
    exact ⟨[], rfl, ⟨fun h' => (by rw [h] at h'; cases h'), fun _ => rfl⟩, hwV⟩
  · have h : fitsB g s = true := by
      have : (!fitsB g s) = false := h
      simpa using this
    obtain ⟨h1, h2, _⟩ := fits_ok hS.okm h
    have f0V := block_below hbV f0
    have f1V := block_below hbV f1
    obtain ⟨⟨p1, c1, p2, c2, p3, c3, hvs, hco, hca, hne, hnil⟩, h6⟩ := hS.below hwV
    have hH : (s.homes.flatMap homE.enc).length = 66 := by rw [flat_len, h6]; rfl
    have hcl := cells_block f1V
    refine ⟨_, cells_at hcl (i := 68) (by rw [hvs]; exact sys_net hH), ?_⟩
    refine ⟨_, cells_at (cells_block f0V) (i := 15) hW.mode, ?_⟩
    refine Calls.mono (Sort_c p3 c3 s.net mode V (hne.slr hwV.size) hnil (hG.below hwV) (by have := h1.net; omega)) ?_
    rintro e X ⟨r, q, cq, rfl, s1, s2, ho, hbX⟩
    have hwX := hwV.trans (hbX.mono hwV.size)
    have f1X := block_below hbX f1V
    refine store_cell (ttOk.get 56 _ rfl) rfl f1X (o := 68) (by show 68 < vs.toArray.size; simp [hvl]) (v := .slice q r.length cq) rfl rfl ?_
    intro Y fY gY sY
    have hwY : Below w.heap.size w Y := hwX.grown gY hwX.size (fun k e => by
      simp only [Option.some.injEq] at e
      rw [← e, es]; omega)
    have hvs' : vs.toArray.toList.take 68 ++ [Value.slice q r.length cq] ++ vs.toArray.toList.drop (68 + 1) = .slice p1 s.cores.length c1 :: .slice p2 s.caches.length c2 :: (s.homes.flatMap homE.enc ++ [.slice q r.length cq]) := by
      have : vs.toArray.toList = vs := rfl
      rw [this, hvs]; exact sys_set hH
    rw [hvs'] at fY
    have hoY : OwnS Msg.E 107 V.heap.size Y q cq r := ho.kept gY fun g' hg' e => by
      simp only [Option.some.injEq] at e
      rcases ho.inv with ⟨h1, _⟩ | ⟨g2, _, h1, h2, _⟩
      · rw [h1] at hg'; cases hg'
      · rw [h1] at hg'
        simp only [Option.some.injEq, Addr.mk.injEq, and_true] at hg'
        have := hlt f1V
        omega
    have hSY : SysV Y.heap.size Y (.slice p1 s.cores.length c1 :: .slice p2 s.caches.length c2 :: (s.homes.flatMap homE.enc ++ [.slice q r.length cq])) { s with net := r } := by
      obtain ⟨⟨a1, b1, a2, b2, a3, b3, hvs2, hco2, hca2, hne2, hnil2⟩, _⟩ := hS
      rw [hvs2] at hvs
      simp only [List.cons.injEq, Value.slice.injEq, true_and] at hvs
      obtain ⟨⟨rfl, rfl⟩, ⟨rfl, rfl⟩, _⟩ := hvs
      refine ⟨⟨_, _, _, _, _, _, rfl, (hco2.below hwY).mono hwY.size, (hca2.below hwY).mono hwY.size, RowB.of_slr hoY.row, fun hq => ?_⟩, h6⟩
      exact (own_cap hoY).2 hq
    refine ⟨_, ?_, cells_block fY, hlt fY, ?_⟩
    · have := hSY.len; simpa using this
    refine Calls.mono (encode_c (s := { s with net := r }) (ok_net h1 (sortR_len ⟨s1, s2⟩)) h2 hSY) ?_
    rintro e Z ⟨p, cap, rfl, hoZ, hbZ⟩
    refine ⟨_, fun w2 hb2 => conv_arg hoZ.row w2 hb2, ?_⟩
    refine ⟨_, rfl, ⟨fun _ => ⟨r, ⟨s1, s2⟩, rfl⟩, fun h' => (by rw [h] at h'; cases h')⟩, hwY.trans (hbZ.mono hwY.size)⟩

theorem Same_s {wv va vb : List Value} {g : Geo} {mode : UInt8} {a b : Sy} {w : World} (hW : WorV wv g.enc mode) (hSa : SysV w.heap.size w va a) (hSb : SysV w.heap.size w vb b) (hB : BndM w) (hG : Glob w) :
    Calls Tryz.prog 7 #[.agg wv.toArray, .agg va.toArray, .agg vb.toArray] w fun e w' => ∃ v : Bool, e = .returned (.bool v) ∧ (v = true ↔ fitsB g a = true ∧ fitsB g b = true ∧ ({ a with net := [] } : Sy) = { b with net := [] } ∧ eqN mode a.net b.net) ∧ Below w.heap.size w w' := by
  refine calls_of_E (S := sg 24) (sgOk _) (args := [.agg wv.toArray, .agg va.toArray, .agg vb.toArray]) Tryz.func7 rfl rfl (Nat.le_of_ble_eq_true rfl) rfl ?_
  obtain ⟨W0, hW0⟩ : ∃ W0, ((w.alloc (.cells wv.toArray 44)).alloc (.cells va.toArray 58)).alloc (.cells vb.toArray 58) = W0 := ⟨_, rfl⟩
  have e1 : (w.alloc (.cells wv.toArray 44)).heap.size = w.heap.size + 1 := World.size_alloc _ _
  have e2 : ((w.alloc (.cells wv.toArray 44)).alloc (.cells va.toArray 58)).heap.size = w.heap.size + 2 := by rw [World.size_alloc, e1]
  have hb0 : Below w.heap.size w W0 := by rw [← hW0]; exact (((Below.refl _ _).alloc (Nat.le_refl _) _).alloc (by simp) _).alloc (by simp; omega) _
  have f0 : W0.heap[w.heap.size]? = some (.cells wv.toArray 44 (0, 0)) := by rw [← hW0]; exact hold _ (hold _ (hnew w _))
  have f1 : W0.heap[(w.alloc (.cells wv.toArray 44)).heap.size]? = some (.cells va.toArray 58 (0, 0)) := by
    rw [← hW0]; exact hold _ (hnew (w.alloc (.cells wv.toArray 44)) (.cells va.toArray 58))
  have f2 : W0.heap[((w.alloc (.cells wv.toArray 44)).alloc (.cells va.toArray 58)).heap.size]? = some (.cells vb.toArray 58 (0, 0)) := by
    rw [← hW0]; exact hnew _ _
  have hla := hSa.len
  have hlb := hSb.len
  have hw0 : Below w.heap.size w W0.drew := hb0.drew
  subst hW0
  refine DrawE.ord [] [0, 1, 2, 3, 4, 5, 6, 7, 8, 9, 10, 12, 13, 11, 14, 15, 16, 17] (by kernel_rfl) ?_
  refine ⟨wv, hW.len, cells_block (hdr f0), hlt (hdr f0), ?_⟩
  refine ⟨va, hla, cells_block (hdr f1), hlt (hdr f1), ?_⟩
  refine Calls.mono (Fits_c hW ((hSa.below hw0).mono hw0.size) (hB.below hw0)) ?_
  rintro e V ⟨rfl, hbV⟩
  refine ⟨hbV, ?_⟩
  have hwV := hw0.trans (hbV.mono hw0.size)
  have f0V := block_below hbV (hdr f0)
  have f1V := block_below hbV (hdr f1)
  have f2V := block_below hbV (hdr f2)
  refine And.intro (fun h => ?_) (fun h => ?_)
  · have h : fitsB g a = true := h
    refine ⟨wv, hW.len, cells_block f0V, hlt f0V, ?_⟩
    refine ⟨vb, hlb, cells_block f2V, hlt f2V, ?_⟩
    refine Calls.mono (Fits_c hW ((hSb.below hwV).mono hwV.size) (hB.below hwV)) ?_
    rintro e X ⟨rfl, hbX⟩
    refine ⟨hbX, ?_⟩
    have hwX := hwV.trans (hbX.mono hwV.size)
    have f0X := block_below hbX f0V
    have f1X := block_below hbX f1V
    have f2X := block_below hbX f2V
    refine And.intro (fun h2 => ?_) (fun h2 => ?_)
    · have h2 : fitsB g b = true := h2
      refine ⟨wv, hW.len, cells_block f0X, hlt f0X, ?_⟩
      refine ⟨va, hla, cells_block f1X, hlt f1X, ?_⟩
      refine ⟨wv, hW.len, cells_block f0X, hlt f0X, ?_⟩
      refine ⟨vb, hlb, cells_block f2X, hlt f2X, ?_⟩
      refine Calls.mono (Key_s hW ((hSa.below hwX).mono hwX.size) (hB.below hwX) (hG.below hwX)) ?_
      rintro e Y ⟨k1, rfl, hk1, hbY⟩
      refine ⟨hbY, ?_⟩
      have hwY := hwX.trans (hbY.mono hwX.size)
      refine Calls.mono (Key_s hW ((hSb.below hwY).mono hwY.size) (hB.below hwY) (hG.below hwY)) ?_
      rintro e Z ⟨k2, rfl, hk2, hbZ⟩
      refine ⟨hbZ, ?_⟩
      refine ⟨_, fun w => eql_str _ _ k1 k2 w, ?_⟩
      refine ⟨_, rfl, ?_, hwY.trans (hbZ.mono hwY.size)⟩
      rw [decide_eq_true_iff, key_eq hSa.okm hSb.okm hk1 hk2 h h2]
      exact ⟨fun h3 => ⟨h, h2, h3⟩, fun h3 => h3.2.2⟩
    · have h2 : fitsB g b = false := h2
      exact ⟨false, rfl, ⟨fun h => (by cases h), fun h3 => by rw [h2] at h3; cases h3.2.1⟩, hwX⟩
  · have h : fitsB g a = false := h
    refine And.intro (fun h => by cases h) (fun _ => ?_)
    exact ⟨false, rfl, ⟨fun h => (by cases h), fun h3 => by rw [h] at h3; cases h3.1⟩, hwV⟩
end Go.Proofs.YtedeohcdcaimhaaGreatDoor
namespace Go.Proofs.YtedeohcdcaimhaaGreatDoor
open Go.Vc Go.RowKit Go.Sei

def readL : List UInt8 → Msg × Bool
  | [b0, b1, b2, b3, b4, b5, b6, b7, b8, b9, b10] => if b6.toNat ≤ 1 then (⟨b0, b1, b2, b3, b4, b5, decide (b6 = 1), b7, b8, b9, b10⟩, true) else (zeroM, false)
  | _ => (zeroM, false)
theorem readL_len {l : List UInt8} (h : l.length ≠ 11) : readL l = (zeroM, false) := by
  unfold readL
  split
  · simp at h
  · rfl

theorem Read_c (p : Option Addr) (cap : Nat) (l : List UInt8) (w : World) (hl : SlR byteE w p l) (hc : l.length ≤ cap) :
    Calls Tryz.prog 74 #[.slice p l.length cap] w fun e w' => e = .returned (.tuple #[(readL l).1.val, .bool (readL l).2]) ∧ Below w.heap.size w w' := by
  refine calls_of_E (S := sg 44) (sgOk _) (args := [.slice p l.length cap]) Tryz.func74 rfl rfl (Nat.le_of_ble_eq_true rfl) rfl ?_
  have hb0 : Below w.heap.size w (w.alloc (.cells zeroM.val.cells 107)) := (Below.refl _ _).alloc (Nat.le_refl _) _
  have f0 := hnew w (.cells zeroM.val.cells 107)
  have hl0 := hl.below hb0
  refine And.intro (fun h => ?_) (fun h => ?_)
  · have h : ¬ (l.length : Int) = 11 := by simpa using h
    have hr := readL_len (l := l) (fun e => h (by omega))
    refine And.intro (fun _ => ?_) (fun h => by cases h)
    refine ⟨zeroM.enc, rfl, ?_⟩
    refine store_box (v := zeroM.val) (ttOk.get 107 _ rfl) f0 (by rfl) rfl (by rfl) ?_
    refine ⟨zeroM.enc, rfl, cells_block (setRow_new f0), ?_⟩
    rw [hr]
    exact And.intro rfl (below_setRow hb0 (Nat.le_refl _) _)
  have h : (l.length : Int) = 11 := by simpa using h
  have hlen : l.length = 11 := by omega
  match l, hlen with
  | [b0, b1, b2, b3, b4, b5, b6, b7, b8, b9, b10], _ =>
    obtain ⟨b, o, hp, hbk, hcl⟩ := hl0.at (i := 0) (by simp)
    subst hp
    refine ⟨6, rfl, by simp, ?_⟩
    refine ⟨_, cells_head (hcl 6 (by simp)), ?_⟩
    refine And.intro (fun h1 => ?_) (fun h1 => ?_)
    · have h1 : (1 : Int) < b6.toNat := of_decide_eq_true h1
      have hr : readL [b0, b1, b2, b3, b4, b5, b6, b7, b8, b9, b10] = (zeroM, false) := by show (if b6.toNat ≤ 1 then _ else _) = _; rw [if_neg (by omega)]
      refine ⟨zeroM.enc, rfl, ?_⟩
      refine store_box (v := zeroM.val) (ttOk.get 107 _ rfl) f0 (by rfl) rfl (by rfl) ?_
      refine ⟨zeroM.enc, rfl, cells_block (setRow_new f0), ?_⟩
      rw [hr]
      exact And.intro rfl (below_setRow hb0 (Nat.le_refl _) _)
    · have h1 : ¬ (1 : Int) < b6.toNat := of_decide_eq_false h1
      have hr : readL [b0, b1, b2, b3, b4, b5, b6, b7, b8, b9, b10] = (⟨b0, b1, b2, b3, b4, b5, decide (b6 = 1), b7, b8, b9, b10⟩, true) := by show (if b6.toNat ≤ 1 then _ else _) = _; rw [if_pos (by omega)]
      have hl1 : ∀ (i : Nat) (hi : i < 11), Cells (w.alloc (.cells zeroM.val.cells 107)).drew ⟨b, o + i * 1, none⟩ [u8 ([b0, b1, b2, b3, b4, b5, b6, b7, b8, b9, b10][i]'hi)] := fun i hi => hcl i hi
      refine DrawE.ord [24] [0, 1, 2, 3, 4, 5, 6, 7, 8, 9, 10, 11, 12, 13, 14, 15, 16, 17, 18, 19, 20, 21, 22, 23, 24] (by kernel_rfl) ?_
      refine ⟨0, rfl, by simp, ?_⟩
      refine ⟨_, cells_head (hl1 0 (by decide)), ?_⟩
      refine ⟨1, rfl, by simp, ?_⟩
      refine ⟨_, cells_head (hl1 1 (by decide)), ?_⟩
      refine ⟨2, rfl, by simp, ?_⟩
      refine ⟨_, cells_head (hl1 2 (by decide)), ?_⟩
      refine ⟨3, rfl, by simp, ?_⟩
      refine ⟨_, cells_head (hl1 3 (by decide)), ?_⟩
      refine ⟨4, rfl, by simp, ?_⟩
      refine ⟨_, cells_head (hl1 4 (by decide)), ?_⟩
      refine ⟨5, rfl, by simp, ?_⟩
      refine ⟨_, cells_head (hl1 5 (by decide)), ?_⟩
      refine ⟨6, rfl, by simp, ?_⟩
      refine ⟨_, cells_head (hl1 6 (by decide)), ?_⟩
      obtain ⟨M1, hM1⟩ : ∃ M1 : Msg, M1 = ⟨b0, b1, b2, b3, b4, b5, decide ((b6.toNat : Int) = 1), 0, 0, 0, 0⟩ := ⟨_, rfl⟩
      refine ⟨M1.enc, by rw [hM1]; rfl, ?_⟩
      refine ⟨(Below.refl _ _).alloc (Nat.le_refl _) _, ?_⟩
      refine store_new (X := (w.alloc (.cells zeroM.val.cells 107)).drew) (v := M1.val) (ttOk.get 107 _ rfl) (by rfl) rfl (by rfl) fun Y hbY fY sY => ?_
      have hb1 : Below w.heap.size w Y := hb0.drew.trans (hbY.mono hb0.size)
      refine DrawE.ord [4] [0, 1, 2, 3, 4] (by kernel_rfl) ?_
      refine ⟨7, rfl, by simp, ?_⟩
      have hc : 11 ≤ cap := hc
      have hcut : cutBase (some (⟨b, o, none⟩ : Addr)) cap 7 1 = some ⟨b, o + 7, none⟩ := by
        unfold cutBase
        split
        · omega
        · simp [Addr.add]
      have hs5 : (Tryz.prog.info? 5).map (·.size) = some 1 := by kernel_rfl
      have hY7 : Cells Y.drew ⟨b, o + 7, none⟩ [u8 b7, u8 b8, u8 b9, u8 b10] := by
        have hb' : Below (w.alloc (.cells zeroM.val.cells 107)).heap.size (w.alloc (.cells zeroM.val.cells 107)) Y := (Below.refl _ _).drew.trans hbY
        refine cells_mk fun i v hv => ?_
        have hi : i < 4 := by simpa using (List.getElem?_eq_some_iff.1 hv).1
        have h4 : i = 0 ∨ i = 1 ∨ i = 2 ∨ i = 3 := by omega
        rcases h4 with rfl | rfl | rfl | rfl
        · exact (cells_head (cells_below hb' (hcl 7 (by simp)))).trans hv
        · exact (cells_head (cells_below hb' (hcl 8 (by simp)))).trans hv
        · exact (cells_head (cells_below hb' (hcl 9 (by simp)))).trans hv
        · exact (cells_head (cells_below hb' (hcl 10 (by simp)))).trans hv
      have hrun := run_copy_row (P := Tryz.prog) Y.drew 23 23 3 5 (w.alloc (.cells zeroM.val.cells 107)).drew.heap.size 7 4 4 ⟨b, o + 7, none⟩ 4 (cap - 7) M1.val.cells 107 [u8 b7, u8 b8, u8 b9, u8 b10] Tryz.underlying23 hs5 (hdr fY) rfl (fun j v hv => by rw [addr_add]; exact cells_at hY7 hv) (Nat.le_of_ble_eq_true rfl) (by simp [u8, Value.oneCell'])
      rw [← hcut] at hrun
      refine SatR.mk hrun ?_
      have G := setRow_new (cs' := (M1.val.cells.toList.take 7 ++ [u8 b7, u8 b8, u8 b9, u8 b10] ++ M1.val.cells.toList.drop (7 + 4)).toArray) (hdr fY)
      have hgl : w.heap.size < (w.alloc (.cells zeroM.val.cells 107)).drew.heap.size := hlt (hdr f0)
      refine ⟨(readL [b0, b1, b2, b3, b4, b5, b6, b7, b8, b9, b10]).1.enc, rfl, ?_, hlt G, ?_⟩
      · have hd : decide ((b6.toNat : Int) = 1) = decide (b6 = 1) := by rw [decide_eq_decide]; exact u8_eq (y := 1)
        have el : (M1.val.cells.toList.take 7 ++ [u8 b7, u8 b8, u8 b9, u8 b10] ++ M1.val.cells.toList.drop (7 + 4)).toArray.toList = (readL [b0, b1, b2, b3, b4, b5, b6, b7, b8, b9, b10]).1.enc := by
          rw [hr, hM1, hd]; rfl
        have e := cells_block G
        rw [el] at e
        exact e
      have fw : (Y.drew.setRow (w.alloc (.cells zeroM.val.cells 107)).drew.heap.size (M1.val.cells.toList.take 7 ++ [u8 b7, u8 b8, u8 b9, u8 b10] ++ M1.val.cells.toList.drop (7 + 4)).toArray).heap[w.heap.size]? = some (.cells zeroM.val.cells 107 (0, 0)) := (setRow_old (by omega)).trans (hdr (block_below hbY (hdr f0)))
      refine store_box (v := (readL [b0, b1, b2, b3, b4, b5, b6, b7, b8, b9, b10]).1.val) (ttOk.get 107 _ rfl) fw (by rfl) rfl (by rfl) ?_
      refine ⟨_, rfl, cells_block (setRow_new fw), ?_⟩
      rw [hr]
      exact And.intro rfl (below_setRow (below_setRow hb1.drew (by omega) _) (Nat.le_refl _) _)
end Go.Proofs.YtedeohcdcaimhaaGreatDoor
namespace Go.Proofs.YtedeohcdcaimhaaGreatDoor
open Go.Vc Go.RowKit Go.Sei

theorem msg_short {rest : List UInt8} (h : rest.length < 11) : decMsg rest = none := by
  unfold decMsg
  split
  · simp only [List.length_cons] at h; omega
  · rfl
theorem split11 {l : List UInt8} (h : 11 ≤ l.length) : ∃ a b c d e f g k m n p r, l = a :: b :: c :: d :: e :: f :: g :: k :: m :: n :: p :: r := by
  match l, h with
  | a :: b :: c :: d :: e :: f :: g :: k :: m :: n :: p :: r, _ => exact ⟨a, b, c, d, e, f, g, k, m, n, p, r, rfl⟩
theorem decMsg_read {rest : List UInt8} (h : 11 ≤ rest.length) : decMsg rest = if (readL (rest.take 11)).2 = true then some ((readL (rest.take 11)).1, rest.drop 11) else none := by
  obtain ⟨b0, b1, b2, b3, b4, b5, b6, b7, b8, b9, b10, r, rfl⟩ := split11 h
  have e : (b0 :: b1 :: b2 :: b3 :: b4 :: b5 :: b6 :: b7 :: b8 :: b9 :: b10 :: r).take 11 = [b0, b1, b2, b3, b4, b5, b6, b7, b8, b9, b10] := rfl
  have e2 : (b0 :: b1 :: b2 :: b3 :: b4 :: b5 :: b6 :: b7 :: b8 :: b9 :: b10 :: r).drop 11 = r := rfl
  rw [e, e2]
  have hd : decide (b6.toNat = 1) = decide (b6 = 1) := by
    rw [decide_eq_decide]
    exact ⟨fun h => UInt8.toNat_inj.1 h, fun h => by rw [h]; rfl⟩
  by_cases h6 : b6.toNat ≤ 1
  · simp only [decMsg, readL, if_pos h6, hd, if_true]
  · simp only [decMsg, readL, if_neg h6, Bool.false_eq_true, if_false]

theorem decMsg_c {B g b o : Nat} {T : TypeId} {A M Z : List Value} {rest : List UInt8} {w : World} (hD : DecB B g rest w) (hb : Blk w b T A M Z) (hA : A.length = o) (hM : M.length = 11) (hbg : b ≠ g) (hB : B ≤ b) :
    CallR Tryz.prog 36 #[.pointer (some ⟨g, 0, none⟩), .pointer (some ⟨b, o, none⟩)] w
      (fun _ w' => ∃ x r, decMsg rest = some (x, r) ∧ Blk w' b T A (Msg.E.enc x) Z ∧ DecB B g r w' ∧ Fr [b, g] w w') (fun ch w' => decMsg rest = none ∧ PanOk ch ∧ Fr [b, g] w w') := by
  refine calls_of_M (S := sg 20) (sgOk _) (args := [.pointer (some ⟨g, 0, none⟩), .pointer (some ⟨b, o, none⟩)]) (.c .p .p) Tryz.func36 rfl rfl (Nat.le_of_ble_eq_true rfl) rfl ?_
  have nb : b ∉ [g] := by simpa using hbg
  have ng : g ∉ [b] := by simpa using hbg.symm
  have nB : ∀ k ∈ [b], B ≤ k := by simpa using hB
  have hgB := hD.lt
  refine ⟨Nat, fun gm => ⟨[(1, .pointer (some ⟨b, o, none⟩)), (4, .pointer (some ⟨gm, 0, none⟩)), (5, .bool (readL (rest.take 11)).2)], []⟩, fun gm V => 11 ≤ rest.length ∧ V.heap[gm]? = some (.cells (readL (rest.take 11)).1.val.cells 107 (0, 0)) ∧ DecB B g (rest.drop 11) V ∧ Blk V b T A M Z ∧ Fr [b, g] w V, ?_, ?_⟩
  · refine CallR.imp (Next_c hD 11 (by decide)) ?_ (fun ch w' ⟨h1, h2, h3⟩ => ⟨rfl, msg_short h1, h2, h3.inr⟩)
    rintro v V1 ⟨h11, ⟨p, cap, rfl, hr, hcap⟩, hD1, hf1⟩
    have hl11 : (rest.take 11).length = 11 := by rw [List.length_take]; omega
    have hrd := Read_c p cap (rest.take 11) V1 (hr.slr (by have := hD1.lt; omega)) (by rw [hl11]; exact hcap)
    rw [hl11] at hrd
    refine Calls.mono hrd ?_
    rintro e V2 ⟨rfl, hb2⟩
    refine store_new (X := V2) (v := (readL (rest.take 11)).1.val) (ttOk.get 107 _ rfl) (by rfl) rfl (by rfl) fun Y hbY fY sY => ?_
    have hbY1 : Below V1.heap.size V1 Y := hb2.trans (hbY.mono hb2.size)
    exact ⟨V2.heap.size, ⟨.cons rfl (.cons rfl (.cons rfl .nil)), rfl⟩, h11, fY, hD1.below hbY1, block_below hbY1 (hb.fr hf1 nb), hf1.inr.trans (Fr.of_below hbY1)⟩
  rintro gm V ⟨h11, fm, hD1, hb1, hf⟩
  have hdm := decMsg_read h11
  refine And.intro (fun h => ?_) (fun h => ?_)
  · have h : (readL (rest.take 11)).2 = false := by
      have : (!(readL (rest.take 11)).2) = true := h
      simpa using this
    refine SatR.mk (mkI _ _) ?_
    refine ⟨_, _, rfl, ?_⟩
    exact ⟨rfl, by rw [hdm, h]; rfl, ⟨_, _, rfl⟩, hf⟩
  · have h : (readL (rest.take 11)).2 = true := by
      have : (!(readL (rest.take 11)).2) = false := h
      simpa using this
    refine ⟨(readL (rest.take 11)).1.enc, rfl, cells_block fm, hlt fm, ?_⟩
    refine st_agg (i := 0) (n := 11) (ttOk.get 107 _ rfl) rfl hb1 hA (vs := (readL (rest.take 11)).1.enc) rfl (by omega) (Msg.E.one _) ?_
    intro V2 hb2 hf2
    refine ⟨(readL (rest.take 11)).1, rest.drop 11, by rw [hdm, if_pos h], ?_, hD1.fr hf2 ng nB, hf.trans hf2.inl⟩
    have e1 : M.drop (0 + 11) = [] := List.drop_of_length_le (by omega)
    rw [e1] at hb2
    show Blk V2 b T A (readL (rest.take 11)).1.enc Z
    simpa using hb2

theorem read3_c {B g b o : Nat} {T : TypeId} {A M Z : List Value} {rest : List UInt8} {w : World} (hD : DecB B g rest w) (hb : Blk w b T A M Z) (hA : A.length = o) (hM : M.length = 160) (hbg : b ≠ g) (hB : B ≤ b) :
    CallR Tryz.prog 28 #[.pointer (some ⟨b, o, none⟩), .pointer (some ⟨g, 0, none⟩)] w
      (fun _ w' => ∃ x r, decCac rest = some (x, r) ∧ Blk w' b T A (cacCells x) Z ∧ DecB B g r w' ∧ Fr [b, g] w w') (fun ch w' => decCac rest = none ∧ PanOk ch ∧ Fr [b, g] w w') := by
  refine calls_of_E (S := sg 5) (sgOk _) (args := [.pointer (some ⟨b, o, none⟩), .pointer (some ⟨g, 0, none⟩)]) Tryz.func28 rfl rfl (Nat.le_of_ble_eq_true rfl) rfl ?_
  exact CallR.imp (decCac_c hD hb hA hM hbg hB) (fun _ _ h => h) (fun _ _ h => ⟨rfl, h⟩)
theorem read4_c {B g b o : Nat} {T : TypeId} {A Z : List Value} {rest : List UInt8} {w : World} (hD : DecB B g rest w) (hb : Blk w b T A (homE.enc zeroH) Z) (hA : A.length = o) (hbg : b ≠ g) (hB : B ≤ b) :
    CallR Tryz.prog 31 #[.pointer (some ⟨b, o, none⟩), .pointer (some ⟨g, 0, none⟩)] w
      (fun _ w' => ∃ x r, decHom rest = some (x, r) ∧ Blk w' b T A (homE.enc x) Z ∧ DecB B g r w' ∧ Fr [b, g] w w') (fun ch w' => decHom rest = none ∧ PanOk ch ∧ Fr [b, g] w w') := by
  refine calls_of_E (S := sg 5) (sgOk _) (args := [.pointer (some ⟨b, o, none⟩), .pointer (some ⟨g, 0, none⟩)]) Tryz.func31 rfl rfl (Nat.le_of_ble_eq_true rfl) rfl ?_
  exact CallR.imp (decHom_c hD hb hA hbg hB) (fun _ _ h => h) (fun _ _ h => ⟨rfl, h⟩)
theorem read5_c {B g b o : Nat} {T : TypeId} {A M Z : List Value} {rest : List UInt8} {w : World} (hD : DecB B g rest w) (hb : Blk w b T A M Z) (hA : A.length = o) (hM : M.length = 11) (hbg : b ≠ g) (hB : B ≤ b) :
    CallR Tryz.prog 35 #[.pointer (some ⟨b, o, none⟩), .pointer (some ⟨g, 0, none⟩)] w
      (fun _ w' => ∃ x r, decMsg rest = some (x, r) ∧ Blk w' b T A (Msg.E.enc x) Z ∧ DecB B g r w' ∧ Fr [b, g] w w') (fun ch w' => decMsg rest = none ∧ PanOk ch ∧ Fr [b, g] w w') := by
  refine calls_of_E (S := sg 5) (sgOk _) (args := [.pointer (some ⟨b, o, none⟩), .pointer (some ⟨g, 0, none⟩)]) Tryz.func35 rfl rfl (Nat.le_of_ble_eq_true rfl) rfl ?_
  exact CallR.imp (decMsg_c hD hb hA hM hbg hB) (fun _ _ h => h) (fun _ _ h => ⟨rfl, h⟩)
theorem read2_c {B g b o : Nat} {T : TypeId} {A M Z : List Value} {rest : List UInt8} {w : World} (hD : DecB B g rest w) (hb : Blk w b T A M Z) (hA : A.length = o) (hM : M.length = 12) (hbg : b ≠ g) (hB : B ≤ b) :
    CallR Tryz.prog 25 #[.pointer (some ⟨b, o, none⟩), .pointer (some ⟨g, 0, none⟩)] w
      (fun _ w' => ∃ x r cs, decCor rest = some (x, r) ∧ Blk w' b T A cs Z ∧ CorM w.heap.size w' x cs ∧ DecB B g r w' ∧ Fr [b, g] w w') (fun ch w' => decCor rest = none ∧ PanOk ch ∧ Fr [b, g] w w') := by
  refine calls_of_E (S := sg 5) (sgOk _) (args := [.pointer (some ⟨b, o, none⟩), .pointer (some ⟨g, 0, none⟩)]) Tryz.func25 rfl rfl (Nat.le_of_ble_eq_true rfl) rfl ?_
  exact CallR.imp (decCor_c hD hb hA hM hbg hB) (fun _ _ h => h) (fun _ _ h => ⟨rfl, h⟩)
end Go.Proofs.YtedeohcdcaimhaaGreatDoor
namespace Go.Vc
open Go.RowKit
section
variable {S : Sig}
/-- Sequences x; y; (a region that defers); z: cut behind x and behind y. -/
def wpD2 (S : Sig) (x y : Code) (ops : Array Oper) (m : Mk) (z : Code) (E : Env) (w : World) (Q : Exit → Env → World → Prop) : Prop :=
  CutE (fun Q => wpE S x E w Q) (fun E w Q => CutE (fun Q => wpE S y E w Q) (fun E w Q => opsF S ops.toList 0 ops.toList E w (fun E w => wpM S m z E w Q) (fun E ch w => Q (.panic ch) E w)) Q) Q

theorem calls_of_D2 (hS : SigOk S) {f : FuncId} {fn : Func} {x y z : Code} {id : Nat} {ops : Array Oper} {args : List Value} {w : World} {R : Ending → World → Prop} (m : Mk)
    (hf : S.P.funcs[f]? = some fn) (hb : fn.body = some (.seq x (.seq y (.seq (.region id ops false) z)))) (hn : fn.ntmps = S.n) (hle : args.length ≤ S.n) (hr : S.r = none)
    (h : wpD2 S x y ops m z ⟨argsE 0 args, []⟩ w (postD S fn R)) : Calls S.P f args.toArray w R := by
  rw [← callsIn_wide (n := NN)]
  have hF : FR none = Fence.wide := rfl
  rw [← hF]
  refine callsIn_of_wp_marks hf hb trivial ?_
  have ha := args_agree (fn := fn) hn hle
  have fin : ∀ ex a' w', lift S (postD S fn R) ex a' w' → bodyPostM (FR none) NN S.P fn R ex a' w' := by
    rintro ex a' w' ⟨E', ha', hq⟩
    cases ex with
    | normal => have := hq a' ha'; rw [← ha'.defers] at this; exact this
    | ret => have := hq a' ha'; rw [← ha'.defers] at this; exact this
    | panic ch => have := hq a' ha'; rw [← ha'.defers] at this; exact this
    | exit _ => exact hq.elim
    | goto _ => exact hq.elim
    | outgrown => exact hq.elim
  have hrF : (FR S.r) = FR none := by rw [hr]
  rw [← hrF] at fin ⊢
  refine wpIn_seq ?_
  obtain ⟨σ, env, inv, h1, h2⟩ := h
  refine wpIn_mono (wpE_sound hS x _ _ w _ ha h1) ?_
  rintro ex a' w' ⟨E', ha', hq⟩
  cases ex with
  | normal =>
    obtain ⟨s, hc, hi⟩ := hq
    obtain ⟨σ2, env2, inv2, h3, h4⟩ := h2 s w' hi
    refine wpIn_seq ?_
    refine wpIn_mono (wpE_sound hS y _ _ w' _ (ha'.cov hc) h3) ?_
    rintro ex a' w' ⟨E', ha', hq⟩
    cases ex with
    | normal =>
      obtain ⟨s2, hc2, hi2⟩ := hq
      have hreg : (Code.region id ops false).wpIn (FR S.r) NN S.P (lift S fun ex E w => match ex with | .normal => wpM S m z E w (postD S fn R) | ex => postD S fn R ex E w) a' w' := by
        refine wpIn_region ?_
        rw [List.range_eq_range']
        have h1 := opsF_sound (n := NN) hS hr (Q := fun ex E w => match ex with | .normal => wpM S m z E w (postD S fn R) | ex => postD S fn R ex E w) ops.toList 0 (env2 s2) a' w' (fun k o hk => by simpa using hk) (ha'.cov hc2) (h4 s2 w' hi2)
        simpa using h1
      refine wpIn_seq (wpIn_mono hreg ?_)
      rintro ex a'' w'' ⟨E'', ha'', hq''⟩
      cases ex with
      | normal => exact wpIn_mono (wpM_sound hS m z _ _ w'' _ ha'' hq'') fin
      | ret => exact fin _ _ _ ⟨E'', ha'', hq''⟩
      | panic ch => exact fin _ _ _ ⟨E'', ha'', hq''⟩
      | exit _ => exact hq''.elim
      | goto _ => exact hq''.elim
      | outgrown => exact hq''.elim
    | ret => exact fin _ _ _ ⟨E', ha', hq⟩
    | panic ch => exact fin _ _ _ ⟨E', ha', hq⟩
    | exit _ => exact hq.elim
    | goto _ => exact hq.elim
    | outgrown => exact hq.elim
  | ret => exact fin _ _ _ ⟨E', ha', hq⟩
  | panic ch => exact fin _ _ _ ⟨E', ha', hq⟩
  | exit _ => exact hq.elim
  | goto _ => exact hq.elim
  | outgrown => exact hq.elim

/-- A region that recovers and looks at what it caught; then z. -/
theorem rec_sound (hS : SigOk S) (hr : S.r = none) {id : Nat} {o0 o1 : Oper} {z : Code} {E : Env} {a : Act} {w : World} {cs cs' : List Frame} {v : Value} {Q : Exit → Act → List Frame → World → Prop} (ha : Agrees S a E)
    (h0 : o0.guard = none) (hop : ∀ ρ, (execOp ρ o0).run S.P w = .ok .recover w) (hd0 : okDst S.n o0.dst = true) (hrec : (recoverD cs = some (v, cs')) ∨ (recoverD cs = none ∧ v = .nilIface ∧ cs' = cs)) (h1g : o1.guard = none) (hd1 : okDst S.n o1.dst = true)
    (h1 : pureE S (setE o0.dst v E) o1.op w fun u => wpE S z (setE o1.dst u (setE o0.dst v E)) w fun ex E' w' => ∀ a', Agrees S a' E' → Q ex a' cs' w') :
    (Code.seq (.region id #[o0, o1] false) z).wpSIn (FR none) NN S.P Q a cs w := by
  refine wpSIn_seq (wpSIn_region ?_)
  have ha0 := ha.put hd0 v
  obtain ⟨u, hk, hrun⟩ := pureE_sound hS h1
  have hrun1 := hrun _ ha0 w (.inr (Below.refl _ _))
  have ha1 := ha0.put hd1 u
  have hw0 : Region.wanted o0 (yielded #[o0, o1] a.tmps) = true := by simp [Region.wanted, h0]
  have hw1 : Region.wanted o1 (yielded #[o0, o1] (a.put o0.dst v).tmps) = true := by simp [Region.wanted, h1g]
  have hz := wpE_sound hS z _ _ w _ ha1 hk
  rw [hr] at hz
  have hz2 : z.wpSIn (FR none) NN S.P Q ((a.put o0.dst v).put o1.dst u) cs' w := wpSIn_of_wpIn rfl (wpIn_mono hz fun ex a' w' ⟨E', hag, hq⟩ => hq a' hag)
  have e0 : (#[o0, o1] : Array Oper)[0]? = some o0 := rfl
  have e1 : (#[o0, o1] : Array Oper)[1]? = some o1 := rfl
  have step1 : wpOpsSIn (FR none) NN S.P #[o0, o1] (Exit.thenS (z.wpSIn (FR none) NN S.P Q) Q) [1] (a.put o0.dst v) cs' w := by
    simp only [wpOpsSIn, e1, hw1, if_true, hrun1]
    exact ⟨fun _ _ => trivial, hz2⟩
  show wpOpsSIn (FR none) NN S.P #[o0, o1] _ [0, 1] a cs w
  unfold wpOpsSIn
  simp only [e0, hw0, if_true, hop]
  refine ⟨fun _ _ => trivial, ?_⟩
  rcases hrec with h | ⟨h, rfl, rfl⟩
  · simp only [h]; exact step1
  · simp only [h]; exact step1

/-- It leaves with nothing deferred. -/
theorem leave_none (hS : SigOk S) {fn : Func} {R : Ending → World → Prop} {E : Env} {w : World} (hd : E.ds = []) (h : resE E w S.τ fn.results.toList fun vs => R (.returned (oneOf vs)) w) : postD S fn R .ret E w := by
  intro a ha
  rw [hd]
  obtain ⟨v, hk, hr⟩ := results_run hS ha (K := fun v => R (.returned v) w) h
  exact ⟨v, hr, hk⟩
/-- It leaves by one deferred call, after which it returns. -/
theorem leave_one (hS : SigOk S) {fn : Func} {R : Ending → World → Prop} {E : Env} {w : World} {u : FrameMode} (hu : u ≠ .run) {g : Nat} {cap args : Array Value} (hE : E.ds = [{ target := .fn (.func g) cap, args := args }]) (hc : calleeOk S g = true)
    (h : CallsDIn (FR none) NN S.P g (args ++ cap) u w fun e u' w' => (∃ v, e = .returned v) ∧ settle u' = .returning ∧ resE E w' S.τ fn.results.toList fun vs => R (.returned (oneOf vs)) w') :
    ∀ a, Agrees S a E → LeavesInM (FR none) NN S.P fn a.tmps R E.ds u w := by
  intro a ha
  rw [hE]
  have hcall : ∀ args w, (callFunc g args).run S.P w = .ok (.enter g args) w := by
    simp only [calleeOk, Bool.and_eq_true, Nat.ble_eq, Nat.blt_eq] at hc
    exact fun args w => hS.call g hc.1.1 hc.1.2 hc.2 args w
  refine ⟨hu, .inr ⟨fun h => by simp [FR] at h, .func g, cap, g, args ++ cap, rfl, ?_, fun _ _ => trivial, ?_⟩⟩
  · simp [invoke, go_sem, hcall]
  · have h' := h
    have h : CallsDIn (FR none) (NN - 1) S.P g (args ++ cap) u w _ := ⟨h'.1, fun c cs hu _ => h'.2 c cs hu (room_wide _)⟩
    refine CallsDIn.mono h ?_
    rintro e u' w' ⟨⟨v, rfl⟩, hs, hres⟩
    show LeavesInM _ _ _ _ _ _ [] (settle u') w'
    rw [hs]
    obtain ⟨v, hk, hr⟩ := results_run hS ha (K := fun v => R (.returned v) w') hres
    exact ⟨v, hr, hk⟩
end
end Go.Vc
set_option maxRecDepth 20000
namespace Go.Proofs.YtedeohcdcaimhaaGreatDoor
open Go.Vc Go.RowKit Go.Sei

def nilSl : Value := .slice none 0 0
def zeroSysC : List Value := nilSl :: nilSl :: ((List.replicate 6 zeroH).flatMap homE.enc ++ [nilSl])

theorem equalIn_ne (d : Nat) (te : TypeId) (pv : Value) (w : World) : (Op.equalIn (d + 1) 20 (.iface te pv) .nilIface).run Tryz.prog w = .ok false w := by
  simp only [Op.equalIn, Sem.run_bind, run_underlying Tryz.underlying20, Result.andThen_ok, Sem.run_pure]
theorem equalIn_nil (d : Nat) (w : World) : (Op.equalIn (d + 1) 20 .nilIface .nilIface).run Tryz.prog w = .ok true w := by
  simp only [Op.equalIn, Sem.run_bind, run_underlying Tryz.underlying20, Result.andThen_ok, Sem.run_pure]
theorem iface_ne (x y : Operand) (te : TypeId) (pv : Value) (w : World) : (do eqGuard .neq 20 x y (.iface te pv) .nilIface; binOp .neq 20 (.iface te pv) .nilIface : Sem Value).run Tryz.prog w = .ok (.bool true) w := by
  have h : (Op.equal 20 (.iface te pv) .nilIface).run Tryz.prog w = .ok false w := equalIn_ne 9999 te pv w
  have h1 : (eqGuard .neq 20 x y (.iface te pv) .nilIface).run Tryz.prog w = .ok () w := by
    simp only [eqGuard, Bool.not_true, Bool.false_eq_true, if_false, Sem.run_pure]
  rw [Sem.run_bind, h1]
  simp only [Result.andThen_ok, binOp, Sem.run_bind, h, Sem.run_pure, Bool.not_false]
theorem iface_nil (x : Operand) (w : World) : (do eqGuard .neq 20 x (.const .nilIface) .nilIface .nilIface; binOp .neq 20 .nilIface .nilIface : Sem Value).run Tryz.prog w = .ok (.bool false) w := by
  have h : (Op.equal 20 .nilIface .nilIface).run Tryz.prog w = .ok true w := equalIn_nil 9999 w
  have h1 : (eqGuard .neq 20 x (.const .nilIface) .nilIface .nilIface).run Tryz.prog w = .ok () w := by
    simp only [eqGuard, Bool.not_true, Bool.false_eq_true, if_false, Sem.run_pure, Bool.or_true, if_true]
  rw [Sem.run_bind, h1]
  simp only [Result.andThen_ok, binOp, Sem.run_bind, h, Sem.run_pure, Bool.not_true]

/-- What the closure leaves when it has caught a panic. -/
theorem read1_ret {sb eb : Nat} {w : World} :
    CallsDIn (FR none) NN Tryz.prog 23 #[.pointer (some ⟨sb, 0, none⟩), .pointer (some ⟨eb, 0, none⟩)] .returning w (fun e u' w' => (∃ v, e = .returned v) ∧ u' = .returning ∧ w' = w) := by
  refine callsDIn_of_wpSIn Tryz.func23 rfl trivial fun c₀ cs hm => ?_
  have hrec : recoverD (c₀ :: cs) = none := by simp only [recoverD, hm]
  have ha := args_agree (S := sg 5) (fn := (Tryz.prog.funcs[23]?).getD default) (args := [Value.pointer (some ⟨sb, 0, none⟩), .pointer (some ⟨eb, 0, none⟩)]) rfl (Nat.le_of_ble_eq_true rfl)
  refine rec_sound (sgOk 5) rfl ha rfl (fun ρ => by rfl) rfl (.inr ⟨hrec, rfl, rfl⟩) rfl rfl ?_
  refine ⟨_, fun w => iface_nil _ w, ?_⟩
  refine And.intro (fun h => by cases h) (fun _ => ?_)
  intro a' ha'
  obtain ⟨v, _, hr⟩ := results_run (sgOk 5) ha' (fn := Tryz.f23) (w := w) (K := fun _ => True) trivial
  exact ⟨ha'.defers, .returning, by rw [← hm], v, hr, ⟨_, rfl⟩, rfl, rfl⟩
theorem read1_pan {sb eb : Nat} {w : World} {te : TypeId} {pv : Value} {c1 c2 : Array Value} (h1 : w.heap[sb]? = some (.cells c1 58 (0, 0))) (hs1 : c1.size = 69) (h2 : w.heap[eb]? = some (.cells c2 70 (0, 0))) (hs2 : c2.size = 1) (hne : sb ≠ eb) :
    CallsDIn (FR none) NN Tryz.prog 23 #[.pointer (some ⟨sb, 0, none⟩), .pointer (some ⟨eb, 0, none⟩)] (.panicking [{ v := .iface te pv, recovered := false }]) w (fun e u' w' => (∃ v, e = .returned v) ∧ settle u' = .returning ∧
      w'.heap[sb]? = some (.cells zeroSysC.toArray 58 (0, 0)) ∧ w'.heap[eb]? = some (.cells #[.int .i64 220] 70 (0, 0)) ∧ Below (min sb eb) w w') := by
  refine callsDIn_of_wpSIn Tryz.func23 rfl trivial fun c₀ cs hm => ?_
  have hrec : recoverD (c₀ :: cs) = some (.iface te pv, { c₀ with mode := .panicking [{ v := .iface te pv, recovered := true }] } :: cs) := by simp only [recoverD, hm]
  have ha := args_agree (S := sg 5) (fn := (Tryz.prog.funcs[23]?).getD default) (args := [Value.pointer (some ⟨sb, 0, none⟩), .pointer (some ⟨eb, 0, none⟩)]) rfl (Nat.le_of_ble_eq_true rfl)
  refine rec_sound (sgOk 5) rfl ha rfl (fun ρ => by rfl) rfl (.inl hrec) rfl rfl ?_
  refine ⟨_, fun w => iface_ne _ _ te pv w, ?_⟩
  refine And.intro (fun _ => ?_) (fun h => by cases h)
  refine ⟨zeroSysC, by kernel_rfl, ?_⟩
  refine store_box (v := .agg zeroSysC.toArray) (ttOk.get 58 _ rfl) h1 (by rfl) hs1 (by rfl) ?_
  refine store_box (v := .int .i64 220) (ttOk.get 70 _ rfl) ((setRow_old hne.symm).trans h2) (by rfl) hs2 (by rfl) ?_
  intro a' ha'
  obtain ⟨v, _, hr⟩ := results_run (sgOk 5) ha' (fn := Tryz.f23) (w := (w.setRow sb (Value.agg zeroSysC.toArray).cells).setRow eb (Value.int IntKind.i64 220).cells) (K := fun _ => True) trivial
  refine ⟨ha'.defers, _, rfl, v, hr, ⟨_, rfl⟩, rfl, ?_, ?_, ?_⟩
  · exact (setRow_old hne).trans (setRow_new h1)
  · exact setRow_new ((setRow_old hne.symm).trans h2)
  · exact below_setRow (below_setRow (Below.refl _ _) (Nat.min_le_left _ _) _) (Nat.min_le_right _ _) _
end Go.Proofs.YtedeohcdcaimhaaGreatDoor
namespace Go.Proofs.YtedeohcdcaimhaaGreatDoor
open Go.Vc Go.RowKit Go.Sei

theorem CorM.fr {lo : Nat} {V V' : World} {L : List Nat} {c : Cor} {cs : List Value} (h : CorM lo V c cs) (hf : Fr L V V') (hl : ∀ k ∈ L, k < lo) : CorM lo V' c cs := by
  obtain ⟨bs, h1, h2, h3, h4⟩ := h
  have hn : bs ∉ L := fun hm => by have := hl _ hm; omega
  exact ⟨bs, h1, h2, Nat.lt_of_lt_of_le h3 hf.size, cells_same (hf.same bs h3 hn) h4⟩
def CorsM (lo : Nat) (V : World) (xs : List Cor) (D : List Value) : Prop := D.length = xs.length * 12 ∧ ∀ i (h : i < xs.length), CorM lo V xs[i] ((D.drop (i * 12)).take 12)
theorem CorsM.fr {lo : Nat} {V V' : World} {L : List Nat} {xs : List Cor} {D : List Value} (h : CorsM lo V xs D) (hf : Fr L V V') (hl : ∀ k ∈ L, k < lo) : CorsM lo V' xs D := ⟨h.1, fun i hi => (h.2 i hi).fr hf hl⟩
theorem CorsM.fr2 {lo bn sb gd : Nat} {V0 X Y : World} {xs : List Cor} {D : List Value} (h : CorsM lo V0 xs D) (hb : V0.heap.size ≤ bn) (hf : Fr [sb, gd] V0 X) (hX : Fr [bn, gd] X Y) (h1 : sb < lo) (h2 : gd < lo) : CorsM lo Y xs D := by
  refine ⟨h.1, fun i hi => ?_⟩
  obtain ⟨bs, m1, m2, m3, m4⟩ := h.2 i hi
  have m5 := Nat.lt_of_lt_of_le m3 hf.size
  exact ⟨bs, m1, m2, Nat.lt_of_lt_of_le m5 hX.size, cells_same (hX.same bs m5 (by simp; omega)) (cells_same (hf.same bs m3 (by simp; omega)) m4)⟩
theorem CorsM.snoc {lo : Nat} {V : World} {xs : List Cor} {D cs : List Value} {x : Cor} (h : CorsM lo V xs D) (hx : CorM lo V x cs) : CorsM lo V (xs ++ [x]) (D ++ cs) := by
  obtain ⟨h1, h2⟩ := h
  have hc : cs.length = 12 := by obtain ⟨bs, rfl, _⟩ := hx; rfl
  refine ⟨by simp [h1, hc, Nat.add_mul], fun i hi => ?_⟩
  rcases Nat.lt_or_ge i xs.length with hlt | hge
  · rw [List.getElem_append_left hlt, List.drop_append_of_le_length (by omega), List.take_append_of_le_length (by rw [List.length_drop]; omega)]
    exact h2 i hlt
  · have : i = xs.length := by simp at hi; omega
    subst this
    rw [← h1, List.drop_left, List.take_of_length_le (by omega)]
    simpa using hx
theorem CorsM.corsV {lo : Nat} {V : World} {xs : List Cor} {D : List Value} {T : TypeId} {b : Nat} (h : CorsM lo V xs D) (hb : Blk V b T D [] []) : CorsV V.heap.size V (some ⟨b, 0, none⟩) xs := by
  refine ⟨b, 0, .inr rfl, fun i hi => ?_⟩
  obtain ⟨bs, h1, h2, h3, h4⟩ := h.2 i hi
  refine ⟨some ⟨bs, 0, none⟩, xs[i].buf.length, hlt hb, ?_, ?_⟩
  · rw [← h1]
    have := cells_block hb
    simp only [List.append_nil] at this
    exact cells_sub this
  · exact .inr ⟨bs, 0, rfl, h3, h4⟩
def CorI (N B b g lo : Nat) (T : TypeId) (rest0 : List UInt8) (w0 : World) (i : Nat) (V : World) : Prop :=
  ∃ xs r D zs, reps decCor i rest0 = some (xs, r) ∧ xs.length = i ∧ CorsM lo V xs D ∧ zs.length = (N - i) * 12 ∧ Blk V b T D zs [] ∧ DecB B g r V ∧ Fr [b, g] w0 V

def emptySy : Sy := ⟨[], [], List.replicate 6 zeroH, []⟩
/-- What Read makes of bytes. -/
def readS (g : Geo) (b : List UInt8) : Option Sy := if geoR g then decSy g.c.toNat b else none
theorem zero_sys (B : Nat) (V : World) : SysV B V zeroSysC emptySy :=
  ⟨⟨none, 0, none, 0, none, 0, rfl, ⟨0, 0, .inl rfl, fun i hi => by simp [emptySy] at hi⟩, ⟨0, 0, .inl rfl, fun i hi => by simp [emptySy] at hi⟩, .inl rfl, fun _ => rfl⟩, rfl⟩

theorem cac_get : ∀ {ys : List Cac} (_ : ∀ c ∈ ys, c.ways.length = 16 ∧ c.notes.length = 4) {i : Nat} (hi : i < ys.length), ((ys.flatMap cacCells).drop (i * 160)).take 160 = cacCells ys[i]
  | a :: r, h, 0, hi => by
    have h1 : (cacCells a).length = 160 := by
      obtain ⟨h1, h2⟩ := h a List.mem_cons_self
      unfold cacCells opCells
      rw [List.length_append, List.length_append, flat_len (E := linE), flat_len (E := nteE), h1, h2]; rfl
    rw [List.flatMap_cons, Nat.zero_mul, List.drop_zero, List.take_append_of_le_length (by omega), List.take_of_length_le (by omega)]; rfl
  | a :: r, h, i + 1, hi => by
    have h1 : (cacCells a).length = 160 := by
      obtain ⟨h1, h2⟩ := h a List.mem_cons_self
      unfold cacCells opCells
      rw [List.length_append, List.length_append, flat_len (E := linE), flat_len (E := nteE), h1, h2]; rfl
    have e : (i + 1) * 160 = (cacCells a).length + i * 160 := by rw [h1]; omega
    rw [List.flatMap_cons, e, ← List.drop_drop, List.drop_left]
    exact cac_get (fun c hc => h c (List.mem_cons_of_mem _ hc)) (by simpa using hi)

/-- What Read answers. -/
def ReadR (g : Geo) (bytes : List UInt8) (w : World) (v : Value) (w' : World) : Prop :=
  ∃ vs en, v = .tuple #[.agg vs.toArray, .int .i64 en] ∧ Below w.heap.size w w' ∧ SysV w'.heap.size w' vs ((readS g bytes).getD emptySy) ∧ (readS g bytes = none → en = 220) ∧ (readS g bytes ≠ none → en = 0)

/-- Under way: the boxes of the result, of the error; the decoder; the world's value. -/
structure RdI (w : World) (wv : List Value) (wb sb eb gd : Nat) (M : List Value) (rest : List UInt8) (V : World) : Prop where
  bel : Below w.heap.size w V
  wb : V.heap[wb]? = some (.cells wv.toArray 44 (0, 0))
  sb : Blk V sb 58 [] M []
  eb : V.heap[eb]? = some (.cells #[.int .i64 0] 70 (0, 0))
  dec : DecB w.heap.size gd rest V
theorem RdI.fr {w : World} {wv : List Value} {wb sb eb gd : Nat} {M : List Value} {rest rest' : List UInt8} {V V' : World} {b : Nat} (h : RdI w wv wb sb eb gd M rest V) (hf : Fr [b, gd] V V') (hd : DecB w.heap.size gd rest' V') (hb : w.heap.size ≤ b) (h1 : b ≠ wb ∧ b ≠ sb ∧ b ≠ eb) (h2 : gd ≠ wb ∧ gd ≠ sb ∧ gd ≠ eb) : RdI w wv wb sb eb gd M rest' V' := by
  have hgd := h.dec.lt
  refine ⟨h.bel.trans (hf.below h.bel.size (fun k hk => by simp at hk; omega)), hf.cell h.wb (by simp; omega), h.sb.fr hf (by simp; omega), hf.cell h.eb (by simp; omega), hd⟩

@[reducible] def rdE (wb sb eb gd : Nat) : Env := ⟨[(2, .pointer (some ⟨wb, 0, none⟩)), (4, .pointer (some ⟨sb, 0, none⟩)), (5, .pointer (some ⟨eb, 0, none⟩)), (6, .pointer (some ⟨gd, 0, none⟩))],
  [{ target := .fn (.func 23) #[.pointer (some ⟨sb, 0, none⟩), .pointer (some ⟨eb, 0, none⟩)], args := #[] }]⟩
def homs0 : List Value := (List.replicate 6 zeroH).flatMap homE.enc
theorem blk_nil {V : World} {b : Nat} {T : TypeId} {M : List Value} : Blk V b T [] M [] ↔ V.heap[b]? = some (.cells M.toArray T (0, 0)) := by
  unfold Blk; rw [List.append_nil, List.nil_append]
theorem sys_set68 {a b c v : Value} {H : List Value} (h : H.length = 66) : (a :: b :: (H ++ [c])).set 68 v = a :: b :: (H ++ [v]) := by
  simp only [List.set_cons_succ]
  rw [List.set_append_right _ _ (by omega), h]; rfl
def HomI (B sb gd : Nat) (A0 Z0 : List Value) (rest0 : List UInt8) (w0 : World) (i : Nat) (X : World) : Prop :=
  ∃ hs r, reps decHom i rest0 = some (hs, r) ∧ hs.length = i ∧ Blk X sb 58 (A0 ++ hs.flatMap homE.enc) ((List.replicate (6 - i) zeroH).flatMap homE.enc) Z0 ∧ DecB B gd r X ∧ Fr [sb, gd] w0 X

theorem Read_s {wv : List Value} {g : Geo} {mode : UInt8} {bytes : List UInt8} {p : Option Addr} {cap : Nat} {w : World} (hW : WorV wv g.enc mode) (hB : BndM w) (hr : RowB byteE w.heap.size w p bytes) (hc : bytes.length ≤ cap) (hl : bytes.length ≤ 1000000000) :
    Calls Tryz.prog 12 #[.agg wv.toArray, .slice p bytes.length cap] w fun e w' => ∃ v, e = .returned v ∧ ReadR g bytes w v w' := by
  refine calls_of_D2 (S := sg 49) (sgOk _) (args := [.agg wv.toArray, .slice p bytes.length cap]) (.c .p (.c .p (.c .p (.c .p (.c .p (.c .p (.c .p (.c .p (.c .p .p))))))))) Tryz.func12 rfl rfl (Nat.le_of_ble_eq_true rfl) rfl ?_
  refine ⟨Nat × Nat × Nat, fun s => ⟨[(1, .slice p bytes.length cap), (2, .pointer (some ⟨s.1, 0, none⟩)), (4, .pointer (some ⟨s.2.1, 0, none⟩)), (5, .pointer (some ⟨s.2.2, 0, none⟩))], []⟩,
    fun s V => w.heap.size ≤ s.1 ∧ s.1 < s.2.1 ∧ s.2.1 < s.2.2 ∧ Below w.heap.size w V ∧ V.heap[s.1]? = some (.cells wv.toArray 44 (0, 0)) ∧ Blk V s.2.1 58 [] zeroSysC [] ∧ V.heap[s.2.2]? = some (.cells #[.int .i64 0] 70 (0, 0)), ?_, ?_⟩
  · have e1 : ∀ (X : World) (o : Obj), (X.alloc o).heap.size = X.heap.size + 1 := fun X o => World.size_alloc _ _
    refine ⟨(w.heap.size, (w.alloc (.cells wv.toArray 44)).heap.size, ((w.alloc (.cells wv.toArray 44)).alloc (.cells zeroSysC.toArray 58)).heap.size), ⟨.cons rfl (.cons rfl (.cons rfl (.cons rfl .nil))), rfl⟩, Nat.le_refl _, by dsimp only; simp only [e1]; omega, by dsimp only; simp only [e1]; omega, ?_, ?_, ?_, ?_⟩
    · exact (((Below.refl _ _).alloc (Nat.le_refl _) _).alloc (by simp) _).alloc (by simp; omega) _
    · exact hold _ (hold _ (hnew w _))
    · have := hold (.cells #[.int .i64 0] 70) (hnew (w.alloc (.cells wv.toArray 44)) (.cells zeroSysC.toArray 58))
      unfold Blk
      rw [List.append_nil, List.nil_append]
      exact this
    · exact hnew ((w.alloc (.cells wv.toArray 44)).alloc (.cells zeroSysC.toArray 58)) (.cells #[.int .i64 0] 70)
  rintro ⟨wb, sb, eb⟩ V ⟨hwb, hsb, heb, hbel, fw, fs, fe⟩
  dsimp only at hwb hsb heb fw fs fe
  have hgeo : ∀ X, X.heap[wb]? = some (.cells wv.toArray 44 (0, 0)) → Cells X ⟨wb, 10, none⟩ g.enc := fun X fX => by
    have := cells_sub (n := 10) (m := 5) (cells_block fX)
    simp only [Nat.zero_add] at this
    rw [← hW.geo]; exact this
  refine ⟨Unit, fun _ => ⟨[(1, .slice p bytes.length cap), (2, .pointer (some ⟨wb, 0, none⟩)), (4, .pointer (some ⟨sb, 0, none⟩)), (5, .pointer (some ⟨eb, 0, none⟩))], []⟩,
    fun _ V => geoR g = true ∧ Below w.heap.size w V ∧ V.heap[wb]? = some (.cells wv.toArray 44 (0, 0)) ∧ Blk V sb 58 [] zeroSysC [] ∧ V.heap[eb]? = some (.cells #[.int .i64 0] 70 (0, 0)), ?_, ?_⟩
  · refine ⟨g.enc, rfl, hgeo V fw, hlt fw, ?_⟩
    refine Calls.mono (Right_geo_c g V (hB.below hbel)) ?_
    rintro e X ⟨rfl, hbX⟩
    have fsX : Blk X sb 58 [] zeroSysC [] := block_below hbX fs
    have feX := block_below hbX fe
    refine And.intro (fun h => ?_) (fun h => ?_)
    · have h : geoR g = false := by
        have : (!geoR g) = true := h
        simpa using this
      have hse : eb ≠ sb := by omega
      have hes : sb ≠ eb := by omega
      refine ⟨zeroSysC, by kernel_rfl, ?_⟩
      have fsX' : X.heap[sb]? = some (.cells zeroSysC.toArray 58 (0, 0)) := by
        unfold Blk at fsX
        rw [List.append_nil, List.nil_append] at fsX
        exact fsX
      refine store_box (v := .agg zeroSysC.toArray) (ttOk.get 58 _ rfl) fsX' (by rfl) (by rfl) (by rfl) ?_
      refine store_box (v := .int .i64 220) (ttOk.get 70 _ rfl) ((setRow_old hse).trans feX) (by rfl) rfl (by rfl) ?_
      refine leave_none (sgOk _) rfl ?_
      have hrd : readS g bytes = none := by unfold readS; rw [h]; rfl
      refine ⟨zeroSysC, rfl, cells_block ((setRow_old hes).trans (setRow_new fsX')), ?_⟩
      refine ⟨_, cells_at (cells_block (setRow_new ((setRow_old hse).trans feX))) (i := 0) rfl, ?_⟩
      refine ⟨_, rfl, zeroSysC, 220, rfl, below_setRow (below_setRow (hbel.trans (hbX.mono hbel.size)) (by omega) _) (by omega) _, ?_, fun _ => rfl, fun h => absurd hrd h⟩
      rw [hrd]
      exact zero_sys _ _
    · have h : geoR g = true := by
        have : (!geoR g) = false := h
        simpa using this
      exact ⟨(), ⟨.cons rfl (.cons rfl (.cons rfl (.cons rfl .nil))), rfl⟩, h, hbel.trans (hbX.mono hbel.size), block_below hbX fw, fsX, feX⟩
  rintro _ V ⟨hg, hbel, fw, fs, fe⟩
  have hgc := (geoR_spec hg).1
  obtain ⟨n, hn⟩ : ∃ n : Nat, g.c = n := ⟨g.c.toNat, by omega⟩
  have hn4 : n ≤ 4 := by omega
  have hrd : readS g bytes = decSy n bytes := by
    unfold readS; rw [hg, hn]; rfl
  -- a panic is caught
  have hpan : ∀ (ch : List PanicEntry) (X : World) (E : Env), E.ds = [{ target := .fn (.func 23) #[.pointer (some ⟨sb, 0, none⟩), .pointer (some ⟨eb, 0, none⟩)], args := #[] }] → Env.find E 4 = some (.pointer (some ⟨sb, 0, none⟩)) → Env.find E 5 = some (.pointer (some ⟨eb, 0, none⟩)) →
      PanOk ch → (∃ cs, X.heap[sb]? = some (.cells cs 58 (0, 0)) ∧ cs.size = 69) → (∃ cs, X.heap[eb]? = some (.cells cs 70 (0, 0)) ∧ cs.size = 1) → Below w.heap.size w X → decSy n bytes = none →
      postD (sg 49) Tryz.f12 (fun e w' => ∃ v, e = .returned v ∧ ReadR g bytes w v w') (.panic ch) E X := by
    rintro ch X E hds h4 h5 ⟨te, pv, rfl⟩ ⟨c1, h1, hs1⟩ ⟨c2, h2, hs2⟩ hbX hdec
    refine leave_one (sgOk _) (by simp) hds (by kernel_rfl) ?_
    refine CallsDIn.mono (read1_pan (te := te) (pv := pv) h1 hs1 h2 hs2 (by omega)) ?_
    rintro e u' Y ⟨hv, hset, f1, f2, hbY⟩
    refine ⟨hv, hset, ?_⟩
    have w4 : with1 E (.tmp 4) = fun f => f (.pointer (some ⟨sb, 0, none⟩)) := by funext f; unfold with1; rw [show opd E (.tmp 4) = _ from h4]
    have w5 : with1 E (.tmp 5) = fun f => f (.pointer (some ⟨eb, 0, none⟩)) := by funext f; unfold with1; rw [show opd E (.tmp 5) = _ from h5]
    show with1 E (.tmp 4) _
    rw [w4]
    refine ⟨zeroSysC, rfl, cells_block f1, ?_⟩
    show with1 E (.tmp 5) _
    rw [w5]
    refine ⟨_, cells_at (cells_block f2) (i := 0) rfl, ?_⟩
    refine ⟨_, rfl, zeroSysC, 220, rfl, hbX.trans (hbY.mono (by omega)), ?_, fun _ => rfl, fun h => absurd (hrd.trans hdec) h⟩
    rw [hrd, hdec]
    exact zero_sys _ _
  have hp2 : ∀ {M : List Value} {rest : List UInt8} {gd b : Nat} {V X : World} {E : Env} {ch : List PanicEntry}, RdI w wv wb sb eb gd M rest V → M.length = 69 → Fr [b, gd] V X → w.heap.size ≤ b → E.ds = [{ target := .fn (.func 23) #[.pointer (some ⟨sb, 0, none⟩), .pointer (some ⟨eb, 0, none⟩)], args := #[] }] → Env.find E 4 = some (.pointer (some ⟨sb, 0, none⟩)) → Env.find E 5 = some (.pointer (some ⟨eb, 0, none⟩)) →
      PanOk ch → decSy n bytes = none → postD (sg 49) Tryz.f12 (fun e w' => ∃ v, e = .returned v ∧ ReadR g bytes w v w') (.panic ch) E X := by
    intro M rest gd b V X E ch hI hM hf hb hds h4 h5 hpo hdec
    have hgd := hI.dec.lt
    obtain ⟨c1, q1, q2⟩ := hf.sz sb _ _ (blk_nil.1 hI.sb)
    obtain ⟨c2, q3, q4⟩ := hf.sz eb _ _ hI.eb
    exact hpan ch X E hds h4 h5 hpo ⟨c1, q1, by rw [q2]; simpa using hM⟩ ⟨c2, q3, by rw [q4]; rfl⟩ (hI.bel.trans (hf.below hI.bel.size (fun k hk => by simp at hk; omega))) hdec
  have hH0 : homs0.length = 66 := rfl
  -- the decoder
  refine ⟨Nat, fun gd => rdE wb sb eb gd, fun gd X => eb < gd ∧ RdI w wv wb sb eb gd (nilSl :: nilSl :: (homs0 ++ [nilSl])) bytes X, ?_, ?_⟩
  · refine ⟨_, rfl, ?_⟩
    refine ⟨_, rfl, ?_⟩
    refine store_new (X := V) (v := .agg #[.slice p bytes.length cap]) (ttOk.get 81 _ rfl) (by rfl) rfl (by rfl) fun Y hbY fY sY => ?_
    have := hlt fe
    exact ⟨V.heap.size, ⟨.cons rfl (.cons rfl (.cons rfl (.cons rfl .nil))), rfl⟩, this, hbel.trans (hbY.mono hbel.size), block_below hbY fw, block_below hbY fs, block_below hbY fe, ⟨p, cap, fY, hr.below (hbel.trans (hbY.mono hbel.size)), hc, hl, hbel.size⟩⟩
  rintro gd V0 ⟨hgd, hI⟩
  clear fw fs fe hbel
  have henc : g.enc[0]? = some (.int .i64 (n : Int)) := by rw [← hn]; rfl
  -- cores made
  refine ⟨Nat, fun _ => rdE wb sb eb gd, fun bc X => gd < bc ∧ (∃ cs, cs.length = n * 12 ∧ Blk X bc 66 [] cs []) ∧ RdI w wv wb sb eb gd (.slice (some ⟨bc, 0, none⟩) n n :: nilSl :: (homs0 ++ [nilSl])) bytes X, ?_, ?_⟩
  · refine ⟨_, cells_at (hgeo V0 hI.wb) (i := 0) henc, ?_⟩
    refine make_full (T := 66) Tryz.underlying45 (ttOk.get 66 _ rfl) rfl n (by dsimp only; omega) (by omega) ?_
    intro X cs hcs hbk hbX hsX
    refine st_cell (o := 0) (i := 0) (ttOk.get 45 _ rfl) rfl (block_below hbX hI.sb) rfl (by simp) rfl rfl ?_
    intro Y hbY hfY
    have hgl := hI.dec.lt
    have hne : V0.heap.size ∉ [sb] := by simp; omega
    exact ⟨V0.heap.size, ⟨.cons rfl (.cons rfl (.cons rfl (.cons rfl .nil))), rfl⟩, hgl.2, ⟨cs, hcs, hbk.fr hfY hne⟩,
      (hI.bel.trans (hbX.mono hI.bel.size)).trans (hfY.below (by have := hI.bel.size; omega) (fun k hk => by simp at hk; omega)), hfY.cell (block_below hbX hI.wb) (by simp; omega), hbY, hfY.cell (block_below hbX hI.eb) (by simp; omega), (hI.dec.below hbX).fr hfY (by simp; omega) (fun k hk => by simp at hk; omega)⟩
  rintro bc V1 ⟨hbc, ⟨cs0, hcs0, hbk0⟩, hI⟩
  -- caches made
  refine ⟨Nat, fun _ => rdE wb sb eb gd, fun ba X => bc < ba ∧ (∃ cs, cs.length = n * 160 ∧ Blk X ba 97 [] cs []) ∧ Blk X bc 66 [] cs0 [] ∧ RdI w wv wb sb eb gd (.slice (some ⟨bc, 0, none⟩) n n :: .slice (some ⟨ba, 0, none⟩) n n :: (homs0 ++ [nilSl])) bytes X, ?_, ?_⟩
  · refine ⟨_, cells_at (hgeo V1 hI.wb) (i := 0) henc, ?_⟩
    refine make_full (T := 97) Tryz.underlying46 (ttOk.get 97 _ rfl) rfl n (by dsimp only; omega) (by omega) ?_
    intro X cs hcs hbk hbX hsX
    refine st_cell (o := 0) (i := 1) (ttOk.get 46 _ rfl) rfl (block_below hbX hI.sb) rfl (by simp) rfl rfl ?_
    intro Y hbY hfY
    have hgl := hlt hbk0
    have hne : V1.heap.size ∉ [sb] := by simp; omega
    exact ⟨V1.heap.size, ⟨.cons rfl (.cons rfl (.cons rfl (.cons rfl .nil))), rfl⟩, hgl, ⟨cs, hcs, hbk.fr hfY hne⟩, Blk.fr (block_below hbX hbk0) hfY (by simp; omega),
      (hI.bel.trans (hbX.mono hI.bel.size)).trans (hfY.below (by have := hI.bel.size; omega) (fun k hk => by simp at hk; omega)), hfY.cell (block_below hbX hI.wb) (by simp; omega), hbY, hfY.cell (block_below hbX hI.eb) (by simp; omega), (hI.dec.below hbX).fr hfY (by simp; omega) (fun k hk => by simp at hk; omega)⟩
  rintro ba V2 ⟨hba, ⟨cs1, hcs1, hbk1⟩, hbk0, hI⟩
  have hM69 : (Value.slice (some ⟨bc, 0, none⟩) n n :: .slice (some ⟨ba, 0, none⟩) n n :: (homs0 ++ [nilSl])).length = 69 := rfl
  -- cores read
  refine ⟨Nat, fun _ => rdE wb sb eb gd, fun lo X => ba < lo ∧ ∃ xs r1 D, reps decCor n bytes = some (xs, r1) ∧ CorsM lo X xs D ∧ Blk X bc 66 D [] [] ∧ Blk X ba 97 [] cs1 [] ∧ RdI w wv wb sb eb gd (.slice (some ⟨bc, 0, none⟩) n n :: .slice (some ⟨ba, 0, none⟩) n n :: (homs0 ++ [nilSl])) r1 X, ?_, ?_⟩
  · have hlo := hlt hbk1
    refine ⟨_, cells_at (hI.sb.cells rfl) (i := 0) rfl, ?_⟩
    refine CallR.imp (each_Cor (p := some ⟨bc, 0, none⟩) (b := bc) (o := 0) (n := n) (cap := n) (caps := [.pointer (some ⟨gd, 0, none⟩)]) (CorI n w.heap.size bc gd V2.heap.size 66 bytes V2)
      (KP := fun ch X => reps decCor n bytes = none ∧ PanOk ch ∧ Fr [bc, gd] V2 X) (by kernel_rfl) (.inr rfl) (by omega) ?_ ⟨[], bytes, [], cs0, rfl, rfl, ⟨rfl, fun i hi => by simp at hi⟩, hcs0, hbk0, hI.dec, Fr.refl _ _⟩) ?_ ?_
    · rintro i X hi ⟨xs, r, D, zs, j1, j2, j3, j4, j5, j6, j7⟩
      have hz : zs.length = 12 + (n - (i + 1)) * 12 := by
        have : n - i = (n - (i + 1)) + 1 := by omega
        rw [j4, this, Nat.add_mul]; omega
      refine CallR.imp (read2_c j6 (j5.split 12) (o := 0 + i * 12) (by rw [j3.1, j2]; omega) (by rw [List.length_take]; omega) (by omega) (by omega)) ?_ ?_
      · rintro v Y ⟨x, r', cs, k1, k2, k3, k4, k5⟩
        have hx : CorM V2.heap.size Y x cs := by
          obtain ⟨bs, m1, m2, m3, m4⟩ := k3
          exact ⟨bs, m1, Nat.le_trans j7.size m2, m3, m4⟩
        exact ⟨xs ++ [x], r', D ++ cs, zs.drop 12, reps_step j1 k1, by simp [j2], (j3.fr k5 (fun k hk => by simp at hk; omega)).snoc hx, by rw [List.length_drop]; omega, k2.join, k4, j7.trans k5⟩
      · rintro ch Y ⟨k1, k2, k3⟩
        exact ⟨reps_fail j1 k1 hi, k2, j7.trans k3⟩
    · rintro v X ⟨xs, r, D, zs, j1, j2, j3, j4, j5, j6, j7⟩
      have hz : zs = [] := List.eq_nil_of_length_eq_zero (by rw [j4]; simp)
      subst hz
      exact ⟨V2.heap.size, ⟨.cons rfl (.cons rfl (.cons rfl (.cons rfl .nil))), rfl⟩, hlo, xs, r, D, j1, j3, j5, hbk1.fr j7 (by simp; omega), hI.fr j7 j6 (by omega) ⟨by omega, by omega, by omega⟩ ⟨by omega, by omega, by omega⟩⟩
    · rintro ch X ⟨k1, k2, k3⟩
      exact hp2 hI hM69 k3 (by omega) rfl rfl rfl k2 (by unfold decSy; rw [k1])
  rintro lo V3 ⟨hlo, xs, r1, D, hxs, hD, hbkD, hbk1, hI⟩
  have hxl := (reps_g fmt_cor _ _ _ _ hxs).1
  -- caches read
  refine ⟨Unit, fun _ => rdE wb sb eb gd, fun _ X => ∃ ys r2, reps decCac n r1 = some (ys, r2) ∧ CorsM lo X xs D ∧ Blk X bc 66 D [] [] ∧ Blk X ba 97 [] (ys.flatMap cacCells) [] ∧ RdI w wv wb sb eb gd (.slice (some ⟨bc, 0, none⟩) n n :: .slice (some ⟨ba, 0, none⟩) n n :: (homs0 ++ [nilSl])) r2 X, ?_, ?_⟩
  · refine ⟨_, cells_at (hI.sb.cells rfl) (i := 1) rfl, ?_⟩
    have hl160 : ∀ (r : List UInt8) (x : Cac) (r' : List UInt8), decCac r = some (x, r') → (cacCells x).length = 160 := fun r x r' h => by
      obtain ⟨⟨h1, h2, _⟩, _⟩ := fmt_cac.g _ _ _ h
      unfold cacCells opCells
      rw [List.length_append, List.length_append, flat_len (E := linE), flat_len (E := nteE), h1, h2]; rfl
    refine CallR.imp (each_Cac (p := some ⟨ba, 0, none⟩) (b := ba) (o := 0) (n := n) (cap := n) (caps := [.pointer (some ⟨gd, 0, none⟩)]) (RowI decCac cacCells 160 n w.heap.size ba gd 97 [] [] r1 V3)
      (KP := fun ch X => reps decCac n r1 = none ∧ PanOk ch ∧ Fr [ba, gd] V3 X) (by kernel_rfl) (.inr rfl) (by omega) ?_ (RowI.start hcs1 hbk1 hI.dec)) ?_ ?_
    · intro i X hi hR
      obtain ⟨A1, r, M1, Z1, j1, j2, j3, j4, j5, j6, j7⟩ := hR.step hl160 hi
      refine CallR.imp (read3_c j4 j2 (o := 0 + i * 160) j3 j1 (by omega) (by omega)) ?_ ?_
      · rintro v Y ⟨x, r', k1, k2, k3, k4⟩
        exact j6 x r' Y k1 k2 k3 k4
      · rintro ch Y ⟨k1, k2, k3⟩
        exact ⟨j7 k1, k2, j5.trans k3⟩
    · rintro v X hR
      obtain ⟨ys, r2, k1, k2, k3, k4⟩ := hR.done
      exact ⟨(), ⟨.cons rfl (.cons rfl (.cons rfl (.cons rfl .nil))), rfl⟩, ys, r2, k1, hD.fr k4 (fun k hk => by simp at hk; omega), hbkD.fr k4 (by simp; omega), k2, hI.fr k4 k3 (by omega) ⟨by omega, by omega, by omega⟩ ⟨by omega, by omega, by omega⟩⟩
    · rintro ch X ⟨k1, k2, k3⟩
      exact hp2 hI hM69 k3 (by omega) rfl rfl rfl k2 (by unfold decSy; simp only [hxs, k1])
  rintro _ V4 ⟨ys, r2, hys, hD, hbkD, hbkY, hI⟩
  obtain ⟨hyl, hyok, _⟩ := reps_g fmt_cac _ _ _ _ hys
  -- the homes
  refine ⟨Unit, fun _ => rdE wb sb eb gd, fun _ X => ∃ hs r3, reps decHom 6 r2 = some (hs, r3) ∧ CorsM lo X xs D ∧ Blk X bc 66 D [] [] ∧ Blk X ba 97 [] (ys.flatMap cacCells) [] ∧ RdI w wv wb sb eb gd (.slice (some ⟨bc, 0, none⟩) n n :: .slice (some ⟨ba, 0, none⟩) n n :: (hs.flatMap homE.enc ++ [nilSl])) r3 X, ?_, ?_⟩
  · have hs0 : Blk V4 sb 58 [.slice (some ⟨bc, 0, none⟩) n n, .slice (some ⟨ba, 0, none⟩) n n] homs0 [nilSl] := by
      have := blk_nil.1 hI.sb
      unfold Blk
      rw [this]
      simp
    refine CallR.imp (each_Hom (p := some ⟨sb, 2, none⟩) (b := sb) (o := 2) (n := 6) (cap := 6) (caps := [.pointer (some ⟨gd, 0, none⟩)]) (HomI w.heap.size sb gd [.slice (some ⟨bc, 0, none⟩) n n, .slice (some ⟨ba, 0, none⟩) n n] [nilSl] r2 V4)
      (KP := fun ch X => reps decHom 6 r2 = none ∧ PanOk ch ∧ Fr [sb, gd] V4 X) (by kernel_rfl) (.inr rfl) (by decide) ?_ ⟨[], r2, rfl, rfl, hs0, hI.dec, Fr.refl _ _⟩) ?_ ?_
    · rintro i X hi ⟨hs, r, j1, j2, j3, j4, j5⟩
      have e6 : 6 - i = (6 - (i + 1)) + 1 := by omega
      rw [e6, List.replicate_succ, List.flatMap_cons] at j3
      have j3' : Blk X sb 58 ([.slice (some ⟨bc, 0, none⟩) n n, .slice (some ⟨ba, 0, none⟩) n n] ++ hs.flatMap homE.enc) (homE.enc zeroH) ((List.replicate (6 - (i + 1)) zeroH).flatMap homE.enc ++ [nilSl]) := by
        have := j3.split (homE.enc zeroH).length
        rw [List.take_left, List.drop_left] at this
        exact this
      refine CallR.imp (read4_c j4 j3' (o := 2 + i * 11) (by rw [List.length_append, flat_len, j2]; rfl) (by omega) (by omega)) ?_ ?_
      · rintro v Y ⟨x, r', k1, k2, k3, k4⟩
        refine ⟨hs ++ [x], r', reps_step j1 k1, by simp [j2], ?_, k3, j5.trans k4⟩
        have := k2.join
        rw [List.flatMap_append]
        simpa using this
      · rintro ch Y ⟨k1, k2, k3⟩
        exact ⟨reps_fail j1 k1 hi, k2, j5.trans k3⟩
    · rintro v X ⟨hs, r, j1, j2, j3, j4, j5⟩
      refine ⟨(), ⟨.cons rfl (.cons rfl (.cons rfl (.cons rfl .nil))), rfl⟩, hs, r, j1, hD.fr j5 (fun k hk => by simp at hk; omega), hbkD.fr j5 (by simp; omega), hbkY.fr j5 (by simp; omega), hI.bel.trans (j5.below hI.bel.size (fun k hk => by simp at hk; omega)), j5.cell hI.wb (by simp; omega), ?_, j5.cell hI.eb (by simp; omega), j4⟩
      unfold Blk at j3 ⊢
      rw [j3]
      simp
    · rintro ch X ⟨k1, k2, k3⟩
      exact hp2 hI hM69 k3 (by omega) rfl rfl rfl k2 (by unfold decSy; simp only [hxs, hys, k1])
  rintro _ V5 ⟨hs, r3, hhs, hD, hbkD, hbkY, hI⟩
  have hhl := (reps_g fmt_hom _ _ _ _ hhs).1
  have hHc : (hs.flatMap homE.enc).length = 66 := by rw [flat_len, hhl]; rfl
  have hM69 : ∀ v : Value, (Value.slice (some ⟨bc, 0, none⟩) n n :: .slice (some ⟨ba, 0, none⟩) n n :: (hs.flatMap homE.enc ++ [v])).length = 69 := fun v => by simp [hHc]
  -- the number of messages
  refine ⟨Nat, fun _ => rdE wb sb eb gd, fun bn X => ba < bn ∧ ∃ x r4, r3 = x :: r4 ∧ x.toNat ≤ 64 ∧ (∀ Y, Fr [bn, gd] X Y → CorsM lo Y xs D) ∧ Blk X bc 66 D [] [] ∧ Blk X ba 97 [] (ys.flatMap cacCells) [] ∧ (∃ cs, cs.length = x.toNat * 11 ∧ Blk X bn 107 [] cs []) ∧ RdI w wv wb sb eb gd (.slice (some ⟨bc, 0, none⟩) n n :: .slice (some ⟨ba, 0, none⟩) n n :: (hs.flatMap homE.enc ++ [.slice (some ⟨bn, 0, none⟩) x.toNat x.toNat])) r4 X, ?_, ?_⟩
  · refine CallR.imp (Most_c hI.dec 64) ?_ ?_
    · rintro v X1 ⟨x, r4, rfl, hx, rfl, hD1, hf1⟩
      have hx64 : x.toNat ≤ 64 := hx
      have hI1 : RdI w wv wb sb eb gd _ r4 X1 := hI.fr (b := ba) hf1.inr hD1 (by omega) ⟨by omega, by omega, by omega⟩ ⟨by omega, by omega, by omega⟩
      refine make_full (T := 107) Tryz.underlying56 (ttOk.get 107 _ rfl) rfl x.toNat (by dsimp only; omega) (by omega) ?_
      intro X2 cs hcs hbk hbX hsX
      refine st_cell (o := 0) (i := 68) (ttOk.get 56 _ rfl) rfl (block_below hbX hI1.sb) rfl (by rw [hM69]; decide) rfl rfl ?_
      intro Y hbY hfY
      rw [sys_set68 hHc] at hbY
      have hl1 := hlt hbkY
      have hs1 := hf1.size
      have hne : X1.heap.size ∉ [sb] := by simp; omega
      have hfY2 : Fr [sb, gd] V5 Y := hf1.inr.trans ((Fr.of_below hbX).trans hfY.inl)
      exact ⟨X1.heap.size, ⟨.cons rfl (.cons rfl (.cons rfl (.cons rfl .nil))), rfl⟩, by omega, x, r4, rfl, hx64, fun Z hZ => hD.fr2 hs1 hfY2 hZ (by omega) (by omega), hbkD.fr hfY2 (by simp; omega), hbkY.fr hfY2 (by simp; omega), ⟨cs, hcs, hbk.fr hfY hne⟩,
        hI.bel.trans (hfY2.below hI.bel.size (fun k hk => by simp at hk; omega)), hfY2.cell hI.wb (by simp; omega), hbY, hfY2.cell hI.eb (by simp; omega), (hD1.below hbX).fr hfY (by simp; omega) (fun k hk => by simp at hk; omega)⟩
    · rintro ch X ⟨k1, k2, k3⟩
      refine hp2 (b := ba) hI (hM69 _) k3.inr (by omega) rfl rfl rfl k2 ?_
      unfold decSy
      simp only [hxs, hys, hhs]
      cases r3 with
      | nil => rfl
      | cons y s =>
        have h3 : ¬ y.toNat ≤ 64 := k1 y s rfl
        simp only [if_neg h3]
  rintro bn V6 ⟨hbn, x, r4, rfl, hx64, hD, hbkD, hbkY, ⟨cs2, hcs2, hbk2⟩, hI⟩
  -- the messages
  refine ⟨Unit, fun _ => rdE wb sb eb gd, fun _ X => ∃ ms r5, reps decMsg x.toNat r4 = some (ms, r5) ∧ CorsM lo X xs D ∧ Blk X bc 66 D [] [] ∧ Blk X ba 97 [] (ys.flatMap cacCells) [] ∧ Blk X bn 107 [] (ms.flatMap Msg.E.enc) [] ∧ RdI w wv wb sb eb gd (.slice (some ⟨bc, 0, none⟩) n n :: .slice (some ⟨ba, 0, none⟩) n n :: (hs.flatMap homE.enc ++ [.slice (some ⟨bn, 0, none⟩) x.toNat x.toNat])) r5 X, ?_, ?_⟩
  · refine ⟨_, cells_at (hI.sb.cells rfl) (i := 68) (sys_net hHc), ?_⟩
    refine CallR.imp (each_Msg (p := some ⟨bn, 0, none⟩) (b := bn) (o := 0) (n := x.toNat) (cap := x.toNat) (caps := [.pointer (some ⟨gd, 0, none⟩)]) (RowI decMsg Msg.E.enc 11 x.toNat w.heap.size bn gd 107 [] [] r4 V6)
      (KP := fun ch X => reps decMsg x.toNat r4 = none ∧ PanOk ch ∧ Fr [bn, gd] V6 X) (by kernel_rfl) (.inr rfl) (by omega) ?_ (RowI.start hcs2 hbk2 hI.dec)) ?_ ?_
    · intro i X hi hR
      obtain ⟨A1, r, M1, Z1, j1, j2, j3, j4, j5, j6, j7⟩ := hR.step (fun _ x _ _ => Msg.E.len x) hi
      refine CallR.imp (read5_c j4 j2 (o := 0 + i * 11) j3 j1 (by omega) (by omega)) ?_ ?_
      · rintro v Y ⟨x, r', k1, k2, k3, k4⟩
        exact j6 x r' Y k1 k2 k3 k4
      · rintro ch Y ⟨k1, k2, k3⟩
        exact ⟨j7 k1, k2, j5.trans k3⟩
    · rintro v X hR
      obtain ⟨ms, r5, k1, k2, k3, k4⟩ := hR.done
      exact ⟨(), ⟨.cons rfl (.cons rfl (.cons rfl (.cons rfl .nil))), rfl⟩, ms, r5, k1, hD X k4, hbkD.fr k4 (by simp; omega), hbkY.fr k4 (by simp; omega), k2, hI.fr k4 k3 (by omega) ⟨by omega, by omega, by omega⟩ ⟨by omega, by omega, by omega⟩⟩
    · rintro ch X ⟨k1, k2, k3⟩
      exact hp2 hI (hM69 _) k3 (by omega) rfl rfl rfl k2 (by unfold decSy; simp only [hxs, hys, hhs, if_pos hx64, k1])
  rintro _ V7 ⟨ms, r5, hms, hD, hbkD, hbkY, hbkM, hI⟩
  have hml := (reps_g fmt_msg _ _ _ _ hms).1
  -- nothing is left
  refine ⟨Unit, fun _ => rdE wb sb eb gd, fun _ X => r5 = [] ∧ Fr [gd] V7 X, ?_, ?_⟩
  · refine CallR.imp (End_c hI.dec) ?_ ?_
    · rintro v X ⟨rfl, hf⟩
      exact ⟨(), ⟨.cons rfl (.cons rfl (.cons rfl (.cons rfl .nil))), rfl⟩, rfl, hf⟩
    · rintro ch X ⟨k1, k2, k3⟩
      refine hp2 (b := ba) hI (hM69 _) k3.inr (by omega) rfl rfl rfl k2 ?_
      unfold decSy
      simp only [hxs, hys, hhs, if_pos hx64, hms]
      cases r5 with
      | nil => exact absurd rfl k1
      | cons y s => rfl
  rintro _ V8 ⟨rfl, hf8⟩
  have hdec : decSy n bytes = some ⟨xs, ys, hs, ms⟩ := by unfold decSy; simp only [hxs, hys, hhs, if_pos hx64, hms]
  have hD8 : CorsM lo V8 xs D := hD.fr hf8 (fun k hk => by simp at hk; omega)
  have hI8 : Blk V8 sb 58 [] _ [] := hI.sb.fr hf8 (by simp; omega)
  have he8 := hf8.cell hI.eb (by simp; omega)
  have hbkD8 := hbkD.fr hf8 (by simp; omega)
  have hbkM8 := hbkM.fr hf8 (by simp; omega)
  have hbkY8 := hbkY.fr hf8 (by simp; omega)
  have hse : eb ≠ sb := by omega
  have hes : sb ≠ eb := by omega
  have fs8 := blk_nil.1 hI8
  have hw8 : Below w.heap.size w V8 := hI.bel.trans (hf8.below hI.bel.size (fun k hk => by simp at hk; have := hI.dec.lt; omega))
  obtain ⟨MM, hMM⟩ : ∃ MM, MM = Value.slice (some ⟨bc, 0, none⟩) n n :: .slice (some ⟨ba, 0, none⟩) n n :: (hs.flatMap homE.enc ++ [.slice (some ⟨bn, 0, none⟩) x.toNat x.toNat]) := ⟨_, rfl⟩
  have hMl : MM.length = 69 := by rw [hMM]; exact hM69 _
  have hMo : MM.all Value.oneCell' = true := by
    rw [hMM, List.all_eq_true]
    intro u hu
    simp only [List.mem_cons, List.mem_append, List.not_mem_nil, or_false] at hu
    rcases hu with rfl | rfl | hu | rfl
    · rfl
    · rfl
    · exact flat_one _ u hu
    · rfl
  rw [← hMM] at fs8
  refine ⟨MM, hMl, cells_block fs8, hlt fs8, ?_⟩
  refine store_box (v := .agg MM.toArray) (ttOk.get 58 _ rfl) fs8 (by show MM.length = 69; exact hMl) (by simpa using hMl) hMo ?_
  refine store_box (v := .int .i64 0) (ttOk.get 70 _ rfl) ((setRow_old hse).trans he8) (by rfl) rfl (by rfl) ?_
  refine leave_one (sgOk _) (by simp) rfl (by kernel_rfl) ?_
  refine CallsDIn.mono read1_ret ?_
  rintro e u' Y ⟨hv, rfl, rfl⟩
  refine ⟨hv, rfl, ?_⟩
  have fsY := (setRow_old (cs := (Value.int .i64 0).cells) hes).trans (setRow_new (cs' := (Value.agg MM.toArray).cells) fs8)
  have hY8 : ∀ k, k ≠ sb → k ≠ eb → ((V8.setRow sb (Value.agg MM.toArray).cells).setRow eb (Value.int .i64 0).cells).heap[k]? = V8.heap[k]? := fun k h1 h2 => (setRow_old h2).trans (setRow_old h1)
  refine ⟨MM, hMl, cells_block fsY, ?_⟩
  refine ⟨_, cells_at (cells_block (setRow_new ((setRow_old hse).trans he8))) (i := 0) rfl, ?_⟩
  have hfY : Fr [sb, eb] V8 ((V8.setRow sb (Value.agg MM.toArray).cells).setRow eb (Value.int .i64 0).cells) :=
    (Fr.setRow fs8 rfl).inl.trans (Fr.setRow ((setRow_old hse).trans he8) rfl).inr
  refine ⟨_, rfl, MM, 0, rfl, below_setRow (below_setRow hw8 (by omega) _) (by omega) _, ?_, fun h => absurd (hrd.symm.trans h) (by rw [hdec]; simp), fun _ => rfl⟩
  rw [hrd, hdec]
  have hDY := hD8.fr hfY (fun k hk => by simp at hk; omega)
  have hbkDY := hbkD8.fr hfY (by simp; omega)
  have hbkYY := hbkY8.fr hfY (by simp; omega)
  have hbkMY := hbkM8.fr hfY (by simp; omega)
  have hxl := (reps_g fmt_cor _ _ _ _ hxs).1
  refine ⟨⟨some ⟨bc, 0, none⟩, n, some ⟨ba, 0, none⟩, n, some ⟨bn, 0, none⟩, x.toNat, ?_, hDY.corsV hbkDY, ⟨ba, 0, .inr rfl, fun i hi => ?_⟩, ?_, fun h => by cases h⟩, hhl⟩
  · show MM = .slice _ xs.length n :: .slice _ ys.length n :: (hs.flatMap homE.enc ++ [.slice _ ms.length x.toNat])
    rw [hxl, hyl, hml]; exact hMM
  · have hi : i < ys.length := hi
    have hok := hyok ys[i] (List.getElem_mem hi)
    refine ⟨hlt hbkYY, ?_, hok.1, hok.2.1⟩
    have hall := cells_block (blk_nil.1 hbkYY)
    have := cac_get (fun c hc => ⟨(hyok c hc).1, (hyok c hc).2.1⟩) hi
    show Cells _ ⟨ba, 0 + i * 160, none⟩ (cacCells ys[i])
    rw [← this]
    exact cells_sub hall
  · by_cases h0 : ms = []
    · exact .inl h0
    · exact .inr ⟨bn, 0, rfl, hlt hbkMY, by have := cells_block (blk_nil.1 hbkMY); exact this⟩
end Go.Proofs.YtedeohcdcaimhaaGreatDoor
namespace Go.Proofs.YtedeohcdcaimhaaGreatDoor
open Go.Vc Go.RowKit Go.Sei

def geo1 : Geo := ⟨1, 1, 1, 1, 1⟩
def worldC : List Value := [.string ByteArray.empty, nilSl, nilSl, nilSl, u8 0, u8 0, u8 0, u8 0, u8 0, nilSl] ++ (geo1.enc ++ ([u8 1, u8 0, u8 0, .int .i64 0, .bool false] ++ (.string ByteArray.empty :: (List.replicate 188 [.int .u8 0, .int .u8 0, .int .u16 0]).flatten)))
theorem worldC_v : WorV worldC geo1.enc 1 := ⟨by kernel_rfl, by kernel_rfl, by kernel_rfl⟩
theorem worldC_one : worldC.all Value.oneCell' = true := by kernel_rfl
theorem world_c (w : World) : Calls Tryz.prog 9 #[.int .i64 1, u8 1] w fun e w' => ∃ wv : List Value, e = .returned (.agg wv.toArray) ∧ WorV wv geo1.enc 1 ∧ wv.all Value.oneCell' = true ∧ Below w.heap.size w w' := by
  refine calls_of_E (S := sg 10) (sgOk _) (args := [.int .i64 1, u8 1]) Tryz.func9 rfl rfl (Nat.le_of_ble_eq_true rfl) rfl ?_
  refine ⟨_, rfl, ?_⟩
  refine ⟨_, rfl, ?_⟩
  refine ⟨worldC, by kernel_rfl, ?_⟩
  refine store_new (X := w) (v := .agg worldC.toArray) (ttOk.get 44 _ rfl) (by kernel_rfl) (by kernel_rfl) worldC_one fun Y hbY fY sY => ?_
  refine ⟨worldC, worldC_v.len, cells_block fY, ?_⟩
  exact ⟨_, rfl, worldC_v, worldC_one, hbY⟩

def zeroCor : Cor := ⟨0, 0, 0, 0, 0, 0, 0, 0, 0, [], false, false⟩
def zeroLin : Lin := ⟨0, 0, 0, false, 0, 0, 0, 0⟩
def zeroNte : Nte := ⟨0, 0, 0, 0, 0, 0, 0⟩
def zeroCac : Cac := ⟨List.replicate 16 zeroLin, List.replicate 4 zeroNte, 0, 0, 0, 0⟩
def emp1 : Sy := ⟨[zeroCor], [zeroCac], List.replicate 6 zeroH, []⟩
theorem emp1_enc : encSy emp1 = List.replicate 280 0 := by kernel_rfl
theorem emp1_ok : okSy 1 emp1 := by
  refine ⟨rfl, rfl, rfl, by decide, fun c hc => ?_, fun c hc => ?_⟩
  · simp only [emp1, List.mem_singleton] at hc
    subst hc
    show (0 : Nat) ≤ 255
    decide
  · simp only [emp1, List.mem_singleton] at hc
    subst hc
    refine ⟨rfl, rfl, fun n hn => ?_⟩
    have := List.eq_of_mem_replicate hn
    subst this
    exact ⟨by decide, by decide⟩

theorem made_zrep {z : Value} (h : 0 < z.cells.size) (n : Nat) : (madeCells z.cells (n * z.cells.size)).toList = zrep z.cells.toList n := by
  have := zrep_eq z.cells.toList (by simpa using h) n
  unfold madeCells
  simpa using congrArg Array.toList this
theorem make_zero {P : Program} {w : World} {t T : TypeId} {iT : TI} {z : List Value} {kl kc : IntKind} (hu : P.underlying t = some (.slice T)) (hT : TIok P T iT) (hz : iT.zero = some z) (hzl : z.length = iT.size) (hp : 0 < iT.size) (n : Nat) (h1 : iT.bytes * n ≤ 281474976710656) (h63 : n ≤ 9223372036854775807) {K : Value → World → Prop}
    (k : ∀ w', w'.heap[w.heap.size]? = some (.cells (zrep z n).toArray T (0, 0)) → Below w.heap.size w w' → w'.heap.size = w.heap.size + 1 → K (.slice (some ⟨w.heap.size, 0, none⟩) n n) w') :
    SatR ((Instr.makeSlice t (.int kl (n : Int)) (.int kc (n : Int))).run P w) K := by
  obtain ⟨⟨inf, hi, hsz, hby, hzz⟩, _⟩ := hT
  obtain ⟨zv, hzv, hzc⟩ := hzz z hz
  have h63' : (n : Int) ≤ 9223372036854775807 := by omega
  have hb' : (inf.bytes : Int) * (n : Int) ≤ 281474976710656 := by
    have h : ((inf.bytes * n : Nat) : Int) ≤ 281474976710656 := by rw [hby]; omega
    rwa [Int.natCast_mul] at h
  have hr := run_make (P := P) w t T inf zv hu hi hzv kl kc n n (by omega) (Int.le_refl _) hb' h63'
  simp only [Int.toNat_natCast] at hr
  have hcs : zv.cells.size = inf.size := by rw [hsz, ← hzl, ← hzc]; simp
  have hm : madeCells zv.cells (n * inf.size) = (zrep z n).toArray := by
    have := made_zrep (z := zv) (by omega) n
    rw [hzc, hcs] at this
    rw [← this]
  rw [hm] at hr
  exact SatR.mk hr (k _ (hnew w _) ((Below.refl _ _).alloc (Nat.le_refl _) _) (by simp))

theorem emp1_sys {B : Nat} {V : World} {bc ba cc ca : Nat} (h1 : V.heap[bc]? = some (.cells (corCells zeroCor nilSl).toArray 66 (0, 0))) (h2 : V.heap[ba]? = some (.cells (cacCells zeroCac).toArray 97 (0, 0))) (hb : bc < B) (ha : ba < B) :
    SysV B V (.slice (some ⟨bc, 0, none⟩) 1 cc :: .slice (some ⟨ba, 0, none⟩) 1 ca :: (homs0 ++ [nilSl])) emp1 := by
  refine ⟨⟨some ⟨bc, 0, none⟩, cc, some ⟨ba, 0, none⟩, ca, none, 0, rfl, ⟨bc, 0, .inr rfl, fun i hi => ?_⟩, ⟨ba, 0, .inr rfl, fun i hi => ?_⟩, .inl rfl, fun _ => rfl⟩, rfl⟩
  · have : i = 0 := by simp only [emp1, List.length_singleton] at hi; omega
    subst this
    exact ⟨none, 0, hb, cells_block h1, .inl rfl⟩
  · have : i = 0 := by simp only [emp1, List.length_singleton] at hi; omega
    subst this
    exact ⟨ha, cells_block h2, rfl, rfl⟩

theorem empty_c (w : World) : Calls Tryz.prog 11 #[.int .i64 1] w fun e w' => ∃ vs : List Value, e = .returned (.agg vs.toArray) ∧ SysV w'.heap.size w' vs emp1 ∧ Below w.heap.size w w' := by
  refine calls_of_E (S := sg 8) (sgOk _) (args := [.int .i64 1]) Tryz.func11 rfl rfl (Nat.le_of_ble_eq_true rfl) rfl ?_
  obtain ⟨W0, hW0⟩ : ∃ W0, w.alloc (.cells zeroSysC.toArray 58) = W0 := ⟨_, rfl⟩
  have hb0 : Below w.heap.size w W0 := by rw [← hW0]; exact (Below.refl _ _).alloc (Nat.le_refl _) _
  have f0 : W0.heap[w.heap.size]? = some (.cells zeroSysC.toArray 58 (0, 0)) := by rw [← hW0]; exact hnew w _
  have hl := hlt f0
  have fin : ∀ (X : World) (bc ba : Nat), Below W0.heap.size W0 X → X.heap[bc]? = some (.cells (corCells zeroCor nilSl).toArray 66 (0, 0)) → X.heap[ba]? = some (.cells (cacCells zeroCac).toArray 97 (0, 0)) → w.heap.size < bc → w.heap.size < ba →
      SysV (X.setRow w.heap.size (Value.agg (Value.slice (some ⟨bc, 0, none⟩) 1 1 :: .slice (some ⟨ba, 0, none⟩) 1 1 :: (homs0 ++ [nilSl])).toArray).cells).heap.size (X.setRow w.heap.size (Value.agg (Value.slice (some ⟨bc, 0, none⟩) 1 1 :: .slice (some ⟨ba, 0, none⟩) 1 1 :: (homs0 ++ [nilSl])).toArray).cells) (.slice (some ⟨bc, 0, none⟩) 1 1 :: .slice (some ⟨ba, 0, none⟩) 1 1 :: (homs0 ++ [nilSl])) emp1 := fun X bc ba hX h1 h2 h3 h4 =>
    emp1_sys ((setRow_old (by omega)).trans h1) ((setRow_old (by omega)).trans h2) (by have := hlt h1; simpa using this) (by have := hlt h2; simpa using this)
  refine DrawE.tree [5] (.op 0 (.op 2 (.alt (.op 1 (.op 3 (.op 4 (.op 5 .nil)))) (.op 3 (.op 1 (.op 4 (.op 5 .nil))))))) (by kernel_rfl) ?_
  refine And.intro ?_ ?_
  · refine make_zero (P := Tryz.prog) (w := (w.alloc (.cells zeroSysC.toArray 58)).drew) (T := 66) Tryz.underlying45 (ttOk.get 66 _ rfl) rfl rfl (by decide) 1 (by decide) (by decide) ?_
    intro X1 g1 b1 s1
    refine ⟨b1, ?_⟩
    refine make_zero (T := 97) Tryz.underlying46 (ttOk.get 97 _ rfl) rfl (by kernel_rfl) (by decide) 1 (by decide) (by decide) ?_
    intro X2 g2 b2 s2
    refine ⟨b2, ?_⟩
    rw [hW0] at g1 b1 s1
    have hX2 : Below W0.heap.size W0 X2 := (Below.refl _ W0).drew.trans (b1.trans (b2.mono b1.size))
    refine ⟨Value.slice (some ⟨(w.alloc (.cells zeroSysC.toArray 58)).drew.heap.size, 0, none⟩) 1 1 :: .slice (some ⟨X1.heap.size, 0, none⟩) 1 1 :: (homs0 ++ [nilSl]), by kernel_rfl, ?_⟩
    refine store_box (v := .agg (Value.slice (some ⟨(w.alloc (.cells zeroSysC.toArray 58)).drew.heap.size, 0, none⟩) 1 1 :: .slice (some ⟨X1.heap.size, 0, none⟩) 1 1 :: (homs0 ++ [nilSl])).toArray) (ttOk.get 58 _ rfl) (block_below hX2 f0) (by rfl) (by rfl) (by rfl) ?_
    refine ⟨_, rfl, cells_block (setRow_new (block_below hX2 f0)), ?_⟩
    rw [hW0]
    have hs2 : W0.drew.heap.size = W0.heap.size := rfl
    exact ⟨_, rfl, fin X2 W0.drew.heap.size X1.heap.size hX2 (block_below b2 g1) g2 (by omega) (by omega), below_setRow (hb0.trans (hX2.mono hb0.size)) (Nat.le_refl _) _⟩
  · refine make_zero (P := Tryz.prog) (w := (w.alloc (.cells zeroSysC.toArray 58)).drew) (T := 97) Tryz.underlying46 (ttOk.get 97 _ rfl) rfl (by kernel_rfl) (by decide) 1 (by decide) (by decide) ?_
    intro X1 g1 b1 s1
    refine ⟨b1, ?_⟩
    refine make_zero (T := 66) Tryz.underlying45 (ttOk.get 66 _ rfl) rfl rfl (by decide) 1 (by decide) (by decide) ?_
    intro X2 g2 b2 s2
    refine ⟨b2, ?_⟩
    rw [hW0] at g1 b1 s1
    have hX2 : Below W0.heap.size W0 X2 := (Below.refl _ W0).drew.trans (b1.trans (b2.mono b1.size))
    refine ⟨Value.slice (some ⟨X1.heap.size, 0, none⟩) 1 1 :: .slice (some ⟨(w.alloc (.cells zeroSysC.toArray 58)).drew.heap.size, 0, none⟩) 1 1 :: (homs0 ++ [nilSl]), by kernel_rfl, ?_⟩
    refine store_box (v := .agg (Value.slice (some ⟨X1.heap.size, 0, none⟩) 1 1 :: .slice (some ⟨(w.alloc (.cells zeroSysC.toArray 58)).drew.heap.size, 0, none⟩) 1 1 :: (homs0 ++ [nilSl])).toArray) (ttOk.get 58 _ rfl) (block_below hX2 f0) (by rfl) (by rfl) (by rfl) ?_
    refine ⟨_, rfl, cells_block (setRow_new (block_below hX2 f0)), ?_⟩
    rw [hW0]
    have hs2 : W0.drew.heap.size = W0.heap.size := rfl
    exact ⟨_, rfl, fin X2 X1.heap.size W0.drew.heap.size hX2 g2 (block_below b2 g1) (by omega) (by omega), below_setRow (hb0.trans (hX2.mono hb0.size)) (Nat.le_refl _) _⟩

theorem great_c {vs : List Value} {s : Sy} {w : World} (hS : SysV w.heap.size w vs s) (hn : s.cores.length ≤ 9223372036854775807) :
    Calls Tryz.prog 4 #[.agg vs.toArray] w fun e w' => ∃ v : Bool, e = .returned (.bool v) ∧ Below w.heap.size w w' := by
  refine calls_of_E (S := sg 38) (sgOk _) (args := [.agg vs.toArray]) Tryz.func4 rfl rfl (Nat.le_of_ble_eq_true rfl) rfl ?_
  have hb0 : Below w.heap.size w (w.alloc (.cells vs.toArray 58)) := (Below.refl _ _).alloc (Nat.le_refl _) _
  have f0 := hnew w (.cells vs.toArray 58)
  obtain ⟨⟨p1, c1, p2, c2, p3, c3, hvs, hco, hca, hne, hnil⟩, h6⟩ := hS.below hb0
  have hH : (s.homes.flatMap homE.enc).length = 66 := by rw [flat_len, h6]; rfl
  have hcl : Cells (w.alloc (.cells vs.toArray 58)) ⟨w.heap.size, 0, none⟩ vs := cells_block f0
  obtain ⟨W0, hW0⟩ : ∃ W0, w.alloc (.cells vs.toArray 58) = W0 := ⟨_, rfl⟩
  have q0 := cells_at hcl (i := 0) (by rw [hvs]; rfl)
  refine ⟨_, cells_at hcl (i := 1) (by rw [hvs]; rfl), ?_⟩
  refine ⟨_, q0, ?_⟩
  refine ⟨_, rfl, ?_⟩
  refine ⟨_, cells_at hcl (i := 68) (by rw [hvs]; exact sys_net hH), ?_⟩
  refine ⟨_, rfl, ?_⟩
  refine ⟨Nat × Int, fun k => ⟨[(1, .pointer (some ⟨w.heap.size, 0, none⟩)), (3, .int .i64 k.2), (4, .int .i64 (k.1 : Nat))], []⟩, fun k V => k.1 ≤ s.cores.length ∧ W0 = V, fun k => s.cores.length - k.1, (0, _), ⟨.cons rfl (.cons rfl (.cons rfl .nil)), rfl⟩, ⟨Nat.zero_le _, hW0.symm⟩, ?_⟩
  rintro ⟨k, z⟩ _ ⟨hk, rfl⟩
  subst hW0
  refine ⟨_, q0, ?_⟩
  have done : ∃ v : Bool, Ending.returned (.bool (decide (400 < z))) = .returned (.bool v) ∧ Below w.heap.size w (w.alloc (.cells vs.toArray 58)) := ⟨_, rfl, hb0⟩
  refine And.intro (fun hc => ?_) (fun hc => ?_)
  · have hc : (k : Int) < s.cores.length := of_decide_eq_true hc
    have hks : k < s.cores.length := by omega
    refine And.intro (fun hz => ?_) (fun hz => ?_)
    · obtain ⟨b, o, hp, hat⟩ := hco
      obtain ⟨pb, cb, hbB, hcb, _⟩ := hat k hks
      rcases hp with hp | hp
      · omega
      subst hp
      refine ⟨_, q0, ?_⟩
      refine ⟨k, rfl, hks, ?_⟩
      refine ⟨_, cells_at hcb (i := 9) rfl, ?_⟩
      refine ⟨_, rfl, ?_⟩
      refine ⟨(k + 1 : Nat), (wrap_i64 (by omega)).trans (by omega), ?_⟩
      exact ⟨(k + 1, _), ⟨.cons rfl (.cons rfl (.cons rfl .nil)), rfl⟩, ⟨hks, rfl⟩, by dsimp only; omega⟩
    · exact done
  · refine And.intro (fun h => by cases h) (fun _ => ?_)
    exact done
end Go.Proofs.YtedeohcdcaimhaaGreatDoor
namespace Go.Proofs.YtedeohcdcaimhaaGreatDoor
open Go.Vc Go.RowKit Go.Sei

theorem geo1_ok : geoR geo1 = true := by decide
theorem emp1_fits : fitsB geo1 emp1 = true := ok_fits (g := geo1) emp1_ok geo1_ok
def z280 : List UInt8 := List.replicate 280 0
theorem z280_len : z280.length = 280 := List.length_replicate
theorem z280_get {k : Nat} (h : k < z280.length) : z280[k] = 0 := List.getElem_replicate _
theorem emp1_bytes : bytesL geo1 emp1 = z280 := by unfold bytesL; rw [emp1_fits, if_pos rfl, emp1_enc]; rfl
theorem emp1_read : readS geo1 z280 = some emp1 := by
  have e : z280 = encSy emp1 := emp1_enc.symm
  unfold readS
  rw [geo1_ok, if_pos rfl, e]
  exact dec_enc emp1_ok

theorem awake_c (w : World) (hB : BndM w) (hG : Glob w) : Calls Tryz.prog 5 #[] w fun e w' => e = .returned (.bool true) ∧ Below w.heap.size w w' := by
  refine calls_of_M (S := sg 57) (sgOk _) (args := []) (.s .p (.c .p (.c .p (.s .p (.c .p (.c .p .p)))))) Tryz.func5 rfl rfl (Nat.le_of_ble_eq_true rfl) rfl ?_
  refine ⟨Nat × List Value, fun s => ⟨[(1, .pointer (some ⟨s.1, 0, none⟩))], []⟩, fun s V => WorV s.2 geo1.enc 1 ∧ V.heap[s.1]? = some (.cells s.2.toArray 44 (0, 0)) ∧ Below w.heap.size w V, ?_, ?_⟩
  · refine Calls.mono (world_c w) ?_
    rintro e V ⟨wv, rfl, hW, hone, hb⟩
    refine store_new (X := V) (v := .agg wv.toArray) (ttOk.get 44 _ rfl) (by show wv.length = 585; exact hW.len) (by kernel_rfl) hone fun Y hbY fY sY => ?_
    exact ⟨(V.heap.size, wv), ⟨.cons rfl .nil, rfl⟩, hW, fY, hb.trans (hbY.mono hb.size)⟩
  rintro ⟨gw, wv⟩ V ⟨hW, fw, hbV⟩
  dsimp only at hW fw
  refine ⟨Option Addr × Nat, fun s => ⟨[(1, .pointer (some ⟨gw, 0, none⟩)), (2, .slice s.1 280 s.2)], []⟩, fun s X => X.heap[gw]? = some (.cells wv.toArray 44 (0, 0)) ∧ OwnS byteE 5 w.heap.size X s.1 s.2 z280 ∧ Below w.heap.size w X, ?_, ?_⟩
  · refine DrawE.ord [] [0, 1, 2, 3] (by kernel_rfl) ?_
    refine ⟨wv, hW.len, cells_block (hdr fw), hlt (hdr fw), ?_⟩
    refine Calls.mono (empty_c V.drew) ?_
    rintro e X ⟨vs, rfl, hS, hbX⟩
    refine ⟨hbX, ?_⟩
    have hwX : Below w.heap.size w X := hbV.trans ((Below.refl _ V).drew.trans hbX |>.mono hbV.size)
    refine Calls.mono (Bytes_s hW hS (hB.below hwX)) ?_
    rintro e Y ⟨p, cap, rfl, ho, hbY⟩
    refine ⟨hbY, ?_⟩
    rw [emp1_bytes] at ho
    have hlb : (bytesL geo1 emp1).length = 280 := by rw [emp1_bytes]; exact z280_len
    have hsv : some (Value.slice p (bytesL geo1 emp1).length cap) = some (Value.slice p 280 cap) := by rw [hlb]
    refine ⟨(p, cap), ⟨.cons rfl (.cons hsv .nil), rfl⟩, block_below hbY (block_below hbX (hdr fw)), own_weak ho hwX.size, hwX.trans (hbY.mono hwX.size)⟩
  clear hbV fw
  rintro ⟨p, cap⟩ V ⟨fw, ho, hbV⟩
  dsimp only at ho
  have hrow := ho.row
  refine ⟨Unit, fun _ => ⟨[(1, .pointer (some ⟨gw, 0, none⟩)), (2, .slice p 280 cap), (3, .int .i64 0)], []⟩, fun _ X => V = X, ?_, ?_⟩
  · refine ⟨Nat, fun k => ⟨[(1, .pointer (some ⟨gw, 0, none⟩)), (2, .slice p 280 cap), (3, .int .i64 0), (4, .int .i64 (k : Nat))], []⟩, fun k X => k ≤ 280 ∧ V = X, fun k => 280 - k, 0, ⟨.cons rfl (.cons rfl (.cons rfl (.cons rfl .nil))), rfl⟩, ⟨Nat.zero_le _, rfl⟩, ?_⟩
    rintro k _ ⟨hk, rfl⟩
    refine And.intro (fun h => ?_) (fun h => ?_)
    · have h : (k : Int) < ((280 : Nat) : Int) := of_decide_eq_true h
      have hk2 : k < z280.length := by rw [z280_len]; omega
      obtain ⟨b, o, rfl, hb, hc⟩ := byte_at hrow hk2
      refine ⟨k, rfl, by omega, ?_⟩
      rw [z280_get hk2] at hc
      refine ⟨_, hc, ?_⟩
      refine ⟨0, rfl, ?_⟩
      refine ⟨0, rfl, ?_⟩
      refine ⟨(k + 1 : Nat), (wrap_i64 (by omega)).trans (by omega), ?_⟩
      exact ⟨k + 1, ⟨.cons rfl (.cons rfl (.cons rfl (.cons rfl .nil))), rfl⟩, ⟨by omega, rfl⟩, by dsimp only; omega⟩
    · exact ⟨(), ⟨.cons rfl (.cons rfl (.cons rfl .nil)), rfl⟩, rfl⟩
  rintro _ _ rfl
  refine ⟨Nat × List Value, fun s => ⟨[(1, .pointer (some ⟨gw, 0, none⟩)), (2, .slice p 280 cap), (3, .int .i64 0), (5, .pointer (some ⟨s.1, 0, none⟩)), (6, .int .i64 0)], []⟩, fun s X => X.heap[gw]? = some (.cells wv.toArray 44 (0, 0)) ∧ X.heap[s.1]? = some (.cells s.2.toArray 58 (0, 0)) ∧ SysV X.heap.size X s.2 emp1 ∧ Below w.heap.size w X, ?_, ?_⟩
  · refine ⟨wv, hW.len, cells_block fw, hlt fw, ?_⟩
    have hcap : 280 ≤ cap := by
      rcases ho.inv with ⟨_, _, h⟩ | ⟨_, _, _, _, _, h, _⟩
      · have := congrArg List.length h
        rw [z280_len] at this
        cases this
      · rwa [z280_len] at h
    have hrd := Read_s (bytes := z280) (p := p) (cap := cap) (w := V) hW (hB.below hbV) (RowB.of_slr hrow) (by rw [z280_len]; exact hcap) (by rw [z280_len]; decide)
    rw [z280_len] at hrd
    refine Calls.mono hrd ?_
    rintro e X ⟨v, rfl, vs, en, rfl, hbX, hS, _, hen⟩
    have hen : en = 0 := hen (by rw [emp1_read]; simp)
    subst hen
    rw [emp1_read] at hS
    have hS : SysV X.heap.size X vs emp1 := hS
    refine store_new (X := X) (v := .agg vs.toArray) (ttOk.get 58 _ rfl) (by show vs.length = 69; exact hS.len) (by rfl) hS.one fun Y hbY fY sY => ?_
    have hbVY : Below V.heap.size V Y := hbX.trans (hbY.mono hbX.size)
    exact ⟨(X.heap.size, vs), ⟨.cons rfl (.cons rfl (.cons rfl (.cons rfl (.cons rfl .nil)))), rfl⟩, block_below hbVY fw, fY, (hS.below hbY).mono hbY.size, hbV.trans (hbVY.mono hbV.size)⟩
  clear hbV fw hrow ho
  rintro ⟨gs, vs⟩ V ⟨fw, fs, hS, hbV⟩
  dsimp only at fs hS
  have hvl := hS.len
  refine DrawE.ord [] [0, 1, 2, 3, 4, 5, 6, 7, 8, 9, 10, 11, 12, 13, 14, 15, 16, 17, 18, 19, 20, 21, 22, 23, 24, 25, 26, 27] (by kernel_rfl) ?_
  refine And.intro (fun _ => ?_) (fun h => absurd h (by decide))
  refine And.intro (fun _ => ?_) (fun h => absurd h (by decide))
  refine And.intro (fun _ => ?_) (fun h => absurd h (by decide))
  refine ⟨vs, hvl, cells_block (hdr fs), hlt (hdr fs), ?_⟩
  refine Calls.mono (empty_c V.drew) ?_
  rintro e X ⟨ve, rfl, hSe, hbX⟩
  refine ⟨hbX, ?_⟩
  have hVX : Below V.heap.size V X := (Below.refl _ V).drew.trans hbX
  have hwX := hbV.trans (hVX.mono hbV.size)
  refine Calls.mono (SameSys_c ((hS.below hVX).mono hVX.size) hSe (by decide) (by decide) (by decide) (fun c hc => by simp only [emp1, List.mem_singleton] at hc; subst hc; decide)) ?_
  rintro e Y ⟨rfl, hbY⟩
  refine ⟨hbY, ?_⟩
  have hVY := hVX.trans (hbY.mono hVX.size)
  have hwY := hwX.trans (hbY.mono hwX.size)
  refine And.intro (fun _ => ?_) (fun h => absurd h (by simp))
  refine ⟨wv, hW.len, cells_block (block_below hVY fw), hlt (block_below hVY fw), ?_⟩
  refine ⟨vs, hvl, cells_block (block_below hVY fs), hlt (block_below hVY fs), ?_⟩
  refine Calls.mono (Fits_c hW ((hS.below hVY).mono hVY.size) (hB.below hwY)) ?_
  rintro e Z ⟨rfl, hbZ⟩
  refine ⟨hbZ, ?_⟩
  have hVZ := hVY.trans (hbZ.mono hVY.size)
  have hwZ := hwY.trans (hbZ.mono hwY.size)
  refine And.intro (fun _ => ?_) (fun h => absurd (emp1_fits.symm.trans h) (by simp))
  refine ⟨wv, hW.len, cells_block (block_below hVZ fw), hlt (block_below hVZ fw), ?_⟩
  refine ⟨vs, hvl, cells_block (block_below hVZ fs), hlt (block_below hVZ fs), ?_⟩
  refine ⟨vs, hvl, cells_block (block_below hVZ fs), hlt (block_below hVZ fs), ?_⟩
  refine Calls.mono (Same_s hW ((hS.below hVZ).mono hVZ.size) ((hS.below hVZ).mono hVZ.size) (hB.below hwZ) (hG.below hwZ)) ?_
  rintro e Z2 ⟨v, rfl, hv, hbZ2⟩
  refine ⟨hbZ2, ?_⟩
  have : v = true := hv.2 ⟨emp1_fits, emp1_fits, rfl, fun _ => EqM.refl _ _, fun _ => rfl⟩
  subst this
  exact ⟨rfl, hwZ.trans (hbZ2.mono hwZ.size)⟩
end Go.Proofs.YtedeohcdcaimhaaGreatDoor
namespace Go.Proofs.YtedeohcdcaimhaaGreatDoor
open Go.Vc Go.RowKit Go.Sei
open Go.ChangeShapes Go.WideShapes Go.ChangeAt
set_option linter.unusedVariables false

section
variable {H : Type} {enc : TypeId × Value → H} {P : Program} {w : World} {base : Nat} {spare : Nat → Bool} {held : Bool} {fuel : Nat} {t : TypeId} {cs : List Value} {x : DataW H × List MemPlace}

theorem open_u8 (ht : P.underlying t = some (.int .u8)) (h : DataW.trod enc P w base spare held fuel t cs = some x) : ∃ b : UInt8, cs = [u8 b] ∧ x.1 = .lit (.int .u8 b.toNat) := by
  obtain ⟨n, rfl, rfl, hw⟩ := DataW.trod_int ht h
  have hb := bounds_u8 hw
  have e : ((UInt8.ofNat n.toNat).toNat : Int) = n := by
    rw [UInt8.toNat_ofNat']; omega
  exact ⟨UInt8.ofNat n.toNat, by rw [u8, e], by rw [e]⟩

theorem open_u8s {n : Nat} {e : TypeId} (ht : P.underlying t = some (.array n e)) (he : P.underlying e = some (.int .u8)) (hc : P.cellsOf e = 1) (hn : P.cellsOf t = n)
    (h : DataW.trod enc P w base spare held fuel t cs = some x) : ∃ bs : List UInt8, bs.length = n ∧ cs = bs.map u8 ∧ x.1 = .agg (bs.map fun b => .lit (.int .u8 b.toNat)) := by
  obtain ⟨xs, m, rfl, rfl, hl, hx, hel⟩ := DataW.trod_array ht h
  rw [hn] at hl
  have each : ∀ i (h : i < n), ∃ b : UInt8, cs[i]? = some (u8 b) ∧ xs[i]?.map (·.1) = some (.lit (.int .u8 b.toNat)) := fun i hi => by
    have h1 := hel i hi
    rw [hc, List.getElem?_eq_getElem (by omega)] at h1
    obtain ⟨b, h2, h3⟩ := open_u8 he h1
    refine ⟨b, ?_, by rw [List.getElem?_eq_getElem (by omega), Option.map_some, h3]⟩
    have : ((cs.drop (i * 1)).take 1)[0]? = some (u8 b) := by rw [h2]; rfl
    simpa using this
  have : ∀ k, k ≤ n → ∃ bs : List UInt8, bs.length = k ∧ cs.take k = bs.map u8 ∧ (xs.take k).map (·.1) = bs.map fun b => .lit (.int .u8 b.toNat) := by
    intro k
    induction k with
    | zero => exact fun _ => ⟨[], rfl, by simp, by simp⟩
    | succ k ih =>
      intro hk
      obtain ⟨bs, h1, h2, h3⟩ := ih (by omega)
      obtain ⟨b, h4, h5⟩ := each k (by omega)
      have hk1 : k < cs.length := by omega
      have hk2 : k < xs.length := by omega
      rw [List.getElem?_eq_getElem hk1] at h4
      rw [List.getElem?_eq_getElem hk2] at h5
      refine ⟨bs ++ [b], by simp [h1], ?_, ?_⟩
      · rw [List.take_succ_eq_append_getElem hk1, h2, Option.some.inj h4]; simp
      · rw [List.take_succ_eq_append_getElem hk2, List.map_append, h3]
        simp at h5
        simp [h5]
  obtain ⟨bs, h1, h2, h3⟩ := this n (Nat.le_refl _)
  rw [List.take_of_length_le (by omega)] at h2 h3
  exact ⟨bs, h1, h2, by rw [← h3]⟩

end
theorem cells5 : Tryz.prog.cellsOf 5 = 1 := by kernel_rfl
theorem cells4 : Tryz.prog.cellsOf 4 = 1 := by kernel_rfl
theorem cells28 : Tryz.prog.cellsOf 52 = 4 := by kernel_rfl
theorem cells30 : Tryz.prog.cellsOf 107 = 11 := by kernel_rfl
section
variable {H : Type} {enc : TypeId × Value → H} {w : World} {base : Nat} {spare : Nat → Bool} {held : Bool} {fuel : Nat} {cs : List Value} {x : DataW H × List MemPlace}

set_option maxRecDepth 100000 in
theorem open_msg (h : DataW.trod enc Tryz.prog w base spare held fuel 107 cs = some x) : ∃ m : Msg, cs = m.enc := by
  obtain ⟨xs, n, rfl, rfl, hl, hx, hel⟩ := DataW.trod_struct Tryz.underlying107 h
  rw [cells30] at hl
  have hx : xs.length = 8 := hx
  have e0 : DataW.trod enc Tryz.prog w base spare held n 5 ((cs.drop 0).take (Tryz.prog.cellsOf 5)) = xs[0]? := hel 0 _ rfl
  have e1 : DataW.trod enc Tryz.prog w base spare held n 5 ((cs.drop 1).take (Tryz.prog.cellsOf 5)) = xs[1]? := hel 1 _ rfl
  have e2 : DataW.trod enc Tryz.prog w base spare held n 5 ((cs.drop 2).take (Tryz.prog.cellsOf 5)) = xs[2]? := hel 2 _ rfl
  have e3 : DataW.trod enc Tryz.prog w base spare held n 5 ((cs.drop 3).take (Tryz.prog.cellsOf 5)) = xs[3]? := hel 3 _ rfl
  have e4 : DataW.trod enc Tryz.prog w base spare held n 5 ((cs.drop 4).take (Tryz.prog.cellsOf 5)) = xs[4]? := hel 4 _ rfl
  have e5 : DataW.trod enc Tryz.prog w base spare held n 5 ((cs.drop 5).take (Tryz.prog.cellsOf 5)) = xs[5]? := hel 5 _ rfl
  have e6 : DataW.trod enc Tryz.prog w base spare held n 4 ((cs.drop 6).take (Tryz.prog.cellsOf 4)) = xs[6]? := hel 6 _ rfl
  have e7 : DataW.trod enc Tryz.prog w base spare held n 52 ((cs.drop 7).take (Tryz.prog.cellsOf 52)) = xs[7]? := hel 7 _ rfl
  rw [List.getElem?_eq_getElem (by omega)] at e0 e1 e2 e3 e4 e5 e6 e7
  rw [cells5] at e0 e1 e2 e3 e4 e5
  rw [cells4] at e6
  rw [cells28] at e7
  obtain ⟨b0, e0, _⟩ := open_u8 Tryz.underlying5 e0
  obtain ⟨b1, e1, _⟩ := open_u8 Tryz.underlying5 e1
  obtain ⟨b2, e2, _⟩ := open_u8 Tryz.underlying5 e2
  obtain ⟨b3, e3, _⟩ := open_u8 Tryz.underlying5 e3
  obtain ⟨b4, e4, _⟩ := open_u8 Tryz.underlying5 e4
  obtain ⟨b5, e5, _⟩ := open_u8 Tryz.underlying5 e5
  obtain ⟨b6, e6, _⟩ := DataW.trod_bool Tryz.underlying4 e6
  obtain ⟨bs, h7, e7, _⟩ := open_u8s Tryz.underlying52 Tryz.underlying5 cells5 cells28 e7
  match cs, hl with
  | [c0, c1, c2, c3, c4, c5, c6, c7, c8, c9, c10], _ =>
    match bs, h7 with
    | [d0, d1, d2, d3], _ =>
      simp at e0 e1 e2 e3 e4 e5 e6 e7
      obtain ⟨rfl, rfl, rfl, rfl⟩ := e7
      subst e0 e1 e2 e3 e4 e5 e6
      exact ⟨⟨b0, b1, b2, b3, b4, b5, b6, d0, d1, d2, d3⟩, rfl⟩

theorem open_msgv {a : Array Value} {d : DataW H} {p : List MemPlace} (h : DataW.Trod enc Tryz.prog w base spare held 107 (.agg a) d p) : ∃ m : Msg, Value.agg a = m.val := by
  obtain ⟨fuel, h⟩ := h
  obtain ⟨m, hm⟩ := open_msg h
  have : a.toList = m.enc := hm
  exact ⟨m, by unfold Msg.val; rw [← this]⟩
theorem add_none (b o i : Nat) : (⟨b, o, none⟩ : Addr).add i = ⟨b, o + i, none⟩ := by
  unfold Addr.add
  by_cases h : i = 0
  · simp [h]
  · simp [h]

theorem cells_of_run {a : Addr} {n : Nat} (hn : 0 < n) (h : w.cells? base a n = some cs) : a.spot = none ∧ a.block < w.heap.size ∧ Cells w ⟨a.block, a.off, none⟩ cs := by
  obtain ⟨_, hl, hc⟩ := World.cells?_some h
  have h0 := hc 0 hn
  rw [List.getElem?_eq_getElem (by omega)] at h0
  have hs : a.spot = none := by simpa [Addr.add] using World.cell?_spot h0
  obtain ⟨b, o, s⟩ := a
  dsimp only at hs
  subst hs
  refine ⟨rfl, World.block_lt_of_cell? _ _ h0, cells_mk fun i v hv => ?_⟩
  have hi : i < n := by have := (List.getElem?_eq_some_iff.1 hv).1; omega
  have := (hc i hi).trans hv
  rw [add_none] at this
  exact this

theorem open_bytes {v : Value} {p : List MemPlace} {d : DataW H} {a0 : Option Addr} {len0 cap0 : Nat} (hv : v = .slice a0 len0 cap0)
    (h : DataW.Trod enc Tryz.prog w base spare held 23 v d p) : ∃ l : List UInt8, l.length = len0 ∧ SlR byteE w a0 l := by
  subst hv
  obtain ⟨fuel, h⟩ := h
  rcases DataW.trod_slice Tryz.underlying23 h with ⟨hcs, _⟩ | ⟨a, len, cap, elems, rest, n, _, hcs, _, _, _, _, hlen, hel, _, _⟩
  · simp [Value.cells] at hcs
    obtain ⟨rfl, rfl, rfl⟩ := hcs
    exact ⟨[], rfl, .nil⟩
  · simp [Value.cells] at hcs
    obtain ⟨rfl, rfl, rfl⟩ := hcs
    have each : ∀ i, i < len0 → ∃ m : UInt8, (a.add (i * 1)).spot = none ∧ (a.add (i * 1)).block < w.heap.size ∧ Cells w ⟨(a.add (i * 1)).block, (a.add (i * 1)).off, none⟩ (byteE.enc m) := fun i hi => by
      have h1 := hel i hi
      rw [cells5, List.getElem?_eq_getElem (by omega), Option.bind_eq_some_iff] at h1
      obtain ⟨cs, h2, h3⟩ := h1
      obtain ⟨m, rfl, _⟩ := open_u8 Tryz.underlying5 h3
      exact ⟨m, cells_of_run (by decide) h2⟩
    by_cases h00 : len0 = 0
    · exact ⟨[], h00.symm, .nil⟩
    have hsp : a.spot = none := by
      obtain ⟨m, h3, _⟩ := each 0 (by omega)
      simpa [Addr.add] using h3
    obtain ⟨b, o, s⟩ := a
    dsimp only at hsp
    subst hsp
    have each : ∀ i, i < len0 → ∃ m : UInt8, b < w.heap.size ∧ Cells w ⟨b, o + i * 1, none⟩ (byteE.enc m) := fun i hi => by
      obtain ⟨m, _, h4, h5⟩ := each i hi
      rw [add_none] at h4 h5
      exact ⟨m, h4, h5⟩
    have all : ∀ k, k ≤ len0 → ∃ l : List UInt8, l.length = k ∧ ∀ i (h : i < l.length), Cells w ⟨b, o + i * 1, none⟩ (byteE.enc l[i]) := by
      intro k
      induction k with
      | zero => exact fun _ => ⟨[], rfl, fun i h => absurd h (by simp)⟩
      | succ k ih =>
        intro hk
        obtain ⟨l, h1, h2⟩ := ih (by omega)
        obtain ⟨m, _, h3⟩ := each k (by omega)
        refine ⟨l ++ [m], by simp [h1], fun i hi => ?_⟩
        by_cases hik : i < l.length
        · rw [List.getElem_append_left hik]; exact h2 i hik
        · have : i = k := by simp [h1] at hi; omega
          subst this
          rw [List.getElem_append_right (by omega)]
          simpa [h1] using h3
    obtain ⟨l, h1, h2⟩ := all len0 (Nat.le_refl _)
    refine ⟨l, h1, ?_⟩
    obtain ⟨m, h4, _⟩ := each 0 (by omega)
    exact .inr ⟨b, o, rfl, h4, h2⟩
end

theorem ok_slice {P : Program} {w : World} {r : Reach} {base : Nat} {t e : TypeId} {v : Value} (ht : P.underlying t = some (.slice e)) (h : Value.okWide P w r base t v) :
    ∃ a len cap, v = .slice a len cap ∧ len ≤ cap ∧ (a = none → cap = 0) := by
  simp only [Value.okWide, ht, Cell.okWide] at h
  cases v with
  | slice a len cap =>
    cases a with
    | none =>
      refine ⟨none, len, cap, rfl, ?_⟩
      unfold Cell.ok at h
      rw [ht] at h
      split at h <;> simp_all
    | some a =>
      refine ⟨some a, len, cap, rfl, ?_, fun h => by cases h⟩
      unfold Cell.ok at h
      rw [ht] at h
      split at h <;> simp_all
  | _ => simp_all [Cell.ok]

variable {H : Type} {enc : TypeId × Value → H} {w : World} {base : Nat} {spare : Nat → Bool} {held : Bool} {d : DataW H} {p : List MemPlace}

theorem returns_and_shaped {H : Type} {enc : TypeId × Value → H} {a : Assume} {C : Checked} {os : Os} {f : FuncId} {fn : Func} {s : ChangeSpec} {conds : List PathCond} {apart fresh handsOn again : Bool} {X : World → Array Value → Prop}
    (hX : ∀ (w w' : World) (args : Array Value), w.heap = w'.heap → X w args → X w' args)
    (own : ownKnob C.prog.godebug = none) (started : os.Started) (noInit : C.prog.inits.idxOf? f = none) (hfn : C.prog.funcs[f]? = some fn)
    (witness : ∃ (w : World) (tape : Tape) (i : Input), w.os = os ∧ (w.forCall tape i).Shaped C.prog ∧ i.vars = [] ∧ Input.okWide C.prog (w.forCall tape i) .any w.heap.size f i ∧
      ((s.pre enc C.prog fn conds apart (w.forCall tape i).memory i.args ∧ X (w.forCall tape i).memory i.args) ∧ sizedMet enc C.prog fn (OpenSpec.ofChange s) apart (w.forCall tape i).memory i.args) ∧ a.holds C.prog (lone (Frame.enter C.prog f i.args .normal) [] (w.forCall tape i)))
    (contract : ∀ (W : World) (base : Nat) (args : Array Value) (ds gs : List (DataW H)) (before : List MemPlace),
      (∀ (j : Nat) t v, fn.params[j]? = some t → args[j]? = some v → Value.okWide C.prog W .any base t v) →
      DataW.Whole enc C.prog fn.params.toList s.vars apart W args.toList ds gs before → X W args → W.ShapedOpen C.prog →
      Calls C.prog f args W fun e W' => ∃ v, e = .returned v ∧ s.post enc C.prog fn apart fresh handsOn again W args v W') :
    ReturnsInHanded a C os f .any (fun w args => (s.pre enc C.prog fn conds apart w args ∧ X w args) ∧ sizedMet enc C.prog fn (OpenSpec.ofChange s) apart w args) (s.post enc C.prog fn apart fresh handsOn again) := by
  refine returnsInHanded_of_calls own started noInit witness ?_
  intro w tape i _ hsh _ hok hpre hholds
  obtain ⟨_, _, _, fn', hfn', _, _, _, _, hval⟩ := hok
  have e : fn' = fn := Option.some.inj (hfn'.symm.trans hfn)
  subst e
  obtain ⟨⟨⟨ds, gs, before, hw, hc⟩, hx⟩, hz⟩ := hpre
  have hw' := DataW.Whole.of_heap (w' := w.forCall tape i) (by rfl) hw
  refine (contract (w.forCall tape i) w.heap.size i.args ds gs before hval hw' (hX _ _ _ (by rfl) hx) hsh).mono fun e W' ⟨v, he, hp⟩ => ?_
  subst he
  exact ChangeSpec.post_blind hp

theorem seat_own : ownKnob Tryz.prog.godebug = none := by kernel_rfl
theorem seat_laidOut : laidOutB Tryz.prog = true := by kernel_rfl
end Go.Proofs.YtedeohcdcaimhaaGreatDoor
