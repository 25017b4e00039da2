/- Bytes: their comparison, their rows. Rows that lie below a bound. Law22: a system in memory. Plain: the cells of a system: small facts. Maps that a call makes: keys of a data type κ. Ranges over functions: what an iterator owes; the law for a loop over it. Messages compared. Contracts: SameMsgs, slices.Equal, Send, Pick, Count at messages. Plain: tokens of a source. Strings as bytes. The engine, part J: joins: code of which some sequences are cut at a state of their own. geo: Right. Contracts: classes of bytes; where the scanner is. Contracts: the scanner's positions. Contracts: the scanner passes blanks and remarks; a token. Contracts: numbers; the fault of a token. Ranges over functions whose iterator has a state of its own in memory. Contracts: the next token. Contracts: the iterator over tokens. One element as a literal slice. The engine, part K: a quick check of a tree of orders: an operation that stands apart from all that is left is taken first. Contracts: Lex; is it a word. Contracts: Lex; is it a word. Plain: programs as data, and which are valid. Law23: a program in memory. -/
import Derived.Test.YthgmcegmgjoafaaGreatDoorY1
import Derived.Test.YthgmcegmgjoafaaGreatDoorYKSig
import GoSem.Instr.MapEntry
import Derived.ChangeKeysEq
import Derived.RangeFuncIn
import Derived.RangeFuncNested
import Derived.Laws.StructEq
import Derived.Laws.BytesArg
import Derived.Laws.Strings
set_option linter.unusedSimpArgs false
set_option linter.unusedVariables false
namespace Go.Proofs.YthgmcegmgjoafaaGreatDoor
open Go.Vc Go.RowKit Go.Sei
def cmp8 (x y : UInt8) : Int := if x.toNat < y.toNat then -1 else if y.toNat < x.toNat then 1 else 0
def cmpL : List UInt8 → List UInt8 → Int
  | [], [] => 0
  | [], _ :: _ => -1
  | _ :: _, [] => 1
  | x :: r, y :: s => if x = y then cmpL r s else cmp8 x y
def byteE : Enc UInt8 := ⟨fun b => [u8 b], 1, fun _ => rfl, by decide, fun a u hu => by
  simp only [List.mem_cons, List.not_mem_nil, or_false] at hu; subst hu; rfl⟩
theorem byte_at {w : World} {p : Option Addr} {l : List UInt8} (h : SlR byteE w p l) {k : Nat} (hk : k < l.length) : ∃ b o, p = some ⟨b, o, none⟩ ∧ b < w.heap.size ∧ w.cell? ⟨b, o + k * 1, none⟩ = some (u8 l[k]) := by
  obtain ⟨b, o, rfl, hb, hc⟩ := h.at hk
  exact ⟨b, o, rfl, hb, cells_head (hc k hk)⟩
theorem cmpL_drop : ∀ (l1 l2 : List UInt8) (k : Nat), k ≤ l1.length → k ≤ l2.length → l1.take k = l2.take k → cmpL l1 l2 = cmpL (l1.drop k) (l2.drop k)
  | l1, l2, 0, _, _, _ => by simp
  | [], _, k + 1, h, _, _ => by simp at h
  | _ :: _, [], k + 1, _, h, _ => by simp at h
  | x :: r, y :: s, k + 1, h1, h2, h3 => by
    simp at h1 h2 h3
    rw [cmpL, if_pos h3.1, List.drop_succ_cons, List.drop_succ_cons]
    exact cmpL_drop r s k h1 h2 h3.2
theorem cmp8_ne {x y : UInt8} (h : x ≠ y) : cmp8 x y ≠ 0 := by
  have : x.toNat ≠ y.toNat := fun e => h (UInt8.toNat_inj.1 e)
  unfold cmp8; split
  · decide
  · split
    · decide
    · omega
theorem cmp8_self (x : UInt8) : cmp8 x x = 0 := by simp [cmp8]
theorem bytes_row {w : World} {g : Nat} {l : List UInt8} {t : TypeId} {fr : Nat × Nat} (h : w.heap[g]? = some (.cells (l.map u8).toArray t fr)) : SlR byteE w (some ⟨g, 0, none⟩) l := by
  refine SlR.of_cells (hlt h) ?_
  have e : l.flatMap byteE.enc = l.map u8 := by clear h; induction l with | nil => rfl | cons a r ih => rw [List.flatMap_cons, ih]; rfl
  rw [e]
  exact cells_block h
end Go.Proofs.YthgmcegmgjoafaaGreatDoor
namespace Go.Vc
open Go.RowKit
theorem brT {P Q : Prop} (h : P) : (true = true → P) ∧ (true = false → Q) := ⟨fun _ => h, fun h => nomatch h⟩
theorem brF {P Q : Prop} (h : Q) : (false = true → P) ∧ (false = false → Q) := ⟨fun h => (nomatch h), fun _ => h⟩
theorem brE {b : Bool} {P Q : Prop} (e : b = true) (h : P) : (b = true → P) ∧ (b = false → Q) := ⟨fun _ => h, fun h => nomatch e.symm.trans h⟩
theorem brN {b : Bool} {P Q : Prop} (e : b = false) (h : Q) : (b = true → P) ∧ (b = false → Q) := ⟨fun h => (nomatch e.symm.trans h), fun _ => h⟩
theorem cells_same {w w2 : World} {b o : Nat} {vs : List Value} (hs : w2.heap[b]? = w.heap[b]?) (h : Cells w ⟨b, o, none⟩ vs) : Cells w2 ⟨b, o, none⟩ vs := by
  refine cells_mk fun i v hv => ?_
  have := cells_at h hv
  rw [← this]
  unfold World.cell?
  simp only [hs]
theorem cells_belowB {B : Nat} {w w2 : World} {b o : Nat} {vs : List Value} (hb : Below B w w2) (hlt : b < B) (h : Cells w ⟨b, o, none⟩ vs) : Cells w2 ⟨b, o, none⟩ vs :=
  cells_same (hb.block b hlt) h
theorem cells_app {w : World} {b o : Nat} {u v : List Value} : Cells w ⟨b, o, none⟩ (u ++ v) ↔ Cells w ⟨b, o, none⟩ u ∧ Cells w ⟨b, o + u.length, none⟩ v := by
  constructor
  · intro h
    refine ⟨cells_mk fun i x hx => cells_at h ?_, cells_mk fun i x hx => ?_⟩
    · rw [List.getElem?_append_left (List.getElem?_eq_some_iff.1 hx).1]; exact hx
    · have := cells_at h (i := u.length + i) (v := x) (by rw [List.getElem?_append_right (by omega)]; simpa using hx)
      rwa [← Nat.add_assoc] at this
  · rintro ⟨h1, h2⟩
    refine cells_mk fun i x hx => ?_
    by_cases hi : i < u.length
    · rw [List.getElem?_append_left hi] at hx; exact cells_at h1 hx
    · rw [List.getElem?_append_right (by omega)] at hx
      have := cells_at h2 hx
      rwa [show o + u.length + (i - u.length) = o + i by omega] at this
def RowB {α : Type} (E : Enc α) (B : Nat) (w : World) (p : Option Addr) (l : List α) : Prop :=
  l = [] ∨ ∃ b o, p = some ⟨b, o, none⟩ ∧ b < B ∧ Cells w ⟨b, o, none⟩ (l.flatMap E.enc)
section
variable {α : Type} {E : Enc α} {B : Nat} {w w2 : World} {p : Option Addr} {l : List α}
theorem RowB.below (h : RowB E B w p l) (hb : Below B w w2) : RowB E B w2 p l := by
  rcases h with h | ⟨b, o, hp, hlt, hc⟩
  · exact .inl h
  · exact .inr ⟨b, o, hp, hlt, cells_belowB hb hlt hc⟩
theorem RowB.mono {B' : Nat} (h : RowB E B w p l) (hB : B ≤ B') : RowB E B' w p l := by
  rcases h with h | ⟨b, o, hp, hlt, hc⟩
  · exact .inl h
  · exact .inr ⟨b, o, hp, by omega, hc⟩
theorem RowB.slr (h : RowB E B w p l) (hB : B ≤ w.heap.size) : SlR E w p l := by
  rcases h with rfl | ⟨b, o, rfl, hlt, hc⟩
  · exact .nil
  · exact SlR.of_cells (by omega) hc
theorem RowB.of_slr (h : SlR E w p l) : RowB E w.heap.size w p l := by
  by_cases h0 : l = []
  · exact .inl h0
  · rcases h with h | ⟨b, o, rfl, hlt, hc⟩
    · exact absurd h h0
    · exact .inr ⟨b, o, rfl, hlt, SlR.cells (.inr ⟨b, o, rfl, hlt, hc⟩)⟩
theorem RowB.get (h : RowB E B w p l) : ∃ b o, (l.length = 0 ∨ p = some ⟨b, o, none⟩) ∧ ∀ i (hi : i < l.length), b < B ∧ Cells w ⟨b, o + i * E.sz, none⟩ (E.enc l[i]) := by
  rcases h with rfl | ⟨b, o, rfl, hlt, hc⟩
  · exact ⟨0, 0, .inl rfl, fun i hi => by simp at hi⟩
  · exact ⟨b, o, .inr rfl, fun i hi => ⟨hlt, by rw [← flat_get l i hi]; exact cells_sub hc⟩⟩
end
end Go.Vc
namespace Go.Proofs.YthgmcegmgjoafaaGreatDoor
open Go.Vc Go.RowKit Go.Sei
def s8 (x : UInt8) : Int := if x.toNat < 128 then x.toNat else (x.toNat : Int) - 256
def leM (h : Hom) : Nat := h.m0.toNat + h.m1.toNat * 256 + h.m2.toNat * 65536 + h.m3.toNat * 16777216 + h.m4.toNat * 4294967296 + h.m5.toNat * 1099511627776 + h.m6.toNat * 281474976710656 + h.m7.toNat * 72057594037927936
def i64v (n : Int) : Value := .int .i64 n
def stoE : Enc Sto := ⟨fun s => [u8 s.l, u8 s.v], 2, fun _ => rfl, by decide, fun a u hu => by
  simp only [List.mem_cons, List.not_mem_nil, or_false] at hu; rcases hu with rfl | rfl <;> rfl⟩
def linE : Enc Lin := ⟨fun x => [u8 x.line, u8 x.state, .int .i8 (s8 x.need), .bool x.has, u8 x.d0, u8 x.d1, u8 x.d2, u8 x.d3], 8, fun _ => rfl, by decide, fun a u hu => by
  simp only [List.mem_cons, List.not_mem_nil, or_false] at hu; rcases hu with rfl | rfl | rfl | rfl | rfl | rfl | rfl | rfl <;> rfl⟩
def nteE : Enc Nte := ⟨fun n => [u8 n.kind, i64v n.ways, u8 n.o0, u8 n.o1, u8 n.o2, u8 n.o3, u8 n.bits], 7, fun _ => rfl, by decide, fun a u hu => by
  simp only [List.mem_cons, List.not_mem_nil, or_false] at hu; rcases hu with rfl | rfl | rfl | rfl | rfl | rfl | rfl <;> rfl⟩
def homE : Enc Hom := ⟨fun h => [u8 h.state, u8 h.owner, u8 h.kind, .int .u64 (leM h), .bool h.all, u8 h.wait, u8 h.asker, u8 h.d0, u8 h.d1, u8 h.d2, u8 h.d3], 11, fun _ => rfl, by decide, fun a u hu => by
  simp only [List.mem_cons, List.not_mem_nil, or_false] at hu; rcases hu with rfl | rfl | rfl | rfl | rfl | rfl | rfl | rfl | rfl | rfl | rfl <;> rfl⟩
def corCells (c : Cor) (v : Value) : List Value := [u8 c.pc, u8 c.r0, u8 c.r1, u8 c.r2, u8 c.r3, u8 c.r4, u8 c.r5, u8 c.r6, u8 c.r7, v, .bool c.waits, .bool c.drain]
def opCells (c : Cac) : List Value := [u8 c.k, u8 c.l, u8 c.a, u8 c.b]
def cacCells (c : Cac) : List Value := c.ways.flatMap linE.enc ++ (c.notes.flatMap nteE.enc ++ opCells c)
def CorAt (B : Nat) (w : World) (b o : Nat) (c : Cor) : Prop := ∃ p cap, b < B ∧ Cells w ⟨b, o, none⟩ (corCells c (.slice p c.buf.length cap)) ∧ RowB stoE B w p c.buf
def CacAt (B : Nat) (w : World) (b o : Nat) (c : Cac) : Prop := b < B ∧ Cells w ⟨b, o, none⟩ (cacCells c) ∧ c.ways.length = 16 ∧ c.notes.length = 4
def CorsV (B : Nat) (w : World) (p : Option Addr) (l : List Cor) : Prop := ∃ b o, (l.length = 0 ∨ p = some ⟨b, o, none⟩) ∧ ∀ i (h : i < l.length), CorAt B w b (o + i * 12) l[i]
def CacsV (B : Nat) (w : World) (p : Option Addr) (l : List Cac) : Prop := ∃ b o, (l.length = 0 ∨ p = some ⟨b, o, none⟩) ∧ ∀ i (h : i < l.length), CacAt B w b (o + i * 160) l[i]
theorem CorAt.below {B b o : Nat} {w w2 : World} {c : Cor} (h : CorAt B w b o c) (hb : Below B w w2) : CorAt B w2 b o c := by
  obtain ⟨p, cap, h1, h2, h3⟩ := h
  exact ⟨p, cap, h1, cells_belowB hb h1 h2, h3.below hb⟩
theorem CacAt.below {B b o : Nat} {w w2 : World} {c : Cac} (h : CacAt B w b o c) (hb : Below B w w2) : CacAt B w2 b o c := ⟨h.1, cells_belowB hb h.1 h.2.1, h.2.2⟩
theorem CorsV.below {B : Nat} {w w2 : World} {p : Option Addr} {l : List Cor} (h : CorsV B w p l) (hb : Below B w w2) : CorsV B w2 p l := by
  obtain ⟨b, o, h1, h2⟩ := h
  exact ⟨b, o, h1, fun i hi => (h2 i hi).below hb⟩
theorem CacsV.below {B : Nat} {w w2 : World} {p : Option Addr} {l : List Cac} (h : CacsV B w p l) (hb : Below B w w2) : CacsV B w2 p l := by
  obtain ⟨b, o, h1, h2⟩ := h
  exact ⟨b, o, h1, fun i hi => (h2 i hi).below hb⟩
theorem CorsV.mono {B B' : Nat} {w : World} {p : Option Addr} {l : List Cor} (h : CorsV B w p l) (hB : B ≤ B') : CorsV B' w p l := by
  obtain ⟨b, o, h1, h2⟩ := h
  refine ⟨b, o, h1, fun i hi => ?_⟩
  obtain ⟨p, cap, h3, h4, h5⟩ := h2 i hi
  exact ⟨p, cap, by omega, h4, h5.mono hB⟩
theorem CacsV.mono {B B' : Nat} {w : World} {p : Option Addr} {l : List Cac} (h : CacsV B w p l) (hB : B ≤ B') : CacsV B' w p l := by
  obtain ⟨b, o, h1, h2⟩ := h
  refine ⟨b, o, h1, fun i hi => ?_⟩
  obtain ⟨h3, h4⟩ := h2 i hi
  exact ⟨by omega, h4⟩
structure SysV (B : Nat) (w : World) (vs : List Value) (s : Sy) : Prop where
  h : ∃ p1 c1 p2 c2 p3 c3, vs = .slice p1 s.cores.length c1 :: .slice p2 s.caches.length c2 :: (s.homes.flatMap homE.enc ++ [.slice p3 s.net.length c3]) ∧
    CorsV B w p1 s.cores ∧ CacsV B w p2 s.caches ∧ RowB Msg.E B w p3 s.net ∧ (p3 = none → c3 = 0)
  homes : s.homes.length = 6
theorem SysV.below {B : Nat} {w w2 : World} {vs : List Value} {s : Sy} (h : SysV B w vs s) (hb : Below B w w2) : SysV B w2 vs s := by
  obtain ⟨⟨p1, c1, p2, c2, p3, c3, h1, h2, h3, h4, h5⟩, h6⟩ := h
  exact ⟨⟨p1, c1, p2, c2, p3, c3, h1, h2.below hb, h3.below hb, h4.below hb, h5⟩, h6⟩
theorem SysV.mono {B B' : Nat} {w : World} {vs : List Value} {s : Sy} (h : SysV B w vs s) (hb : B ≤ B') : SysV B' w vs s := by
  obtain ⟨⟨p1, c1, p2, c2, p3, c3, h1, h2, h3, h4, h5⟩, h6⟩ := h
  exact ⟨⟨p1, c1, p2, c2, p3, c3, h1, h2.mono hb, h3.mono hb, h4.mono hb, h5⟩, h6⟩
theorem SysV.len {B : Nat} {w : World} {vs : List Value} {s : Sy} (h : SysV B w vs s) : vs.length = 69 := by
  obtain ⟨⟨p1, c1, p2, c2, p3, c3, rfl, _⟩, h6⟩ := h
  simp only [List.length_cons, List.length_append, flat_len (E := homE), h6, List.length_nil]; rfl
theorem SysV.one {B : Nat} {w : World} {vs : List Value} {s : Sy} (h : SysV B w vs s) : vs.all Value.oneCell' = true := by
  obtain ⟨⟨p1, c1, p2, c2, p3, c3, rfl, _⟩, h6⟩ := h
  rw [List.all_eq_true]
  intro x hx
  simp only [List.mem_cons, List.mem_append, List.not_mem_nil, or_false] at hx
  rcases hx with rfl | rfl | hx | rfl
  · rfl
  · rfl
  · exact flat_one _ x hx
  · rfl
structure WorV (wv : List Value) (g : List Value) (mode : UInt8) : Prop where
  len : wv.length = 585
  geo : (wv.drop 10).take 5 = g
  mode : wv[15]? = some (u8 mode)
end Go.Proofs.YthgmcegmgjoafaaGreatDoor
namespace Go.Proofs.YthgmcegmgjoafaaGreatDoor
open Go.Vc Go.RowKit Go.Sei
theorem flat_sub {α : Type} {E : Enc α} (l : List α) (k m : Nat) : (((l.flatMap E.enc).drop (k * E.sz)).take (m * E.sz)) = ((l.drop k).take m).flatMap E.enc := by
  have h1 : ∀ (l : List α) (k : Nat), (l.flatMap E.enc).drop (k * E.sz) = (l.drop k).flatMap E.enc := by
    intro l
    induction l with
    | nil => intro k; simp
    | cons a r ih =>
      intro k
      cases k with
      | zero => simp
      | succ k =>
        have e : (k + 1) * E.sz = (E.enc a).length + k * E.sz := by rw [E.len, Nat.add_mul]; omega
        rw [List.flatMap_cons, e, ← List.drop_drop, List.drop_left, ih k]; rfl
  have h2 : ∀ (l : List α) (k : Nat), (l.flatMap E.enc).take (k * E.sz) = (l.take k).flatMap E.enc := by
    intro l
    induction l with
    | nil => intro k; simp
    | cons a r ih =>
      intro k
      cases k with
      | zero => simp
      | succ k =>
        have e : (k + 1) * E.sz = (E.enc a).length + k * E.sz := by rw [E.len, Nat.add_mul]; omega
        rw [List.flatMap_cons, e, List.take_length_add_append, ih k, List.take_succ_cons, List.flatMap_cons]
  rw [h1, h2]
theorem sys_net {a b c : Value} {H : List Value} (h : H.length = 66) : (a :: b :: (H ++ [c]))[68]? = some c := by
  show (H ++ [c])[66]? = some c
  rw [List.getElem?_append_right (by omega), h]; rfl
def mL (h : Hom) : List UInt8 := [h.m0, h.m1, h.m2, h.m3, h.m4, h.m5, h.m6, h.m7]
theorem mL_len (h : Hom) : (mL h).length = 8 := rfl
def leL : List UInt8 → Nat
  | [] => 0
  | b :: r => b.toNat + 256 * leL r
theorem leM_leL (h : Hom) : leM h = leL (mL h) := by
  simp only [leM, mL, leL]; omega
end Go.Proofs.YthgmcegmgjoafaaGreatDoor
namespace Go.Vc
open Go.RowKit
structure MapK (P : Program) (K : TypeId) {κ : Type} [DecidableEq κ] (key : κ → Value) : Prop where
  check : ∀ q e w, (Instr.checkKey e 10000 K (key q)).run P w = .ok () w
  eq : ∀ q q' w, (Op.equal K (key q) (key q')).run P w = .ok (decide (q = q')) w
  same : ∀ q, Instr.sameBits 10000 (key q) (key q) = true
  desc : ∃ d, P.underlying K = some d ∧ ∀ q q', Instr.sameNow d (key q) (key q') = none ∨ Instr.sameNow d (key q) (key q') = some (decide (q = q'))
section
variable {P : Program} {K : TypeId} {κ : Type} [DecidableEq κ] {key : κ → Value}
abbrev Ent (κ : Type) := κ × Value × Nat
def entry (key : κ → Value) (e : Ent κ) : MapEntry := ⟨key e.1, e.2.1, e.2.2⟩
def findL (q : κ) : List (Ent κ) → Nat → Option (Nat × Value)
  | [], _ => none
  | e :: r, i => if q = e.1 then some (i, e.2.1) else findL q r (i + 1)
theorem findAsking_run (hK : MapK P K key) (q : κ) : ∀ (es : List (Ent κ)) (i : Nat) (w : World), (Instr.findAsking K (key q) (es.map (entry key)) i).run P w = .ok (findL q es i) w
  | [], _, _ => rfl
  | e :: r, i, w => by
    simp only [List.map_cons, Instr.findAsking, Sem.run_bind, entry, hK.eq q e.1 w, Result.andThen_ok, findL]
    by_cases h : q = e.1
    · simp [h]
    · simp only [h, decide_false, Bool.false_eq_true, if_false]
      exact findAsking_run hK q r (i + 1) w
theorem findNow_eq {d : TypeDesc} {q : κ} (h : ∀ q', Instr.sameNow d (key q) (key q') = none ∨ Instr.sameNow d (key q) (key q') = some (decide (q = q'))) : ∀ (es : List (Ent κ)) (i : Nat),
    Instr.findNow d (key q) (es.map (entry key)) i = none ∨ Instr.findNow d (key q) (es.map (entry key)) i = some (findL q es i)
  | [], _ => .inr rfl
  | e :: r, i => by
    simp only [List.map_cons, Instr.findNow, entry, findL]
    rcases h e.1 with h1 | h1
    · rw [h1]; exact .inl rfl
    · rw [h1]
      by_cases hq : q = e.1
      · simp [hq]
      · simp only [hq, decide_false, if_false]
        exact findNow_eq h r (i + 1)
theorem findKey_run (hK : MapK P K key) (q : κ) (es : List (Ent κ)) (w : World) : (Instr.findKey K (key q) (es.map (entry key))).run P w = .ok (findL q es 0) w := by
  obtain ⟨d, hd, hs⟩ := hK.desc
  simp only [Instr.findKey, Sem.run_bind, run_underlying hd, Result.andThen_ok]
  rcases findNow_eq (hs q) es 0 with h | h
  · rw [h]; exact findAsking_run hK q es 0 w
  · rw [h]; rfl
theorem findL_some {q : κ} : ∀ {es : List (Ent κ)} {i j : Nat} {v : Value}, findL q es i = some (j, v) → ∃ b, i ≤ j ∧ es[j - i]? = some (q, v, b)
  | [], _, _, _, h => by simp [findL] at h
  | e :: r, i, j, v, h => by
    simp only [findL] at h
    split at h
    · rename_i hq
      simp only [Option.some.injEq, Prod.mk.injEq] at h
      obtain ⟨rfl, rfl⟩ := h
      exact ⟨e.2.2, Nat.le_refl _, by simp [hq]⟩
    · obtain ⟨b, h1, h2⟩ := findL_some h
      refine ⟨b, by omega, ?_⟩
      have : j - i = (j - (i + 1)) + 1 := by omega
      rw [this]; simpa using h2
theorem findL_none {q : κ} : ∀ {es : List (Ent κ)} {i : Nat}, findL q es i = none → ∀ e ∈ es, e.1 ≠ q
  | [], _, _, e, he => by simp at he
  | x :: r, i, h, e, he => by
    simp only [findL] at h
    split at h
    · cases h
    · rename_i hq
      cases he with
      | head => exact fun e => hq e.symm
      | tail _ he => exact findL_none h e he
def asF (es : List (Ent κ)) (q : κ) : Option Value := (findL q es 0).map (·.2)
theorem asF_nil (q : κ) : asF ([] : List (Ent κ)) q = none := rfl
theorem findL_shift (q : κ) : ∀ (es : List (Ent κ)) (i : Nat), (findL q es i).map (·.2) = asF es q
  | [], _ => rfl
  | e :: r, i => by
    unfold asF
    simp only [findL]
    split
    · rfl
    · rw [findL_shift q r (i + 1), findL_shift q r (0 + 1)]
theorem asF_cons (e : Ent κ) (r : List (Ent κ)) (q : κ) : asF (e :: r) q = if q = e.1 then some e.2.1 else asF r q := by
  unfold asF
  simp only [findL]
  split
  · rfl
  · rw [findL_shift]; rfl
theorem asF_append (e : Ent κ) (q : κ) : ∀ (es : List (Ent κ)), asF (es ++ [e]) q = (asF es q).or (if q = e.1 then some e.2.1 else none)
  | [] => by rw [List.nil_append, asF_cons, asF_nil]; simp
  | x :: r => by
    rw [List.cons_append, asF_cons, asF_cons, asF_append e q r]
    split <;> simp
def MapF (key : κ → Value) (w : World) (r : Nat) (f : κ → Option Value) : Prop :=
  ∃ (es : List (Ent κ)) (clock : Nat), w.heap[r]? = some (.map (es.map (entry key)).toArray clock) ∧ (∀ q, asF es q = f q) ∧ (es.map (·.1)).Nodup ∧ (es.map (·.2.2)).Nodup ∧ (∀ e ∈ es, e.2.2 < clock)
def MapS (key : κ → Value) (w : World) (r : Nat) (f : κ → Option Value) (q : κ) (born : Nat) : Prop :=
  ∃ (es : List (Ent κ)) (clock : Nat), w.heap[r]? = some (.map (es.map (entry key)).toArray clock) ∧ (∀ q, asF es q = f q) ∧ (es.map (·.1)).Nodup ∧ (es.map (·.2.2)).Nodup ∧ (∀ e ∈ es, e.2.2 < clock) ∧ ∃ v, (q, v, born) ∈ es
theorem MapS.map {w : World} {r : Nat} {f : κ → Option Value} {q : κ} {born : Nat} (h : MapS key w r f q born) : MapF key w r f := by
  obtain ⟨es, clock, h1, h2, h3, h4, h5, _⟩ := h; exact ⟨es, clock, h1, h2, h3, h4, h5⟩
theorem MapF.below {w w2 : World} {r : Nat} {f : κ → Option Value} (h : MapF key w r f) (hb : Below w.heap.size w w2) : MapF key w2 r f := by
  obtain ⟨es, clock, hh, rest⟩ := h
  exact ⟨es, clock, block_below hb hh, rest⟩
theorem MapF.same {w w2 : World} {r : Nat} {f : κ → Option Value} (h : MapF key w r f) (hb : w2.heap[r]? = w.heap[r]?) : MapF key w2 r f := by
  obtain ⟨es, clock, hh, rest⟩ := h
  exact ⟨es, clock, hb.trans hh, rest⟩
theorem MapF.new {w : World} : MapF key (w.alloc (.map #[] 0)) w.heap.size (fun (_ : κ) => none) :=
  ⟨[], 0, hnew w _, fun _ => rfl, by simp, by simp, by simp⟩
theorem lookup_run {T elem : TypeId} (hK : MapK P K key) (hu : P.underlying T = some (.map K elem)) {z : Value} (hz : ∀ w, (zeroValue elem).run P w = .ok z w) {w : World} {r : Nat} {f : κ → Option Value} (h : MapF key w r f) (q : κ) (ok : Bool) :
    (Instr.lookup T (.map (some r)) (key q) ok).run P w = .ok (if ok then .tuple #[(f q).getD z, .bool (f q).isSome] else (f q).getD z) w := by
  obtain ⟨es, clock, hh, hf, _⟩ := h
  have hg : (getObj r).run P w = .ok (.map (es.map (entry key)).toArray clock) w := by simp [getObj, Sem.run, hh]
  have e : asF es q = f q := hf q
  unfold asF at e
  simp only [Instr.lookup, Sem.run_bind, run_underlying hu, Result.andThen_ok, hg, Sem.run_pure, hK.check q _ w, findKey_run hK q es w]
  cases hfl : findL q es 0 with
  | none =>
    rw [hfl] at e
    simp only [Option.map_none] at e
    simp only [Sem.run_bind, hz w, Result.andThen_ok, Sem.run_pure, ← e, Option.getD_none, Option.isSome_none]
    first | done | (cases ok <;> rfl)
  | some p =>
    obtain ⟨j, v⟩ := p
    rw [hfl] at e
    simp only [Option.map_some] at e
    simp only [← e, Option.getD_some, Option.isSome_some]
    cases ok <;> rfl
theorem heap_put {w : World} {r : Nat} {o o' : Obj} (h : w.heap[r]? = some o) : (w.putObj r o').heap[r]? = some o' := by
  have : r < w.heap.size := hlt h
  simp [World.putObj, this]
theorem heap_put_old {w : World} {r k : Nat} {o : Obj} (h : k ≠ r) : (w.putObj r o).heap[k]? = w.heap[k]? := by
  have : ¬ r = k := fun e => h e.symm
  simp [World.putObj, this]
theorem below_put {B : Nat} {a w : World} (h : Below B a w) {r : Nat} (hr : B ≤ r) (o : Obj) : Below B a (w.putObj r o) :=
  h.trans ⟨rfl, rfl, rfl, by simp [World.putObj], fun k hk => heap_put_old (by omega)⟩
theorem grown_put (w : World) (r : Nat) (o : Obj) : w.grownBy (w.putObj r o) (some r) :=
  ⟨rfl, rfl, rfl, by simp [World.putObj], fun k _ hne => heap_put_old (fun e => hne (by rw [e]))⟩
theorem getD_self {α : Type} (f : κ → Option α) (q : κ) (z : α) (h : (f q).isSome) (q' : κ) : (if q' = q then some ((f q).getD z) else f q') = f q' := by
  split
  · rename_i e; subst e; obtain ⟨v, hv⟩ := Option.isSome_iff_exists.1 h; simp [hv]
  · rfl
theorem mapEntry_run {T elem : TypeId} (hK : MapK P K key) (hu : P.underlying T = some (.map K elem)) {z : Value} (hz : ∀ w, (zeroValue elem).run P w = .ok z w) {w : World} {r : Nat} {f : κ → Option Value} (h : MapF key w r f) (q : κ) :
    ∃ (born : Nat) (o : Obj), (Instr.mapEntry T (.map (some r)) (key q)).run P w = .ok (.tuple #[(f q).getD z, .int .i64 born]) (w.putObj r o) ∧
      MapS key (w.putObj r o) r (fun q' => if q' = q then some ((f q).getD z) else f q') q born := by
  obtain ⟨es, clock, hh, hf, hn, hb, hc⟩ := h
  have hg : (getObj r).run P w = .ok (.map (es.map (entry key)).toArray clock) w := by simp [getObj, Sem.run, hh]
  have hset : ∀ o, (setObj r o).run P w = .ok () (w.putObj r o) := fun o => by simp [setObj, Sem.run, hh, World.putObj]
  have e : asF es q = f q := hf q
  unfold asF at e
  simp only [Instr.mapEntry, Sem.run_bind, run_underlying hu, Result.andThen_ok, hg, hK.check q _ w, findKey_run hK q es w]
  cases hfl : findL q es 0 with
  | none =>
    rw [hfl] at e
    simp only [Option.map_none] at e
    refine ⟨clock, .map ((es ++ [(q, z, clock)]).map (entry key)).toArray (clock + 1), ?_, ?_⟩
    · have e2 : (es.map (entry key)).toArray.push { key := key q, val := z, born := clock } = ((es ++ [(q, z, clock)]).map (entry key)).toArray := by
        rw [← Array.toList_inj]; simp [entry]
      simp only [Sem.run_bind, hz w, Result.andThen_ok, e2, hset, Sem.run_pure, goInt, ← e, Option.getD_none]
    · refine ⟨es ++ [(q, z, clock)], clock + 1, heap_put hh, fun q' => ?_, ?_, ?_, ?_, z, by simp⟩
      · rw [asF_append]
        by_cases hq : q' = q
        · subst hq
          rw [hf q', ← e]; simp
        · simp [hq, hf q']
      · rw [List.map_append, List.map_cons, List.map_nil]
        refine List.nodup_append.2 ⟨hn, by simp, ?_⟩
        intro a ha b hb'
        simp only [List.mem_singleton] at hb'
        subst hb'
        obtain ⟨x, hx, rfl⟩ := List.mem_map.1 ha
        exact findL_none hfl x hx
      · rw [List.map_append, List.map_cons, List.map_nil]
        refine List.nodup_append.2 ⟨hb, by simp, ?_⟩
        intro a ha b hb'
        simp only [List.mem_singleton] at hb'
        subst hb'
        obtain ⟨x, hx, rfl⟩ := List.mem_map.1 ha
        exact Nat.ne_of_lt (hc x hx)
      · intro x hx
        rw [List.mem_append] at hx
        rcases hx with hx | hx
        · exact Nat.lt_succ_of_lt (hc x hx)
        · simp only [List.mem_singleton] at hx; subst hx; exact Nat.lt_succ_self _
  | some p =>
    obtain ⟨j, v⟩ := p
    rw [hfl] at e
    simp only [Option.map_some] at e
    obtain ⟨b, _, hj⟩ := findL_some hfl
    rw [Nat.sub_zero] at hj
    have hje : (es.map (entry key)).toArray[j]? = some (entry key (q, v, b)) := by simp [hj]
    have hmod : (es.map (entry key)).toArray.modify j (fun e => { e with key := key q }) = (es.map (entry key)).toArray := by
      apply Array.ext_getElem?
      intro i
      rw [Array.getElem?_modify]
      split
      · rename_i hij
        subst hij
        rw [hje]; simp [entry]
      · rfl
    refine ⟨b, .map (es.map (entry key)).toArray clock, ?_, ?_⟩
    · simp only [hje, Option.map_some, Option.getD_some, entry, Instr.keyThatStays, hK.same q, if_true, Sem.run_pure, Result.andThen_ok, Sem.run_bind]
      have hmod' := hmod
      rw [hmod', hset]
      simp only [Result.andThen_ok, goInt, ← e, Option.getD_some]
    · refine ⟨es, clock, heap_put hh, fun q' => ?_, hn, hb, hc, v, List.mem_of_getElem? hj⟩
      rw [hf q']
      exact (getD_self f q z (by rw [← e]; rfl) q').symm
theorem asF_mem {q : κ} {v : Value} {b : Nat} : ∀ {es : List (Ent κ)}, (es.map (·.1)).Nodup → (q, v, b) ∈ es → asF es q = some v
  | [], _, h => by simp at h
  | e :: r, hn, h => by
    rw [List.map_cons, List.nodup_cons] at hn
    rw [asF_cons]
    cases h with
    | head => simp
    | tail _ h =>
      have : q ≠ e.1 := fun hq => hn.1 (List.mem_map.2 ⟨_, h, hq⟩)
      rw [if_neg this]
      exact asF_mem hn.2 h
theorem asF_set {born : Nat} (x : Value) (q : κ) (q' : κ) : ∀ (es : List (Ent κ)), (es.map (·.1)).Nodup → (∃ v, (q, v, born) ∈ es) → (∀ e ∈ es, e.2.2 = born → e.1 = q) →
    asF (es.map fun e => if e.2.2 = born then (e.1, x, e.2.2) else e) q' = if q' = q then some x else asF es q'
  | [], _, ⟨v, h⟩, _ => by simp at h
  | e :: r, hn, ⟨v, hm⟩, hb => by
    rw [List.map_cons, List.nodup_cons] at hn
    rw [List.map_cons, asF_cons, asF_cons]
    by_cases he : e.2.2 = born
    · have hq : e.1 = q := hb e List.mem_cons_self he
      simp only [he, if_true]
      rw [hq]
      by_cases hqq : q' = q
      · simp [hqq]
      · simp only [hqq, if_false]
        have hrest : ∀ (l : List (Ent κ)), (∀ e ∈ l, e.2.2 = born → e.1 = q) → q ∉ l.map (·.1) → l.map (fun e => if e.2.2 = born then (e.1, x, e.2.2) else e) = l := by
          intro l
          induction l with
          | nil => intros; rfl
          | cons y l ih =>
            intro h1 h2
            have hy : ¬ y.2.2 = born := fun hy => h2 (List.mem_map.2 ⟨y, List.mem_cons_self, h1 y List.mem_cons_self hy⟩)
            rw [List.map_cons, if_neg hy, ih (fun z hz => h1 z (List.mem_cons_of_mem _ hz)) (fun hz => h2 (by rw [List.map_cons]; exact List.mem_cons_of_mem _ hz))]
        rw [hrest r (fun z hz => hb z (List.mem_cons_of_mem _ hz)) (by rw [← hq]; exact hn.1)]
    · have hm' : (q, v, born) ∈ r := by
        cases hm with
        | head => exact absurd rfl he
        | tail _ h => exact h
      simp only [he, if_false]
      have hqe : q ≠ e.1 := fun hq => hn.1 (List.mem_map.2 ⟨_, hm', hq⟩)
      rw [asF_set x q q' r hn.2 ⟨v, hm'⟩ (fun z hz => hb z (List.mem_cons_of_mem _ hz))]
      by_cases hqq : q' = q
      · subst hqq; simp [hqe]
      · simp [hqq]
omit [DecidableEq κ] in
theorem findIdx_born {born : Nat} {x : Value} : ∀ (es : List (Ent κ)), (es.map (·.2.2)).Nodup → (∃ q v, (q, v, born) ∈ es) → ∃ i, (es.map (entry key)).findIdx? (fun e => (e.born : Int) == (born : Int)) = some i ∧
    (es.map (entry key)).modify i (fun e => { e with val := x }) = (es.map fun e => if e.2.2 = born then (e.1, x, e.2.2) else e).map (entry key)
  | [], _, ⟨q, v, h⟩ => by simp at h
  | e :: r, hn, ⟨q, v, hm⟩ => by
    rw [List.map_cons, List.nodup_cons] at hn
    by_cases he : e.2.2 = born
    · refine ⟨0, by simp [List.findIdx?_cons, entry, he], ?_⟩
      have hrest : ∀ (l : List (Ent κ)), born ∉ l.map (·.2.2) → l.map (fun e => if e.2.2 = born then (e.1, x, e.2.2) else e) = l := by
        intro l
        induction l with
        | nil => intros; rfl
        | cons y l ih =>
          intro h2
          have hy : ¬ y.2.2 = born := fun hy => h2 (List.mem_map.2 ⟨y, List.mem_cons_self, hy⟩)
          rw [List.map_cons, if_neg hy, ih (fun hz => h2 (by rw [List.map_cons]; exact List.mem_cons_of_mem _ hz))]
      rw [List.map_cons, List.map_cons, List.map_cons, hrest r (by rw [← he]; exact hn.1)]
      simp [entry, he]
    · have hm' : (q, v, born) ∈ r := by
        cases hm with
        | head => exact absurd rfl he
        | tail _ h => exact h
      obtain ⟨i, h1, h2⟩ := findIdx_born r hn.2 ⟨q, v, hm'⟩
      have hne : ((entry key e).born : Int) ≠ (born : Int) := by simp only [entry]; omega
      refine ⟨i + 1, ?_, ?_⟩
      · rw [List.map_cons, List.findIdx?_cons]
        simp [hne, h1]
      · rw [List.map_cons, List.modify_succ_cons, h2, List.map_cons, List.map_cons, if_neg he]
theorem entryStore_run {T : TypeId} {w : World} {r : Nat} {f : κ → Option Value} {q : κ} {born : Nat} (h : MapS key w r f q born) (x : Value) :
    ∃ o, (Instr.entryStore T (.map (some r)) (.int .i64 born) x).run P w = .ok () (w.putObj r o) ∧ MapF key (w.putObj r o) r (fun q' => if q' = q then some x else f q') := by
  obtain ⟨es, clock, hh, hf, hn, hb, hc, v, hm⟩ := h
  have hg : (getObj r).run P w = .ok (.map (es.map (entry key)).toArray clock) w := by simp [getObj, Sem.run, hh]
  have hset : ∀ o, (setObj r o).run P w = .ok () (w.putObj r o) := fun o => by simp [setObj, Sem.run, hh, World.putObj]
  obtain ⟨i, h1, h2⟩ := findIdx_born (key := key) (x := x) es hb ⟨q, v, hm⟩
  have hbq : ∀ e ∈ es, e.2.2 = born → e.1 = q := fun e he hbe => by
    obtain ⟨i, hi, e1⟩ := List.getElem_of_mem he
    obtain ⟨j, hj, e2⟩ := List.getElem_of_mem hm
    have : i = j := by
      by_cases hij : i = j
      · exact hij
      · exfalso
        have h3 := (List.pairwise_iff_getElem.1 hb)
        rcases Nat.lt_or_gt_of_ne hij with hlt | hlt
        · exact h3 i j (by simpa using hi) (by simpa using hj) hlt (by simp [e1, e2, hbe])
        · exact h3 j i (by simpa using hj) (by simpa using hi) hlt (by simp [e1, e2, hbe])
    subst this
    rw [e1] at e2
    rw [e2]
  refine ⟨.map ((es.map fun e => if e.2.2 = born then (e.1, x, e.2.2) else e).map (entry key)).toArray clock, ?_, ?_⟩
  · have h1' : (es.map (entry key)).toArray.findIdx? (fun e => (e.born : Int) == (born : Int)) = some i := by simpa using h1
    have h2' : (es.map (entry key)).toArray.modify i (fun e => { e with val := x }) = ((es.map fun e => if e.2.2 = born then (e.1, x, e.2.2) else e).map (entry key)).toArray := by
      rw [← h2]; simp
    simp only [Instr.entryStore, Sem.run_bind, Sem.run_pure, Result.andThen_ok, hg, asInt, asIntOf, h1', h2', hset]
  · refine ⟨_, clock, heap_put hh, fun q' => ?_, ?_, ?_, ?_⟩
    · rw [asF_set x q q' es hn ⟨v, hm⟩ hbq, hf q']
    · have : (es.map fun e => if e.2.2 = born then (e.1, x, e.2.2) else e).map (·.1) = es.map (·.1) := by
        rw [List.map_map]; apply List.map_congr_left; intro e _; simp only [Function.comp_apply]; split <;> rfl
      rw [this]; exact hn
    · have : (es.map fun e => if e.2.2 = born then (e.1, x, e.2.2) else e).map (·.2.2) = es.map (·.2.2) := by
        rw [List.map_map]; apply List.map_congr_left; intro e _; simp only [Function.comp_apply]; split <;> rfl
      rw [this]; exact hb
    · intro e he
      obtain ⟨y, hy, rfl⟩ := List.mem_map.1 he
      split
      · exact hc y hy
      · exact hc y hy
end
end Go.Vc
namespace Go.Vc
open Go.RowKit
structure Step (n0 : Nat) (Fp : World → Nat → Prop) (A B : World) : Prop where
  os : B.os = A.os
  tape : B.tape = A.tape
  output : B.output = A.output
  size : A.heap.size ≤ B.heap.size
  same : ∀ k, k < A.heap.size → (k < n0 ∨ Fp A k) → B.heap[k]? = A.heap[k]?
structure Keeps (Fp : World → Nat → Prop) (A B : World) : Prop where
  os : B.os = A.os
  tape : B.tape = A.tape
  output : B.output = A.output
  size : A.heap.size ≤ B.heap.size
  same : ∀ k, k < A.heap.size → ¬ Fp A k → B.heap[k]? = A.heap[k]?
  fp : ∀ k, Fp B k → Fp A k ∨ A.heap.size ≤ k
structure IterJ {σ : Type} (n0 : Nat) (Fp : World → Nat → Prop) (J : σ → World → Prop) : Prop where
  step : ∀ s A B, J s A → Step n0 Fp A B → J s B ∧ ∀ k, Fp B k → Fp A k
  lt : ∀ s A k, J s A → Fp A k → k < A.heap.size
theorem Step.mono {n0 n1 : Nat} {Fp : World → Nat → Prop} {A B : World} (h : Step n0 Fp A B) (hn : n1 ≤ n0) : Step n1 Fp A B :=
  ⟨h.os, h.tape, h.output, h.size, fun k hk hf => h.same k hk (hf.imp (fun h => Nat.lt_of_lt_of_le h hn) id)⟩
theorem IterJ.mono {σ : Type} {n0 n1 : Nat} {Fp : World → Nat → Prop} {J : σ → World → Prop} (h : IterJ n0 Fp J) (hn : n0 ≤ n1) : IterJ n1 Fp J :=
  ⟨fun s A B hj hs => h.step s A B hj (hs.mono hn), h.lt⟩
theorem Step.of_below {n0 : Nat} {Fp : World → Nat → Prop} {A B : World} (h : Below A.heap.size A B) : Step n0 Fp A B :=
  ⟨h.os, h.tape, h.output, h.size, fun k hk _ => h.block k hk⟩
theorem Step.alloc {n0 : Nat} {Fp : World → Nat → Prop} (A : World) (o : Obj) : Step n0 Fp A (A.alloc o) := .of_below ((Below.refl _ A).alloc (Nat.le_refl _) o)
theorem Step.drew {n0 : Nat} {Fp : World → Nat → Prop} (A : World) : Step n0 Fp A A.drew := .of_below (Below.refl _ A).drew
theorem Step.put {n0 : Nat} {Fp : World → Nat → Prop} {A : World} {l : Nat} (h : n0 ≤ l) (hf : ¬ Fp A l) (o : Obj) : Step n0 Fp A (A.putObj l o) :=
  ⟨rfl, rfl, rfl, by simp [World.putObj], fun k _ hk => heap_put_old (fun e => by subst e; rcases hk with hk | hk; omega; exact hf hk)⟩
theorem Step.row {n0 : Nat} {Fp : World → Nat → Prop} {A : World} {l : Nat} (h : n0 ≤ l) (hf : ¬ Fp A l) (cs : Array Value) : Step n0 Fp A (A.setRow l cs) :=
  ⟨rfl, rfl, rfl, by simp, fun k _ hk => setRow_old (fun e => by subst e; rcases hk with hk | hk; omega; exact hf hk)⟩
theorem YieldR.mono {P : Program} {l : Nat} {args : Array Value} {w : World} {K K' : Value → World → Prop} (h : YieldR P l args w K) (hk : ∀ v w, K v w → K' v w) : YieldR P l args w K' := by
  obtain ⟨fn, tmps, assign, body, hy, hR⟩ := h
  exact ⟨fn, tmps, assign, body, hy, hR.mono fun e w' he => by cases e <;> first | exact hk _ _ he | exact he⟩
def IterS {α : Type} (P : Program) (g : Nat) (lb : List Value) (enc : α → List Value) (xs : List α) (W0 : World) (Rd : Nat → Prop) : Prop :=
  ∀ (l : Nat) (Fp : World → Nat → Prop) (J Jx : List α → World → Prop) (W : World), W0.heap.size ≤ W.heap.size → (∀ k, Rd k → W.heap[k]? = W0.heap[k]?) → (∀ k, Rd k → ¬ Fp W k) →
    IterJ W.heap.size Fp J → IterJ W.heap.size Fp Jx →
    (∀ pre x W1, J pre W1 → (pre ++ [x]) <+: xs → YieldR P l (enc x).toArray W1 fun v W2 =>
      (v = .bool true ∧ J (pre ++ [x]) W2 ∧ Keeps Fp W1 W2) ∨ (v = .bool false ∧ Jx (pre ++ [x]) W2)) →
    J [] W →
    Calls P g (.func (.yield l) #[] #[] :: lb).toArray W fun e W' => (∃ v, e = .returned v) ∧ (J xs W' ∨ ∃ pre, pre <+: xs ∧ Jx pre W')
def setL : List Nat → List Value → VEnv → VEnv
  | p :: ps, v :: vs, E => setL ps vs ((p, v) :: E)
  | _, _, E => E
theorem setL_agrees {S : Sig} : ∀ (ps : List Nat) (vs : List Value) (a : Act) (E : Env), Agrees S a E → (∀ p ∈ ps, p < S.n) →
    Agrees S { a with tmps := (ps.zip vs).foldl (fun t (p, v) => t.setIfInBounds p v) a.tmps } ⟨setL ps vs E.vs, E.ds⟩
  | [], vs, a, E, h, _ => by simpa [setL] using h
  | p :: ps, [], a, E, h, _ => by simpa [setL] using h
  | p :: ps, v :: vs, a, E, h, hp => by
    have h1 := h.put (dst := some p) (by simpa [okDst] using hp p List.mem_cons_self) v
    have h2 := setL_agrees ps vs (a.put (some p) v) (setE (some p) v E) h1 (fun q hq => hp q (List.mem_cons_of_mem _ hq))
    simpa [setL, setE, Act.put] using h2
def sr (S : Sig) (l : Nat) : Sig := { S with r := some l }
theorem sr_ok {S : Sig} (h : SigOk S) (l : Nat) : SigOk (sr S l) := ⟨h.ty, h.call, h.mixed⟩
def bodyQ {α : Type} (Fp : World → Nat → Prop) (J : List α → World → Prop) (Jx : Exit → List α → World → Prop) (xs : List α) (A : World) : Exit → Env → World → Prop
  | .normal, _, B => J xs B ∧ Keeps Fp A B
  | .ret, _, B => Jx .ret xs B ∧ Keeps Fp A B
  | .exit id, _, B => Jx (.exit id) xs B ∧ Keeps Fp A B
  | _, _, _ => False
theorem Keeps.trans {Fp : World → Nat → Prop} {A B C : World} (h : Keeps Fp A B) (k : Keeps Fp B C) : Keeps Fp A C :=
  ⟨k.os.trans h.os, k.tape.trans h.tape, k.output.trans h.output, Nat.le_trans h.size k.size,
   fun i hi hf => (k.same i (Nat.lt_of_lt_of_le hi h.size) (fun hb => by rcases h.fp i hb with h1 | h1; exact hf h1; omega)).trans (h.same i hi hf),
   fun i hi => by
     rcases k.fp i hi with h1 | h1
     · exact h.fp i h1
     · exact .inr (Nat.le_trans h.size h1)⟩
theorem Keeps.refl (Fp : World → Nat → Prop) (A : World) : Keeps Fp A A := ⟨rfl, rfl, rfl, Nat.le_refl _, fun _ _ _ => rfl, fun _ h => .inl h⟩
theorem Keeps.of_below {Fp : World → Nat → Prop} {A B : World} (h : Below A.heap.size A B) (hf : ∀ k, Fp B k → Fp A k ∨ A.heap.size ≤ k) : Keeps Fp A B :=
  ⟨h.os, h.tape, h.output, h.size, fun k hk _ => h.block k hk, hf⟩
theorem rangeE {α : Type} {S : Sig} (hS : SigOk S) (hr : S.r = none) {f : Operand} {ps : Array Tmp} {assign body : Code} {E : Env} {w : World} {Q : Exit → Env → World → Prop}
    {gf : Nat} {lb : Array Value} (hg : opd E f = some (.func (.func gf) #[] lb)) (hok : calleeOk S gf = true)
    {enc : α → List Value} {xs : List α} {W0 : World} {Rd : Nat → Prop} (hI : IterS S.P gf lb.toList enc xs W0 Rd) (hW0 : W0.heap.size ≤ w.heap.size) (hRd : ∀ k, Rd k → k < W0.heap.size ∧ w.heap[k]? = W0.heap[k]?)
    (hps : ∀ x, (enc x).length = ps.size) (hpn : ∀ p ∈ ps.toList, p < S.n)
    (Fp : World → Nat → Prop) (J : List α → World → Prop) (Jx : Exit → List α → World → Prop) (hRF : ∀ k, Rd k → ¬ Fp w k)
    (hJ : IterJ w.heap.size Fp J) (hJx : ∀ ex, IterJ w.heap.size Fp (Jx ex)) (h0 : J [] w)
    (hround : ∀ (l : Nat) (pre : List α) (x : α) (W : World), w.heap.size ≤ l → (pre ++ [x]) <+: xs → J pre W → ¬ Fp W l → l < W.heap.size →
      wpE (sr S l) assign ⟨setL ps.toList (enc x) E.vs, []⟩ W fun ex E1 W1 => ex = .normal ∧ Keeps Fp W W1 ∧ J pre W1 ∧
        ∀ o W2, W2 = W1.putObj l o → J pre W2 → (∀ k, Fp W2 k → Fp W1 k) → wpE (sr S l) body E1 W2 (bodyQ Fp J Jx (pre ++ [x]) W2))
    (hdone : ∀ D W, w.heap.size ≤ D → ¬ Fp W D → J xs W → W.heap[D]? = some (.deferred (some [])) → Q .normal ⟨E.vs, { target := .collected D, args := #[] } :: E.ds⟩ W)
    (hstop : ∀ D ex pre W, w.heap.size ≤ D → ¬ Fp W D → pre <+: xs → Jx ex pre W → W.heap[D]? = some (.deferred (some [])) → Q ex ⟨E.vs, { target := .collected D, args := #[] } :: E.ds⟩ W) :
    RangeE S f ps assign body E w Q := by
  intro a ha
  have hcall : ∀ args w, (callFunc gf args).run S.P w = .ok (.enter gf args) w := by
    simp only [calleeOk, Bool.and_eq_true, Nat.ble_eq, Nat.blt_eq] at hok
    exact fun args w => hS.call gf hok.1.1 hok.1.2 hok.2 args w
  refine wpIn_rangeFunc ?_
  intro fn hfn
  have hro : (FR S.r).round = none := hr
  rw [hro]
  obtain ⟨rec, hrec⟩ : ∃ rec : LoopState → Option Code → Loop, rec = fun st pe => { state := st, pending := pe, fn, tmps := a.tmps, params := ps, assign, body, defers := w.heap.size } := ⟨_, rfl⟩
  obtain ⟨W1, hW1⟩ : ∃ W1, (w.alloc (.deferred (some []))).alloc (.loop (rec .ready none)) = W1 := ⟨_, rfl⟩
  have hK0 := hnew w (.deferred (some []))
  have hK1 : W1.heap[w.heap.size]? = some (.deferred (some [])) := by rw [← hW1]; exact hold _ hK0
  have hL1 : W1.heap[w.heap.size + 1]? = some (.loop (rec .ready none)) := by
    rw [← hW1]; have := hnew (w.alloc (.deferred (some []))) (.loop (rec .ready none)); rwa [World.size_alloc] at this
  have hs1 : W1.heap.size = w.heap.size + 2 := by rw [← hW1]; simp
  have hst1 : Step w.heap.size Fp w W1 := by
    rw [← hW1]; exact .of_below (((Below.refl _ w).alloc (Nat.le_refl _) _).alloc (by simp) _)
  obtain ⟨hJ1, hF1⟩ := hJ.step _ _ _ h0 hst1
  have hFl : ∀ k, Fp W1 k → k < w.heap.size := fun k hk => hJ.lt _ _ k h0 (hF1 k hk)
  refine ⟨w.heap.size + 1, [{ target := .collected w.heap.size, args := #[] }], W1, { target := .fn (.func gf) lb, args := #[.func (.yield (w.heap.size + 1)) #[] #[]] }, W1, gf,
    #[.func (.yield (w.heap.size + 1)) #[] #[]] ++ lb, W1, ?_, ?_, fun _ _ => trivial, ?_, fun h => by simp [FR] at h, ?_⟩
  · rw [← hW1, hrec]; exact run_enterLoop_outer _ _ _ _ _
  · have hg' := ha.eval hg
    simp only [resolve, hg']
    simp [go_sem]
  · simp [invoke, go_sem, hcall]
  · have hargs : #[Value.func (.yield (w.heap.size + 1)) #[] #[]] ++ lb = (Value.func (.yield (w.heap.size + 1)) #[] #[] :: lb.toList).toArray := by rw [← Array.toList_inj]; simp
    rw [hargs]
    have book : ∀ {σ : Type} {K : σ → World → Prop} (lo : Loop), IterJ w.heap.size Fp K → IterJ W1.heap.size Fp (fun s W => K s W ∧ W.heap[w.heap.size + 1]? = some (.loop lo) ∧ W.heap[w.heap.size]? = some (.deferred (some [])) ∧ ¬ Fp W (w.heap.size + 1) ∧ ¬ Fp W w.heap.size) := by
      intro σ K lo hK
      refine ⟨fun s A B ⟨hk, hl, hd, hf1, hf2⟩ hs => ?_, fun s A k ⟨hk, _⟩ hf => hK.lt s A k hk hf⟩
      obtain ⟨h1, h2⟩ := hK.step s A B hk (hs.mono (by omega))
      exact ⟨⟨h1, (hs.same _ (hlt hl) (.inl (by omega))).trans hl, (hs.same _ (hlt hd) (.inl (by omega))).trans hd, fun h => hf1 (h2 _ h), fun h => hf2 (h2 _ h)⟩, h2⟩
    have hcalls := hI (w.heap.size + 1) Fp (fun pre W => J pre W ∧ W.heap[w.heap.size + 1]? = some (.loop (rec .ready none)) ∧ W.heap[w.heap.size]? = some (.deferred (some [])) ∧ ¬ Fp W (w.heap.size + 1) ∧ ¬ Fp W w.heap.size)
      (fun pre W => ∃ ex c, ((ex = .ret ∧ c = .ret) ∨ ∃ id, ex = .exit id ∧ c = .exit id) ∧ Jx ex pre W ∧ W.heap[w.heap.size + 1]? = some (.loop (rec .done (some c))) ∧ W.heap[w.heap.size]? = some (.deferred (some [])) ∧ ¬ Fp W (w.heap.size + 1) ∧ ¬ Fp W w.heap.size)
      W1 (by omega) (fun k hk => by
        obtain ⟨h1, h2⟩ := hRd k hk
        rw [← h2]
        exact hst1.same k (by omega) (.inl (by omega))) (fun k hk hf => hRF k hk (hF1 k hf)) (book _ hJ)
      ⟨fun s A B ⟨ex, c, hc, hrest⟩ hs => by
        have := (book (rec .done (some c)) (hJx ex)).step s A B hrest hs
        exact ⟨⟨ex, c, hc, this.1⟩, this.2⟩,
       fun s A k ⟨ex, c, hc, hrest⟩ hf => (hJx ex).lt s A k hrest.1 hf⟩ ?_ ⟨hJ1, hL1, hK1, fun h => by have := hFl _ h; omega, fun h => by have := hFl _ h; omega⟩
    · refine callsIn_of (hcalls.mono ?_)
      rintro e W2 ⟨⟨v, rfl⟩, (⟨hj, hl, hk, hf1, hf2⟩ | ⟨pre, hpre, ex, c, hc, hj, hl, hk, hf1, hf2⟩)⟩
      · have hst : Step w.heap.size Fp W2 (W2.putObj (w.heap.size + 1) (.loop (rec .exhausted none))) := .put (by omega) hf1 _
        obtain ⟨hj2, hfp2⟩ := hJ.step _ _ _ hj hst
        refine ⟨none, _, by have := run_endLoop (P := S.P) hl (by rw [hrec]; simp); rw [hrec] at this; exact this, ?_⟩
        rw [hrec] at hj2 hfp2
        exact ⟨⟨E.vs, { target := .collected w.heap.size, args := #[] } :: E.ds⟩, ⟨ha.size, by simp [ha.defers], ha.val⟩, hdone w.heap.size _ (Nat.le_refl _) (fun h => hf2 (hfp2 _ h)) hj2 ((heap_put_old (by omega)).trans hk)⟩
      · have hst : Step w.heap.size Fp W2 (W2.putObj (w.heap.size + 1) (.loop (rec .exhausted (some c)))) := .put (by omega) hf1 _
        obtain ⟨hj2, hfp2⟩ := (hJx ex).step _ _ _ hj hst
        refine ⟨some c, _, by have := run_endLoop (P := S.P) hl (by rw [hrec]; simp); rw [hrec] at this; exact this, ?_⟩
        rw [hrec] at hj2 hfp2
        have hq := hstop w.heap.size ex pre _ (Nat.le_refl _) (fun h => hf2 (hfp2 _ h)) hpre hj2 ((heap_put_old (by omega)).trans hk)
        rcases hc with ⟨rfl, rfl⟩ | ⟨id, rfl, rfl⟩
        · exact wpIn_ret ⟨⟨E.vs, { target := .collected w.heap.size, args := #[] } :: E.ds⟩, ⟨ha.size, by simp [ha.defers], ha.val⟩, hq⟩
        · exact wpIn_exit ⟨⟨E.vs, { target := .collected w.heap.size, args := #[] } :: E.ds⟩, ⟨ha.size, by simp [ha.defers], ha.val⟩, hq⟩
    · -- one round
      rintro pre x W ⟨hj, hl, hk, hf1, hf2⟩ hpre
      have hy := run_yield (P := S.P) (args := (enc x).toArray) hl (by rw [hrec]; simpa using hps x)
      rw [hrec] at hy
      refine ⟨fn, _, assign, body, hy, roundIn_any (r := none) (n := NN) (roundIn_of_wpIn (F := FR none) trivial ?_)⟩
      have hag : Agrees (sr S (w.heap.size + 1)) { tmps := (ps.zip (enc x).toArray).foldl (fun t (p, v) => t.setIfInBounds p v) a.tmps, defers := [] } ⟨setL ps.toList (enc x) E.vs, []⟩ := by
        have h1 : Agrees (sr S (w.heap.size + 1)) { a with defers := [] } ⟨E.vs, []⟩ := ⟨ha.size, rfl, ha.val⟩
        have h2 := setL_agrees ps.toList (enc x) _ _ h1 hpn
        have e : (ps.zip (enc x).toArray).foldl (fun t (p, v) => t.setIfInBounds p v) a.tmps = (ps.toList.zip (enc x)).foldl (fun t (p, v) => t.setIfInBounds p v) a.tmps := by
          rw [← Array.foldl_toList]; simp
        rw [e]; exact h2
      have hw := wpE_sound (sr_ok hS _) assign _ _ W _ hag (hround (w.heap.size + 1) pre x W (by omega) hpre hj hf1 (hlt hl))
      refine wpIn_mono hw ?_
      rintro ex a1 Wa ⟨E1, hag1, rfl, hk1, hj1, hbody⟩
      have hla := (hk1.same _ (hlt hl) hf1).trans hl
      have hka := (hk1.same _ (hlt hk) hf2).trans hk
      have hfa1 : ¬ Fp Wa (w.heap.size + 1) := fun h => by rcases hk1.fp _ h with h | h; exact hf1 h; have := hlt hl; omega
      have hfa2 : ¬ Fp Wa w.heap.size := fun h => by rcases hk1.fp _ h with h | h; exact hf2 h; have := hlt hk; omega
      refine ⟨_, run_beginRound hla (by rw [hrec]), ?_⟩
      have hst : Step w.heap.size Fp Wa (Wa.putObj (w.heap.size + 1) (.loop { rec .ready none with state := .busy })) := .put (by omega) hfa1 _
      obtain ⟨hj2, hfp2⟩ := hJ.step _ _ _ hj1 hst
      have hw2 := wpE_sound (sr_ok hS _) body _ _ _ _ hag1 (hbody _ _ rfl hj2 hfp2)
      refine wpIn_mono hw2 ?_
      have hl2 : (Wa.putObj (w.heap.size + 1) (.loop { rec .ready none with state := .busy })).heap[w.heap.size + 1]? = some (.loop { rec .ready none with state := .busy }) := heap_put hla
      have hk2 : (Wa.putObj (w.heap.size + 1) (.loop { rec .ready none with state := .busy })).heap[w.heap.size]? = some (.deferred (some [])) := (heap_put_old (by omega)).trans hka
      have hfb1 : ¬ Fp (Wa.putObj (w.heap.size + 1) (.loop { rec .ready none with state := .busy })) (w.heap.size + 1) := fun h => hfa1 (hfp2 _ h)
      have hfb2 : ¬ Fp (Wa.putObj (w.heap.size + 1) (.loop { rec .ready none with state := .busy })) w.heap.size := fun h => hfa2 (hfp2 _ h)
      have fin : ∀ (jump : Option Code) (W3 : World), Keeps Fp (Wa.putObj (w.heap.size + 1) (.loop { rec .ready none with state := .busy })) W3 →
          (Instr.endRound (w.heap.size + 1) jump).run S.P W3 = .ok (.bool jump.isNone) (W3.putObj (w.heap.size + 1) (.loop (rec (if jump.isNone then .ready else .done) jump))) ∧
          (W3.putObj (w.heap.size + 1) (.loop (rec (if jump.isNone then .ready else .done) jump))).heap[w.heap.size + 1]? = some (.loop (rec (if jump.isNone then .ready else .done) jump)) ∧
          (W3.putObj (w.heap.size + 1) (.loop (rec (if jump.isNone then .ready else .done) jump))).heap[w.heap.size]? = some (.deferred (some [])) ∧
          Step w.heap.size Fp W3 (W3.putObj (w.heap.size + 1) (.loop (rec (if jump.isNone then .ready else .done) jump))) ∧ ¬ Fp W3 (w.heap.size + 1) ∧ ¬ Fp W3 w.heap.size := fun jump W3 hk3 => by
        have hl3 := (hk3.same _ (hlt hl2) hfb1).trans hl2
        have hd3 := (hk3.same _ (hlt hk2) hfb2).trans hk2
        have hf31 : ¬ Fp W3 (w.heap.size + 1) := fun h => by rcases hk3.fp _ h with h | h; exact hfb1 h; have := hlt hl2; omega
        have hf32 : ¬ Fp W3 w.heap.size := fun h => by rcases hk3.fp _ h with h | h; exact hfb2 h; have := hlt hk2; omega
        have := run_endRound (P := S.P) jump hl3
        rw [hrec] at this ⊢
        exact ⟨this, heap_put hl3, (heap_put_old (by omega)).trans hd3, .put (by omega) hf31 _, hf31, hf32⟩
      rintro e a3 W3 ⟨E3, _, hq⟩
      cases e with
      | normal =>
        obtain ⟨hj3, hk3⟩ := hq
        obtain ⟨hr3, hl4, hk4, hs3, hf31, hf32⟩ := fin none W3 hk3
        obtain ⟨hj4, hfp4⟩ := hJ.step _ _ _ hj3 hs3
        refine ⟨_, _, hr3, .inl ⟨rfl, ⟨hj4, hl4, hk4, fun h => hf31 (hfp4 _ h), fun h => hf32 (hfp4 _ h)⟩, ?_⟩⟩
        refine ⟨hs3.os.trans (hk3.os.trans hk1.os), hs3.tape.trans (hk3.tape.trans hk1.tape), hs3.output.trans (hk3.output.trans hk1.output), ?_, fun k hk5 hf5 => ?_, fun k hk5 => ?_⟩
        · have h1 := hk1.size; have h2 := hst.size; have h3 := hk3.size; have h4 := hs3.size; omega
        · by_cases hkl : k = w.heap.size + 1
          · subst hkl; rw [hl4, hl]; rfl
          · have h1 : ¬ Fp Wa k := fun h => by rcases hk1.fp _ h with h | h; exact hf5 h; omega
            have h2 := hk1.size; have h3 := hst.size
            rw [heap_put_old hkl, hk3.same k (by omega) (fun h => h1 (hfp2 _ h)), heap_put_old hkl]
            exact hk1.same k hk5 hf5
        · have h1 := hfp4 _ hk5
          rcases hk3.fp _ h1 with h2 | h2
          · exact hk1.fp _ (hfp2 _ h2)
          · have h3 := hk1.size; have h4 := hst.size; exact .inr (by omega)
      | ret =>
        obtain ⟨hj3, hk3⟩ := hq
        obtain ⟨hr3, hl4, hk4, hs3, hf31, hf32⟩ := fin (some .ret) W3 hk3
        obtain ⟨hj4, hfp4⟩ := (hJx .ret).step _ _ _ hj3 hs3
        exact ⟨_, _, hr3, .inr ⟨rfl, .ret, .ret, .inl ⟨rfl, rfl⟩, hj4, hl4, hk4, fun h => hf31 (hfp4 _ h), fun h => hf32 (hfp4 _ h)⟩⟩
      | exit id =>
        obtain ⟨hj3, hk3⟩ := hq
        obtain ⟨hr3, hl4, hk4, hs3, hf31, hf32⟩ := fin (some (.exit id)) W3 hk3
        obtain ⟨hj4, hfp4⟩ := (hJx (.exit id)).step _ _ _ hj3 hs3
        exact ⟨_, _, hr3, .inr ⟨rfl, .exit id, .exit id, .inr ⟨id, rfl, rfl⟩, hj4, hl4, hk4, fun h => hf31 (hfp4 _ h), fun h => hf32 (hfp4 _ h)⟩⟩
      | goto t => exact hq.elim
      | panic ch => exact hq.elim
      | outgrown => exact hq.elim
theorem store_new {P : Program} {X : World} {T : TypeId} {iT : TI} (hT : TIok P T iT) {cs : Array Value} {t : TypeId} {v : Value} (hv : v.cells.size = iT.size) (hc : cs.size = iT.size)
    (h0 : v.cells.toList.all Value.oneCell' = true) {K : World → Prop}
    (k : ∀ Y, Below X.heap.size X Y → Y.heap[X.heap.size]? = some (.cells v.cells t (0, 0)) → Y.heap.size = X.heap.size + 1 → K Y) :
    SatR ((storeVar T ⟨X.heap.size, 0, none⟩ v).run P (X.alloc (.cells cs t))) fun _ w' => K w' :=
  store_box hT (hnew X _) hv hc h0 (k _ (below_setRow ((Below.refl _ X).alloc (Nat.le_refl _) _) (Nat.le_refl _) _) (setRow_new (hnew X _)) (by simp))
theorem DrawE.tree {S : Sig} {ops : Array Oper} {E : Env} {w : World} {K : Env → World → Prop} {QP : List PanicEntry → World → Prop} (X : List Nat) (T : OT)
    (h : (covT (indepB S.τ X ops) ops ops.size (Array.replicate ops.size false) T && ops.all (fun o => noSel o.op)) = true) (k : opsT S ops.toList X QP T E w.drew K) : DrawE S ops E w K QP :=
  .inr ⟨X, T, h, k⟩
end Go.Vc
namespace Go.Proofs.YthgmcegmgjoafaaGreatDoor
open Go.Vc Go.RowKit Go.Sei
theorem eq_u8 (d : Nat) (x y : UInt8) (w : World) : (Op.equalIn (d + 1) 5 (u8 x) (u8 y)).run Tryz.prog w = .ok (decide (x = y)) w := by
  simp only [Op.equalIn, Sem.run_bind, run_underlying Tryz.underlying5, Result.andThen_ok, u8, if_true, Sem.run_pure]
  congr 1
  by_cases h : x = y
  · simp [h]
  · simp [h, u8_eq]
theorem eq_bool' (d : Nat) (a b : Bool) (w : World) : (Op.equalIn (d + 1) 4 (.bool a) (.bool b)).run Tryz.prog w = .ok (decide (a = b)) w := by
  simp only [Op.equalIn, Sem.run_bind, run_underlying Tryz.underlying4, Result.andThen_ok, Sem.run_pure]
  cases a <;> cases b <;> rfl
theorem part_u8 {cs : List Value} {i : Nat} {v : UInt8} (w : World) (h : cs[i]? = some (u8 v)) : (part 5 cs.toArray i).run Tryz.prog w = .ok (u8 v) w := by
  simp only [part, Sem.run_bind, Tryz.isAgg5, Result.andThen_ok, Bool.false_eq_true, if_false]
  have : cs.toArray[i]? = some (u8 v) := by simpa using h
  rw [this]; rfl
theorem part_bool {cs : List Value} {i : Nat} {v : Bool} (w : World) (h : cs[i]? = some (.bool v)) : (part 4 cs.toArray i).run Tryz.prog w = .ok (.bool v) w := by
  simp only [part, Sem.run_bind, Tryz.isAgg4, Result.andThen_ok, Bool.false_eq_true, if_false]
  have : cs.toArray[i]? = some (.bool v) := by simpa using h
  rw [this]; rfl
def dcells (a b c d : UInt8) : List Value := [u8 a, u8 b, u8 c, u8 d]
theorem eq_data (d : Nat) (a b c e a' b' c' e' : UInt8) (w : World) : (Op.equalIn (d + 2) 51 (.agg (dcells a b c e).toArray) (.agg (dcells a' b' c' e').toArray)).run Tryz.prog w = .ok (decide (a = a') && decide (b = b') && decide (c = c') && decide (e = e')) w := by
  have hc : Tryz.prog.cellsOf 5 = 1 := by kernel_rfl
  obtain ⟨⟨inf, hi⟩, _⟩ : Known Tryz.prog 5 := known_of (by kernel_rfl) (by kernel_rfl)
  have hp := fun (a b c e : UInt8) (w : World) => part_u8 (cs := dcells a b c e) (i := 0) (v := a) w rfl
  have hp1 := fun (a b c e : UInt8) (w : World) => part_u8 (cs := dcells a b c e) (i := 1) (v := b) w rfl
  have hp2 := fun (a b c e : UInt8) (w : World) => part_u8 (cs := dcells a b c e) (i := 2) (v := c) w rfl
  have hp3 := fun (a b c e : UInt8) (w : World) => part_u8 (cs := dcells a b c e) (i := 3) (v := e) w rfl
  rw [run_equalIn_array w (d + 1) _ _ Tryz.underlying51 hi, hc]
  simp only [List.range, List.range.loop, Op.eqItems, Sem.run_bind, Sem.run_ite, Nat.mul_one, hp, hp1, hp2, hp3, Result.andThen_ok, eq_u8]
  by_cases h1 : a = a' <;> by_cases h2 : b = b' <;> by_cases h3 : c = c' <;> by_cases h4 : e = e' <;> simp [h1, h2, h3, h4]
theorem part_data (m : Msg) (w : World) : (part 51 m.enc.toArray 7).run Tryz.prog w = .ok (.agg (dcells m.d0 m.d1 m.d2 m.d3).toArray) w := by
  have hs : (sizeOf 51).run Tryz.prog w = .ok 4 w := by
    have h : (Tryz.prog.info? 51).map (·.size) = some 4 := by kernel_rfl
    cases hi : Tryz.prog.info? 51 with
    | none => rw [hi] at h; cases h
    | some inf =>
      rw [hi] at h
      have h : inf.size = 4 := Option.some.inj h
      simp [sizeOf, typeInfo, hi, h]
  simp only [part, Sem.run_bind, Tryz.isAgg51, Result.andThen_ok, if_true, hs]
  rfl
theorem eq_msg (d : Nat) (m n : Msg) (w : World) : (Op.equalIn (d + 3) 53 m.val n.val).run Tryz.prog w = .ok (decide (m = n)) w := by
  have hf : Tryz.prog.underlying 53 = some (.struct (Tryz.prog.fieldsOf 53)) := by
    unfold Program.fieldsOf; rw [Tryz.underlying53]
  have hs : Tryz.prog.stoodInHeld 53 = false := by kernel_rfl
  rw [Msg.val, Msg.val, run_equalIn_struct w (d + 2) _ _ _ hf hs]
  unfold Program.fieldsOf; rw [Tryz.underlying53]
  have p0 := fun (m : Msg) (w : World) => part_u8 (cs := m.enc) (i := 0) (v := m.kind) w rfl
  have p1 := fun (m : Msg) (w : World) => part_u8 (cs := m.enc) (i := 1) (v := m.from_) w rfl
  have p2 := fun (m : Msg) (w : World) => part_u8 (cs := m.enc) (i := 2) (v := m.to) w rfl
  have p3 := fun (m : Msg) (w : World) => part_u8 (cs := m.enc) (i := 3) (v := m.line) w rfl
  have p4 := fun (m : Msg) (w : World) => part_u8 (cs := m.enc) (i := 4) (v := m.asker) w rfl
  have p5 := fun (m : Msg) (w : World) => part_u8 (cs := m.enc) (i := 5) (v := m.acks) w rfl
  have p6 := fun (m : Msg) (w : World) => part_bool (cs := m.enc) (i := 6) (v := m.alone) w rfl
  obtain ⟨e, he⟩ : ∃ e, e = d + 1 := ⟨_, rfl⟩
  have q0 := fun x y w => eq_u8 (d + 1) x y w
  have q1 := fun x y w => eq_bool' (d + 1) x y w
  have q2 := fun a b c f a' b' c' f' w => eq_data d a b c f a' b' c' f' w
  simp only [Op.eqFields, ne_eq, String.reduceEq, not_false_eq_true, if_true, Sem.run_bind, Sem.run_ite, p0, p1, p2, p3, p4, p5, p6, part_data, Result.andThen_ok, q0, q1, q2, Sem.run_pure]
  obtain ⟨a0, a1, a2, a3, a4, a5, a6, a7, a8, a9, a10⟩ := m
  obtain ⟨b0, b1, b2, b3, b4, b5, b6, b7, b8, b9, b10⟩ := n
  simp only [Msg.mk.injEq]
  by_cases h0 : a0 = b0
  · by_cases h1 : a1 = b1
    · by_cases h2 : a2 = b2
      · by_cases h3 : a3 = b3
        · by_cases h4 : a4 = b4
          · by_cases h5 : a5 = b5
            · by_cases h6 : a6 = b6
              · simp [h0, h1, h2, h3, h4, h5, h6]
                by_cases h7 : a7 = b7 <;> by_cases h8 : a8 = b8 <;> by_cases h9 : a9 = b9 <;> by_cases h10 : a10 = b10 <;> simp [h7, h8, h9, h10]
              · simp [h0, h1, h2, h3, h4, h5, h6]
            · simp [h0, h1, h2, h3, h4, h5]
          · simp [h0, h1, h2, h3, h4]
        · simp [h0, h1, h2, h3]
      · simp [h0, h1, h2]
    · simp [h0, h1]
  · simp [h0]
theorem neq_msg (x y : Operand) (m n : Msg) (w : World) : (do eqGuard .neq 53 x y m.val n.val; binOp .neq 53 m.val n.val).run Tryz.prog w = .ok (.bool (!decide (m = n))) w := by
  have h : (Op.equal 53 m.val n.val).run Tryz.prog w = .ok (decide (m = n)) w := eq_msg 9997 m n w
  have hg : Tryz.prog.eqGuardType Tryz.prog.depth 53 = false := by kernel_rfl
  have h1 : (eqGuard .neq 53 x y m.val n.val).run Tryz.prog w = .ok () w := by
    simp only [eqGuard, Msg.val, Bool.not_true, Bool.false_eq_true, if_false, Sem.run_bind, run_program, Result.andThen_ok, hg, Bool.not_false, if_true, Sem.run_pure]
  rw [Sem.run_bind, h1]
  rw [Msg.val, Msg.val] at h
  simp only [Result.andThen_ok, binOp, Msg.val, Sem.run_bind, h, Sem.run_pure]
end Go.Proofs.YthgmcegmgjoafaaGreatDoor
namespace Go.Proofs.YthgmcegmgjoafaaGreatDoor
open Go.Vc Go.RowKit Go.Sei
theorem nt {a b : Int} (h : (!decide (a = b)) = true) : ¬ a = b := by simpa using h
theorem nf {a b : Int} (h : (!decide (a = b)) = false) : a = b := by simpa using h
theorem SameMsgs_c (p1 p2 : Option Addr) (cap1 cap2 : Nat) (l1 l2 : List Msg) (w : World) (h1 : SlR Msg.E w p1 l1) (h2 : SlR Msg.E w p2 l2) (hn : l1.length ≤ 1000000000) :
    Calls Tryz.prog 79 #[.slice p1 l1.length cap1, .slice p2 l2.length cap2] w fun e w' => e = .returned (.bool (decide (l1 = l2))) ∧ Below w.heap.size w w' := by
  refine calls_of_E (S := sg 26) (sgOk _) (args := [.slice p1 l1.length cap1, .slice p2 l2.length cap2]) Tryz.func79 rfl rfl (Nat.le_of_ble_eq_true rfl) rfl ?_
  refine And.intro (fun h => ?_) (fun h => ?_)
  · have h := nt h
    refine And.intro (rb ?_) (Below.refl _ _)
    rw [decide_eq_false (fun e => h (by rw [e]))]
  have h := nf h
  refine ⟨Nat, fun k => ⟨[(0, .slice p1 l1.length cap1), (1, .slice p2 l2.length cap2), (4, .bool false), (5, .int .i64 (k : Nat))], []⟩,
    fun k X => k ≤ l1.length ∧ Below w.heap.size w X ∧ l1.take k = l2.take k, fun k => l1.length - k, 0, ⟨.cons rfl (.cons rfl (.cons rfl (.cons rfl .nil))), rfl⟩, ⟨Nat.zero_le _, Below.refl _ _, by simp⟩, ?_⟩
  rintro k X ⟨hk, hbX, hm⟩
  refine And.intro (fun h => ?_) (fun h => ?_)
  · have h := of_decide_eq_true h
    have hkl : k < l1.length := by omega
    have hkl2 : k < l2.length := by omega
    obtain ⟨b1, o1, rfl, hb1, hc1⟩ := (h1.below hbX.drew).at hkl
    obtain ⟨b2, o2, rfl, hb2, hc2⟩ := (h2.below hbX.drew).at hkl2
    refine DrawE.ord [] [0, 1, 2, 3, 4, 5, 6, 7, 8] (by kernel_rfl) ?_
    refine ⟨k, rfl, hkl, ?_⟩
    refine ⟨l1[k].enc, rfl, hc1 k hkl, hb1, ?_⟩
    refine ⟨k, rfl, hkl2, ?_⟩
    refine ⟨l2[k].enc, rfl, hc2 k hkl2, hb2, ?_⟩
    refine ⟨_, fun w => neq_msg _ _ l1[k] l2[k] w, ?_⟩
    refine And.intro (fun h => ?_) (fun h => ?_)
    · have h : ¬ l1[k] = l2[k] := by simpa using h
      refine And.intro (rb ?_) hbX.drew
      rw [decide_eq_false (fun e => h (by simp only [e]))]
    · have h : l1[k] = l2[k] := by simpa using h
      refine ⟨_, wrap_i64 (by omega), ?_⟩
      refine ⟨k + 1, ⟨.cons rfl (.cons rfl (.cons rfl (.cons rfl .nil))), rfl⟩, ⟨hkl, hbX.drew, ?_⟩, by dsimp only; omega⟩
      rw [List.take_succ_eq_append_getElem hkl, List.take_succ_eq_append_getElem hkl2, hm, h]
  · have h := of_decide_eq_false h
    refine And.intro (rb ?_) hbX
    rw [List.take_of_length_le (by omega), List.take_of_length_le (by omega)] at hm
    rw [decide_eq_true hm]
end Go.Proofs.YthgmcegmgjoafaaGreatDoor
namespace Go.Sei
def isLet (c : UInt8) : Bool := (decide ((97 : Int) ≤ c.toNat) && decide ((c.toNat : Int) ≤ 122)) || (decide ((65 : Int) ≤ c.toNat) && decide ((c.toNat : Int) ≤ 90))
def isDig (c : UInt8) : Bool := decide ((48 : Int) ≤ c.toNat) && decide ((c.toNat : Int) ≤ 57)
def eqB (c : UInt8) (k : Int) : Bool := decide ((c.toNat : Int) = k)
def markB (c : UInt8) : Bool := eqB c 61 || (eqB c 43 || (eqB c 45 || (eqB c 94 || (eqB c 38 || (eqB c 124 || (eqB c 33 || (eqB c 40 || (eqB c 41 || (eqB c 58 || eqB c 60)))))))))
def clsL (c : UInt8) : Nat :=
  bif isLet c then 3 else bif isDig c then 4 else bif eqB c 32 || eqB c 9 then 1 else bif eqB c 10 then 2 else bif eqB c 95 then 5 else bif eqB c 35 then 7 else bif markB c then 6 else 0
def inWordL (c : UInt8) : Bool := decide (clsL c = 3) || (decide (clsL c = 4) || decide (clsL c = 5))
def runOf (p : UInt8 → Bool) : List UInt8 → Nat
  | [] => 0
  | c :: r => if p c then runOf p r + 1 else 0
theorem runOf_le (p : UInt8 → Bool) : ∀ l, runOf p l ≤ l.length
  | [] => Nat.le_refl _
  | c :: r => by
    unfold runOf
    split
    · exact Nat.succ_le_succ (runOf_le p r)
    · exact Nat.zero_le _
def blankB (c : UInt8) : Bool := decide (clsL c = 1)
def notNl (c : UInt8) : Bool := !decide (clsL c = 2)
def digB (c : UInt8) : Bool := decide (clsL c = 4)
def blanksL (s : List UInt8) (a : Nat) : Nat := a + runOf blankB (s.drop a)
def passL (s : List UInt8) (a : Nat) : Nat :=
  match s[blanksL s a]? with
  | some c => if clsL c = 7 then blanksL s a + runOf notNl (s.drop (blanksL s a)) else blanksL s a
  | none => blanksL s a
structure Tok where
  kind : UInt8
  text : List UInt8
  pos : Nat
  deriving DecidableEq
def endL (s : List UInt8) (a : Nat) (c : UInt8) : Nat :=
  if clsL c = 3 then a + 1 + runOf inWordL (s.drop (a + 1)) else if clsL c = 4 then a + 1 + runOf digB (s.drop (a + 1)) else
    if (eqB c 61 || eqB c 33) && decide (s[a + 1]? = some 61) then a + 2 else a + 1
def kindL (c : UInt8) : UInt8 := if clsL c = 3 then 1 else if clsL c = 4 then 2 else 3
def tokL (s : List UInt8) (a : Nat) (c : UInt8) : Tok := ⟨kindL c, (s.drop a).take (endL s a c - a), a⟩
def atEndL (s : List UInt8) (a : Nat) : Bool := match s[a]? with
  | some c => decide (clsL c = 2)
  | none => true
def nextX (s : List UInt8) : Nat → Nat → Bool → Option (Tok × Nat × Bool)
  | 0, _, _ => none
  | f + 1, a, op => match s[passL s a]? with
    | some c => if clsL c = 2 then (if op then some (⟨4, [], passL s a⟩, min (passL s a + 1) s.length, false) else nextX s f (min (passL s a + 1) s.length) false)
      else some (tokL s (passL s a) c, endL s (passL s a) c, true)
    | none => if op then some (⟨4, [], passL s a⟩, min (passL s a + 1) s.length, false) else none
def toksL (s : List UInt8) : Nat → Nat → Bool → List Tok
  | 0, _, _ => []
  | f + 1, a, op => match nextX s (s.length + 2) a op with
    | some (t, a', op') => t :: toksL s f a' op'
    | none => []
def numL (s : List UInt8) : Bool := decide (1 ≤ s.length) && (decide (s.length ≤ 3) && (!(decide (s.head? = some 48) && decide (1 < s.length)) && (s.all digB && decide (s.foldl (fun v c => 10 * v + (c.toNat - 48)) 0 ≤ 255))))
def faultL (t : Tok) : Int :=
  if t.kind = 1 then (if 16 < t.text.length then 42 else 0) else if t.kind = 2 then (if numL t.text then 0 else 41) else
  if t.kind = 3 then (match t.text with | c :: _ => if clsL c = 6 then 0 else 40 | [] => 0) else 0
def toksOf (s : List UInt8) : List Tok := toksL s (2 * s.length + 3) 0 false
def twoB (l : List Tok) (s : List UInt8) : Bool := match l with
  | [t, _] => decide (t.kind = 1) && decide (t.text = s)
  | _ => false
def isWordL (s : List UInt8) : Bool := decide (s.length ≤ 16384) && ((toksOf s).all (fun t => decide (faultL t = 0)) && twoB (toksOf s) s)
end Go.Sei
namespace Go.Proofs.YthgmcegmgjoafaaGreatDoor
open Go.Vc Go.RowKit Go.Sei
def bs (l : List UInt8) : ByteArray := ⟨l.toArray⟩
def strV (l : List UInt8) : Value := .string (bs l)
theorem bs_list (l : List UInt8) : (bs l).data.toList = l := rfl
theorem bs_inj {a b : List UInt8} (h : bs a = bs b) : a = b := by
  have := congrArg (fun x : ByteArray => x.data.toList) h
  exact this
theorem eql_str (x y : Operand) (a b : List UInt8) (w : World) : (do eqGuard .eql 9 x y (strV a) (strV b); binOp .eql 9 (strV a) (strV b)).run Tryz.prog w = .ok (.bool (decide (a = b))) w := by
  have h1 : (eqGuard .eql 9 x y (strV a) (strV b)).run Tryz.prog w = .ok () w := rfl
  rw [Sem.run_bind, h1, Result.andThen_ok]
  show (Op.stringOp .eql (bs a) (bs b)).run Tryz.prog w = _
  simp only [Op.stringOp, Sem.run_pure, ByteArray.toList_eq, bs_list]
  have hd : (a == b) = decide (a = b) := by by_cases h : a = b <;> simp [h]
  rw [hd]
theorem neq_str (x y : Operand) (a b : List UInt8) (w : World) : (do eqGuard .neq 9 x y (strV a) (strV b); binOp .neq 9 (strV a) (strV b)).run Tryz.prog w = .ok (.bool (!decide (a = b))) w := by
  have h1 : (eqGuard .neq 9 x y (strV a) (strV b)).run Tryz.prog w = .ok () w := rfl
  rw [Sem.run_bind, h1, Result.andThen_ok]
  show (Op.stringOp .neq (bs a) (bs b)).run Tryz.prog w = _
  simp only [Op.stringOp, Sem.run_pure, ByteArray.toList_eq, bs_list]
  have hd : (a == b) = decide (a = b) := by by_cases h : a = b <;> simp [h]
  rw [hd]
theorem strOfNums_u8 (l : List UInt8) : strOfNums (l.map fun b => (b.toNat : Int)) = bs l := by
  unfold strOfNums bs
  congr 2
  rw [List.map_map]
  conv => rhs; rw [← List.map_id l]
  refine List.map_congr_left fun b _ => ?_
  simp
theorem conv_arg {w : World} {p : Option Addr} {cap : Nat} {l : List UInt8} (h : SlR byteE w p l) (w2 : World) (hb : Below w.heap.size w w2) :
    (convert 23 9 (.slice p l.length cap)).run Tryz.prog w2 = .ok (strV l) w2 := by
  have h2 := h.below hb
  cases p with
  | none =>
    have hl : l = [] := h2.none
    subst hl
    exact run_convert_bytes_nil (P := Tryz.prog) (w := w2) 23 5 Tryz.underlying23 Tryz.underlying5 0 cap 9 Tryz.underlying9
  | some a =>
    cases l with
    | nil =>
      obtain ⟨b, o, f⟩ := a
      have := run_convert_bytes_string w2 23 9 5 (some ⟨b, o, f⟩) 0 cap Tryz.underlying23 Tryz.underlying5 Tryz.underlying9
      rw [show ([] : List UInt8).length = 0 from rfl, this]
      rfl
    | cons x r =>
      obtain ⟨b, o, hp, hbk, hcl⟩ := h2.at (i := 0) (by simp)
      obtain rfl := Option.some.inj hp
      have := run_convert_bytes_arg (P := Tryz.prog) w2 23 5 Tryz.underlying23 Tryz.underlying5 b o (x :: r).length cap ((x :: r).map fun b => (b.toNat : Int)) (by simp) (fun i hi => by
        have h3 : w2.cell? ⟨b, o + i * 1, none⟩ = some (u8 ((x :: r)[i]'hi)) := cells_head (hcl i hi)
        rw [Nat.mul_one] at h3
        have h4 : ((x :: r).map fun b => (b.toNat : Int)).getD i 0 = (((x :: r)[i]'hi).toNat : Int) := by
          rw [List.getD_eq_getElem?_getD, List.getElem?_map, List.getElem?_eq_getElem hi]; rfl
        rw [h3, h4]; rfl) 9 Tryz.underlying9
      rw [this, strOfNums_u8]; rfl
end Go.Proofs.YthgmcegmgjoafaaGreatDoor
namespace Go.Vc
open Go.RowKit
inductive Mk where
  | p
  | s (a b : Mk)
  | c (a b : Mk)
  | d (a b : Mk)
  | b (a : Mk)
  | l (a : Mk)
def CutE (first : (Exit → Env → World → Prop) → Prop) (second : Env → World → (Exit → Env → World → Prop) → Prop) (Q : Exit → Env → World → Prop) : Prop :=
  ∃ (σ : Type) (env : σ → Env) (inv : σ → World → Prop), (first fun ex E' w' => match ex with
    | .normal => ∃ s, Cov E' (env s) ∧ inv s w'
    | ex => Q ex E' w') ∧ ∀ s w', inv s w' → second (env s) w' Q
noncomputable def wpM (S : Sig) (m : Mk) : Code → Env → World → (Exit → Env → World → Prop) → Prop :=
  Mk.rec (motive := fun _ => Code → Env → World → (Exit → Env → World → Prop) → Prop)
    (fun c E w Q => wpE S c E w Q)
    (fun _ _ ia ib c E w Q => match c with
      | .seq x y => ia x E w fun ex E' w' => match ex with
        | .normal => ib y E' w' Q
        | ex => Q ex E' w'
      | _ => False)
    (fun _ _ ia ib c E w Q => match c with
      | .seq x y => CutE (fun Q => ia x E w Q) (fun E w Q => ib y E w Q) Q
      | _ => False)
    (fun _ _ ia ib c E w Q => match c with
      | .cond c x y => (match opd E c with
        | some (.bool v) => Br v (ia x E w Q) (ib y E w Q)
        | _ => False)
      | _ => False)
    (fun _ ia c E w Q => match c with
      | .block id x => ia x E w fun ex E' w' => match ex with
        | .exit id' => (match Nat.beq id' id with
          | true => Q .normal E' w'
          | false => Q (.exit id') E' w')
        | ex => Q ex E' w'
      | _ => False)
    (fun _ ia c E w Q => match c with
      | .loop x => LoopE (fun E w Q => ia x E w Q) E w Q
      | _ => False)
    m
section
variable {S : Sig}
theorem wpM_sound (hS : SigOk S) : ∀ (m : Mk) (c : Code) (E : Env) (a : Act) (w : World) (Q : Exit → Env → World → Prop), Agrees S a E → wpM S m c E w Q → c.wpIn (FR S.r) NN S.P (lift S Q) a w
  | .p, c, E, a, w, Q, ha, h => wpE_sound hS c E a w Q ha h
  | .s m k, .seq x y, E, a, w, Q, ha, h => by
    replace h : (wpM S m x E w fun ex E' w' => match ex with | .normal => wpM S k y E' w' Q | ex => Q ex E' w') := h
    refine wpIn_seq ?_
    refine wpIn_mono (wpM_sound hS m x E a w _ ha h) ?_
    rintro ex a' w' ⟨E', ha', hq⟩
    cases ex with
    | normal => exact wpM_sound hS k y E' a' w' Q ha' hq
    | _ => exact ⟨E', ha', hq⟩
  | .c m k, .seq x y, E, a, w, Q, ha, h => by
    replace h : CutE (fun Q => wpM S m x E w Q) (fun E w Q => wpM S k y E w Q) Q := h
    obtain ⟨σ, env, inv, h1, h2⟩ := h
    refine wpIn_seq ?_
    refine wpIn_mono (wpM_sound hS m x E a w _ ha h1) ?_
    rintro ex a' w' ⟨E', ha', hq⟩
    cases ex with
    | normal =>
      obtain ⟨s, hc, hi⟩ := hq
      exact wpM_sound hS k y (env s) a' w' Q (ha'.cov hc) (h2 s w' hi)
    | _ => exact ⟨E', ha', hq⟩
  | .d m k, .cond c x y, E, a, w, Q, ha, h => by
    replace h : (match opd E c with | some (.bool v) => Br v (wpM S m x E w Q) (wpM S k y E w Q) | _ => False) := h
    split at h
    · rename_i b hb
      refine wpIn_cond_split (ha.eval hb) (fun e => wpM_sound hS m x E a w Q ha (h.1 e)) (fun e => wpM_sound hS k y E a w Q ha (h.2 e))
    · exact h.elim
  | .b m, .block id x, E, a, w, Q, ha, h => by
    replace h : (wpM S m x E w fun ex E' w' => match ex with | .exit id' => (match Nat.beq id' id with | true => Q .normal E' w' | false => Q (.exit id') E' w') | ex => Q ex E' w') := h
    refine wpIn_block ?_
    refine wpIn_mono (wpM_sound hS m x E a w _ ha h) ?_
    rintro ex a' w' ⟨E', ha', hq⟩
    cases ex with
    | exit id' =>
      simp only [Exit.inBlock]
      dsimp only at hq
      split at hq
      · rename_i hb; rw [if_pos (Nat.eq_of_beq_eq_true hb)]; exact ⟨E', ha', hq⟩
      · rename_i hb; rw [if_neg (Nat.ne_of_beq_eq_false hb)]; exact ⟨E', ha', hq⟩
    | _ => exact ⟨E', ha', hq⟩
  | .l m, .loop x, E, a, w, Q, ha, h => by
    replace h : LoopE (fun E w Q => wpM S m x E w Q) E w Q := h
    obtain ⟨σ, env, inv, μ, s0, hc, hi, hb⟩ := h
    have key : ∀ m s a w, μ s = m → Agrees S a (env s) → inv s w → (Code.loop x).wpIn (FR S.r) NN S.P (lift S Q) a w := by
      intro m' s a w hm ha hi
      refine wpIn_loop (fun a w => ∃ s, Agrees S a (env s) ∧ inv s w) (fun a w => leastOf (fun k => ∃ s, Agrees S a (env s) ∧ inv s w ∧ μ s = k)) ⟨s, ha, hi⟩ ?_
      intro a w ⟨s1, ha1, hi1⟩
      obtain ⟨⟨s2, ha2, hi2, hm2⟩, _⟩ := leastOf_spec (p := fun k => ∃ s, Agrees S a (env s) ∧ inv s w ∧ μ s = k) ⟨_, s1, ha1, hi1, rfl⟩
      refine wpIn_mono (wpM_sound hS m x (env s2) a w _ ha2 (hb s2 w hi2)) ?_
      rintro ex a' w' ⟨E', ha', hq⟩
      cases ex with
      | normal =>
        obtain ⟨s', hc', hi', hlt⟩ := hq
        refine ⟨⟨s', ha'.cov hc', hi'⟩, ?_⟩
        have := (leastOf_spec (p := fun k => ∃ s, Agrees S a' (env s) ∧ inv s w' ∧ μ s = k) ⟨_, s', ha'.cov hc', hi', rfl⟩).2
        rw [← hm2]
        exact Nat.lt_of_le_of_lt (this _ ⟨s', ha'.cov hc', hi', rfl⟩) hlt
      | _ => exact ⟨E', ha', hq⟩
    exact key _ s0 a w rfl (ha.cov hc) hi
  | .s _ _, .skip, _, _, _, _, _, h => h.elim
  | .s _ _, .region _ _ _, _, _, _, _, _, h => h.elim
  | .s _ _, .cond _ _ _, _, _, _, _, _, h => h.elim
  | .s _ _, .block _ _, _, _, _, _, _, h => h.elim
  | .s _ _, .loop _, _, _, _, _, _, h => h.elim
  | .s _ _, .rangeFunc _ _ _ _, _, _, _, _, _, h => h.elim
  | .s _ _, .exit _, _, _, _, _, _, h => h.elim
  | .s _ _, .scope _, _, _, _, _, _, h => h.elim
  | .s _ _, .label _, _, _, _, _, _, h => h.elim
  | .s _ _, .goto _, _, _, _, _, _, h => h.elim
  | .s _ _, .ret, _, _, _, _, _, h => h.elim
  | .s _ _, .refuse _, _, _, _, _, _, h => h.elim
  | .c _ _, .skip, _, _, _, _, _, h => h.elim
  | .c _ _, .region _ _ _, _, _, _, _, _, h => h.elim
  | .c _ _, .cond _ _ _, _, _, _, _, _, h => h.elim
  | .c _ _, .block _ _, _, _, _, _, _, h => h.elim
  | .c _ _, .loop _, _, _, _, _, _, h => h.elim
  | .c _ _, .rangeFunc _ _ _ _, _, _, _, _, _, h => h.elim
  | .c _ _, .exit _, _, _, _, _, _, h => h.elim
  | .c _ _, .scope _, _, _, _, _, _, h => h.elim
  | .c _ _, .label _, _, _, _, _, _, h => h.elim
  | .c _ _, .goto _, _, _, _, _, _, h => h.elim
  | .c _ _, .ret, _, _, _, _, _, h => h.elim
  | .c _ _, .refuse _, _, _, _, _, _, h => h.elim
  | .d _ _, .skip, _, _, _, _, _, h => h.elim
  | .d _ _, .region _ _ _, _, _, _, _, _, h => h.elim
  | .d _ _, .seq _ _, _, _, _, _, _, h => h.elim
  | .d _ _, .block _ _, _, _, _, _, _, h => h.elim
  | .d _ _, .loop _, _, _, _, _, _, h => h.elim
  | .d _ _, .rangeFunc _ _ _ _, _, _, _, _, _, h => h.elim
  | .d _ _, .exit _, _, _, _, _, _, h => h.elim
  | .d _ _, .scope _, _, _, _, _, _, h => h.elim
  | .d _ _, .label _, _, _, _, _, _, h => h.elim
  | .d _ _, .goto _, _, _, _, _, _, h => h.elim
  | .d _ _, .ret, _, _, _, _, _, h => h.elim
  | .d _ _, .refuse _, _, _, _, _, _, h => h.elim
  | .b _, .skip, _, _, _, _, _, h => h.elim
  | .b _, .region _ _ _, _, _, _, _, _, h => h.elim
  | .b _, .seq _ _, _, _, _, _, _, h => h.elim
  | .b _, .cond _ _ _, _, _, _, _, _, h => h.elim
  | .b _, .loop _, _, _, _, _, _, h => h.elim
  | .b _, .rangeFunc _ _ _ _, _, _, _, _, _, h => h.elim
  | .b _, .exit _, _, _, _, _, _, h => h.elim
  | .b _, .scope _, _, _, _, _, _, h => h.elim
  | .b _, .label _, _, _, _, _, _, h => h.elim
  | .b _, .goto _, _, _, _, _, _, h => h.elim
  | .b _, .ret, _, _, _, _, _, h => h.elim
  | .b _, .refuse _, _, _, _, _, _, h => h.elim
  | .l _, .skip, _, _, _, _, _, h => h.elim
  | .l _, .region _ _ _, _, _, _, _, _, h => h.elim
  | .l _, .seq _ _, _, _, _, _, _, h => h.elim
  | .l _, .cond _ _ _, _, _, _, _, _, h => h.elim
  | .l _, .block _ _, _, _, _, _, _, h => h.elim
  | .l _, .rangeFunc _ _ _ _, _, _, _, _, _, h => h.elim
  | .l _, .exit _, _, _, _, _, _, h => h.elim
  | .l _, .scope _, _, _, _, _, _, h => h.elim
  | .l _, .label _, _, _, _, _, _, h => h.elim
  | .l _, .goto _, _, _, _, _, _, h => h.elim
  | .l _, .ret, _, _, _, _, _, h => h.elim
  | .l _, .refuse _, _, _, _, _, _, h => h.elim
theorem calls_of_M (hS : SigOk S) {f : FuncId} {fn : Func} {c : Code} {args : List Value} {w : World} {R : Ending → World → Prop} (m : Mk)
    (hf : S.P.funcs[f]? = some fn) (hb : fn.body = some c) (hn : fn.ntmps = S.n) (hle : args.length ≤ S.n) (hr : S.r = none)
    (h : wpM S m c ⟨argsE 0 args, []⟩ w (postE S fn R)) : Calls S.P f args.toArray w R := by
  rw [← callsIn_wide (n := NN)]
  have hF : FR none = Fence.wide := rfl
  rw [← hF]
  refine callsIn_of_wp_marks hf hb trivial ?_
  have ha : Agrees S { tmps := args.toArray ++ Array.replicate (fn.ntmps - args.toArray.size) undef, defers := [] } ⟨argsE 0 args, []⟩ := by
    refine ⟨?_, rfl, fun t v hv => ?_⟩
    · simp [hn]; omega
    · obtain ⟨_, h2⟩ := argsE_find _ _ _ _ hv
      simp only [Nat.sub_zero] at h2
      have hlt : t < args.length := (List.getElem?_eq_some_iff.1 h2).1
      simp only [Array.getElem?_append, List.size_toArray, hlt, if_true]
      simpa using h2
  have h1 := wpM_sound hS m c _ _ w _ ha h
  rw [hr] at h1
  refine wpIn_mono h1 ?_
  rintro ex a' w' ⟨E', ha', hq⟩
  cases ex with
  | normal => have := leaveE_sound hS ha' _ _ hq; rw [← ha'.defers] at this; exact this
  | ret => have := leaveE_sound hS ha' _ _ hq; rw [← ha'.defers] at this; exact this
  | panic ch =>
    obtain ⟨hd, hR⟩ := hq
    show LeavesInM _ _ _ _ _ _ a'.defers _ _
    rw [ha'.defers, hd]
    exact hR
  | exit _ => exact hq.elim
  | goto _ => exact hq.elim
  | outgrown => exact hq.elim
end
end Go.Vc
namespace Go.Proofs.YthgmcegmgjoafaaGreatDoor
open Go.Vc Go.RowKit Go.Sei
structure Geo where
  c : Int
  h : Int
  w : Int
  s : Int
  a : Int
  deriving DecidableEq
def i64 (n : Int) : Value := .int .i64 n
def Geo.lst (g : Geo) : List Int := [g.c, g.h, g.w, g.s, g.a]
def Geo.enc (g : Geo) : List Value := [i64 g.c, i64 g.h, i64 g.w, i64 g.s, i64 g.a]
def Geo.val (g : Geo) : Value := .agg g.enc.toArray
def zeroG : Geo := ⟨0, 0, 0, 0, 0⟩
def bndL : List Int := [4, 2, 4, 4, 4]
def okAt (g : Geo) (i : Nat) : Bool := decide (1 ≤ g.lst.getD i 0) && decide (g.lst.getD i 0 ≤ bndL.getD i 0)
def geoR (g : Geo) : Bool := okAt g 0 && okAt g 1 && okAt g 2 && okAt g 3 && okAt g 4
def BndM (w : World) : Prop := Cells w ⟨2, 0, none⟩ (bndL.map i64)
theorem BndM.below {w w2 : World} (h : BndM w) (hb : Below w.heap.size w w2) : BndM w2 := cells_below hb h
theorem geoR_spec {g : Geo} (h : geoR g = true) : (1 ≤ g.c ∧ g.c ≤ 4) ∧ (1 ≤ g.h ∧ g.h ≤ 2) ∧ (1 ≤ g.w ∧ g.w ≤ 4) ∧ (1 ≤ g.s ∧ g.s ≤ 4) ∧ 1 ≤ g.a ∧ g.a ≤ 4 := by
  simp only [geoR, okAt, Bool.and_eq_true, decide_eq_true_eq] at h
  obtain ⟨⟨⟨⟨h0, h1⟩, h2⟩, h3⟩, h4⟩ := h
  exact ⟨h0, h1, h2, h3, h4⟩
theorem partE_of {off sz : Nat} {cs : List Value} {v : Value} {K : Value → Prop} (h : cs[off]? = some v) (k : K v) : partE off sz false cs K := by
  unfold partE; rw [h]; exact k
theorem Right_geo_c (g : Geo) (w : World) (hB : BndM w) : Calls Tryz.prog 49 #[g.val] w fun e w' => e = .returned (.bool (geoR g)) ∧ Below w.heap.size w w' := by
  refine calls_of_E (S := sg 30) (sgOk _) (args := [g.val]) Tryz.func49 rfl rfl (Nat.le_of_ble_eq_true rfl) rfl ?_
  have hb0 : Below w.heap.size w (w.alloc (.cells g.val.cells 31)) := (Below.refl _ _).alloc (Nat.le_refl _) _
  have f0 := hnew w (.cells g.val.cells 31)
  refine ⟨_, cells_at (cells_block f0) (i := 0) rfl, ?_⟩
  refine ⟨_, cells_at (cells_block f0) (i := 1) rfl, ?_⟩
  refine ⟨_, cells_at (cells_block f0) (i := 2) rfl, ?_⟩
  refine ⟨_, cells_at (cells_block f0) (i := 3) rfl, ?_⟩
  refine ⟨_, cells_at (cells_block f0) (i := 4) rfl, ?_⟩
  refine ⟨g.enc, rfl, ?_⟩
  refine ⟨Nat, fun k => ⟨[(15, .agg g.enc.toArray), (16, i64 (k : Nat))], []⟩, fun k V => k ≤ 5 ∧ (∀ j, j < k → okAt g j = true) ∧ w.alloc (.cells g.val.cells 31) = V, fun k => 5 - k, 0,
    ⟨.cons rfl (.cons rfl .nil), rfl⟩, ⟨Nat.zero_le _, fun _ h => absurd h (by omega), rfl⟩, ?_⟩
  rintro k _ ⟨hk, hno, rfl⟩
  refine And.intro (fun h => ?_) (fun h => ?_)
  · have h : (k : Int) < 5 := of_decide_eq_true h
    have hk5 : k < 5 := by omega
    refine ⟨k, rfl, hk5, ?_⟩
    have hget : g.enc[k * 1]? = some (i64 (g.lst.getD k 0)) := by
      have h5 : k = 0 ∨ k = 1 ∨ k = 2 ∨ k = 3 ∨ k = 4 := by omega
      rcases h5 with rfl | rfl | rfl | rfl | rfl <;> rfl
    refine partE_of hget ?_
    refine And.intro (fun h1 => ?_) (fun h1 => ?_)
    · have h1 : g.lst.getD k 0 < 1 := of_decide_eq_true h1
      refine And.intro (fun _ => ?_) (fun h => by cases h)
      have hR : geoR g = false := by
        have hx : okAt g k = false := by unfold okAt; rw [decide_eq_false (by omega)]; rfl
        have h5 : k = 0 ∨ k = 1 ∨ k = 2 ∨ k = 3 ∨ k = 4 := by omega
        unfold geoR
        rcases h5 with rfl | rfl | rfl | rfl | rfl <;> simp [hx]
      exact And.intro (rb hR.symm) hb0
    · have h1 : ¬ g.lst.getD k 0 < 1 := of_decide_eq_false h1
      refine ⟨k, rfl, hk5, ?_⟩
      have hbk : (bndL.map i64)[k]? = some (i64 (bndL.getD k 0)) := by
        have h5 : k = 0 ∨ k = 1 ∨ k = 2 ∨ k = 3 ∨ k = 4 := by omega
        rcases h5 with rfl | rfl | rfl | rfl | rfl <;> rfl
      have hc := cells_at (hB.below hb0) hbk
      refine ⟨_, by rw [Nat.mul_one]; exact hc, ?_⟩
      refine And.intro (fun h2 => ?_) (fun h2 => ?_)
      · have h2 : bndL.getD k 0 < g.lst.getD k 0 := of_decide_eq_true h2
        have hR : geoR g = false := by
          have hx : okAt g k = false := by unfold okAt; rw [decide_eq_false (p := g.lst.getD k 0 ≤ bndL.getD k 0) (by omega), Bool.and_false]
          have h5 : k = 0 ∨ k = 1 ∨ k = 2 ∨ k = 3 ∨ k = 4 := by omega
          unfold geoR
          rcases h5 with rfl | rfl | rfl | rfl | rfl <;> simp [hx]
        exact And.intro (rb hR.symm) hb0
      · have h2 : ¬ bndL.getD k 0 < g.lst.getD k 0 := of_decide_eq_false h2
        refine ⟨(k + 1 : Nat), (wrap_i64 (by omega)).trans (by omega), ?_⟩
        refine ⟨k + 1, ⟨.cons rfl (.cons rfl .nil), rfl⟩, ⟨by omega, fun j hj => ?_, rfl⟩, by dsimp only; omega⟩
        by_cases e : j = k
        · subst e; unfold okAt; rw [decide_eq_true (p := g.lst.getD j 0 ≤ bndL.getD j 0) (by omega), decide_eq_true (by omega)]; rfl
        · exact hno j (by omega)
  · have h : ¬ (k : Int) < 5 := of_decide_eq_false h
    have hR : geoR g = true := by
      unfold geoR
      rw [hno 0 (by omega), hno 1 (by omega), hno 2 (by omega), hno 3 (by omega), hno 4 (by omega)]; rfl
    exact And.intro (rb hR.symm) hb0
end Go.Proofs.YthgmcegmgjoafaaGreatDoor
namespace Go.Proofs.YthgmcegmgjoafaaGreatDoor
open Go.Vc Go.RowKit Go.Sei
theorem classOf_c (c : UInt8) (w : World) : Calls Tryz.prog 243 #[u8 c] w fun e w' => e = .returned (i64 (clsL c)) ∧ w = w' := by
  refine calls_of_M (S := sg 47) (sgOk _) (args := [u8 c]) (.s .p (.c .p .p)) Tryz.func243 rfl rfl (Nat.le_of_ble_eq_true rfl) rfl ?_
  refine ⟨Unit, fun _ => ⟨[(0, u8 c)], []⟩, fun _ X => isLet c = false ∧ isDig c = false ∧ w = X, ?_, ?_⟩
  · repeat first
      | exact ⟨(), ⟨.cons rfl .nil, rfl⟩, by unfold isLet; simp only [*]; rfl, by unfold isDig; simp only [*]; rfl, rfl⟩
      | exact ⟨by
          first
          | (have e : isLet c = true := by unfold isLet; simp only [*]; rfl
             unfold clsL; rw [e]; rfl)
          | (have e1 : isLet c = false := by unfold isLet; simp only [*]; rfl
             have e2 : isDig c = true := by unfold isDig; simp only [*]; rfl
             unfold clsL; rw [e1, e2]; rfl), rfl⟩
      | refine brT ?_
      | refine brF ?_
      | refine brE (by assumption) ?_
      | refine brN (by assumption) ?_
      | refine And.intro (fun h => ?_) (fun h => ?_)
  rintro _ _ ⟨h1, h2, rfl⟩
  have key : clsL c = (bif eqB c 32 || eqB c 9 then 1 else bif eqB c 10 then 2 else bif eqB c 95 then 5 else bif eqB c 35 then 7 else bif markB c then 6 else 0) := by unfold clsL; rw [h1, h2]; rfl
  rw [key]
  clear key h1 h2
  unfold markB
  refine And.intro (fun h => ?_) (fun h => ?_)
  · have h : eqB c 32 = true := h
    refine brE h ?_
    exact ⟨by rw [h]; rfl, rfl⟩
  have h32 : eqB c 32 = false := h
  refine And.intro (fun h => ?_) (fun h => ?_)
  · have h : eqB c 9 = true := h
    exact ⟨by rw [h32, h]; rfl, rfl⟩
  have h9 : eqB c 9 = false := h
  refine And.intro (fun h => ?_) (fun h => ?_)
  · have h : eqB c 10 = true := h
    exact ⟨by rw [h32, h9, h]; rfl, rfl⟩
  have h10 : eqB c 10 = false := h
  refine And.intro (fun h => ?_) (fun h => ?_)
  · have h : eqB c 95 = true := h
    exact ⟨by rw [h32, h9, h10, h]; rfl, rfl⟩
  have h95 : eqB c 95 = false := h
  refine And.intro (fun h => ?_) (fun h => ?_)
  · have h : eqB c 35 = true := h
    exact ⟨by rw [h32, h9, h10, h95, h]; rfl, rfl⟩
  have h35 : eqB c 35 = false := h
  rw [h32, h9, h10, h95, h35]
  refine And.intro (fun h => ?_) (fun h => ?_)
  · have h : eqB c 61 = true := h
    refine brE h ?_
    exact ⟨by rw [h]; rfl, rfl⟩
  have h61 : eqB c 61 = false := h
  refine And.intro (fun h => ?_) (fun h => ?_)
  · have h : eqB c 43 = true := h
    refine brE h ?_
    exact ⟨by rw [h61, h]; rfl, rfl⟩
  have h43 : eqB c 43 = false := h
  refine And.intro (fun h => ?_) (fun h => ?_)
  · have h : eqB c 45 = true := h
    refine brE h ?_
    exact ⟨by rw [h61, h43, h]; rfl, rfl⟩
  have h45 : eqB c 45 = false := h
  refine And.intro (fun h => ?_) (fun h => ?_)
  · have h : eqB c 94 = true := h
    refine brE h ?_
    exact ⟨by rw [h61, h43, h45, h]; rfl, rfl⟩
  have h94 : eqB c 94 = false := h
  refine And.intro (fun h => ?_) (fun h => ?_)
  · have h : eqB c 38 = true := h
    refine brE h ?_
    exact ⟨by rw [h61, h43, h45, h94, h]; rfl, rfl⟩
  have h38 : eqB c 38 = false := h
  refine And.intro (fun h => ?_) (fun h => ?_)
  · have h : eqB c 124 = true := h
    refine brE h ?_
    exact ⟨by rw [h61, h43, h45, h94, h38, h]; rfl, rfl⟩
  have h124 : eqB c 124 = false := h
  refine And.intro (fun h => ?_) (fun h => ?_)
  · have h : eqB c 33 = true := h
    refine brE h ?_
    exact ⟨by rw [h61, h43, h45, h94, h38, h124, h]; rfl, rfl⟩
  have h33 : eqB c 33 = false := h
  refine And.intro (fun h => ?_) (fun h => ?_)
  · have h : eqB c 40 = true := h
    refine brE h ?_
    exact ⟨by rw [h61, h43, h45, h94, h38, h124, h33, h]; rfl, rfl⟩
  have h40 : eqB c 40 = false := h
  refine And.intro (fun h => ?_) (fun h => ?_)
  · have h : eqB c 41 = true := h
    refine brE h ?_
    exact ⟨by rw [h61, h43, h45, h94, h38, h124, h33, h40, h]; rfl, rfl⟩
  have h41 : eqB c 41 = false := h
  refine And.intro (fun h => ?_) (fun h => ?_)
  · have h : eqB c 58 = true := h
    refine brE h ?_
    exact ⟨by rw [h61, h43, h45, h94, h38, h124, h33, h40, h41, h]; rfl, rfl⟩
  have h58 : eqB c 58 = false := h
  refine And.intro (fun h => ?_) (fun h => ?_)
  · have h : eqB c 60 = true := h
    exact ⟨by rw [h61, h43, h45, h94, h38, h124, h33, h40, h41, h58, h]; rfl, rfl⟩
  have h60 : eqB c 60 = false := h
  exact ⟨by rw [h61, h43, h45, h94, h38, h124, h33, h40, h41, h58, h60]; rfl, rfl⟩
theorem inWord_c (c : UInt8) (w : World) : Calls Tryz.prog 245 #[u8 c] w fun e w' => e = .returned (.bool (inWordL c)) ∧ w = w' := by
  refine calls_of_E (S := sg 16) (sgOk _) (args := [u8 c]) Tryz.func245 rfl rfl (Nat.le_of_ble_eq_true rfl) rfl ?_
  refine Calls.mono (classOf_c c w) ?_
  rintro e _ ⟨rfl, rfl⟩
  have e3 : ∀ k : Nat, decide ((clsL c : Int) = (k : Int)) = decide (clsL c = k) := fun k => by rw [decide_eq_decide]; omega
  refine And.intro (fun h => ?_) (fun h => ?_)
  · have h : decide (clsL c = 3) = true := (e3 3).symm.trans h
    refine And.intro (fun _ => ?_) (fun h => by cases h)
    exact ⟨rb (by unfold inWordL; rw [h]; rfl), rfl⟩
  have h3 : decide (clsL c = 3) = false := (e3 3).symm.trans h
  refine And.intro (fun h => ?_) (fun h => ?_)
  · have h : decide (clsL c = 4) = true := (e3 4).symm.trans h
    exact ⟨rb (by unfold inWordL; rw [h3, h]; rfl), rfl⟩
  have h4 : decide (clsL c = 4) = false := (e3 4).symm.trans h
  exact ⟨rb (by unfold inWordL; rw [h3, h4]; exact e3 5), rfl⟩
end Go.Proofs.YthgmcegmgjoafaaGreatDoor
namespace Go.Proofs.YthgmcegmgjoafaaGreatDoor
open Go.Vc Go.RowKit Go.Sei
theorem run_step {p : UInt8 → Bool} {s : List UInt8} {k : Nat} (h : k < s.length) : runOf p (s.drop k) = if p s[k] then runOf p (s.drop (k + 1)) + 1 else 0 := by
  rw [List.drop_eq_getElem_cons h]; rfl
theorem run_end {p : UInt8 → Bool} {s : List UInt8} {k : Nat} (h : s.length ≤ k) : runOf p (s.drop k) = 0 := by
  rw [List.drop_of_length_le h]; rfl
theorem inRun {p : UInt8 → Bool} (s : List UInt8) (k : Nat) (h : k ≤ s.length) : k + runOf p (s.drop k) ≤ s.length := by
  have := runOf_le p (s.drop k)
  rw [List.length_drop] at this; omega
theorem nat_dec {a b : Nat} : decide ((a : Int) = (b : Int)) = decide (a = b) := by rw [decide_eq_decide]; omega
theorem bs_at {s : List UInt8} {k : Nat} (h : k < s.length) : (bs s).data.toList[k]? = some s[k] := by
  show s[k]? = _
  exact List.getElem?_eq_getElem h
theorem over_c {g a : Nat} {s : List UInt8} {w : World} (h : Cells w ⟨g, 0, none⟩ [strV s, i64 a]) :
    Calls Tryz.prog 264 #[.pointer (some ⟨g, 0, none⟩)] w fun e w' => e = .returned (.bool (decide (s.length ≤ a))) ∧ Below w.heap.size w w' := by
  refine calls_of_E (S := sg 13) (sgOk _) (args := [.pointer (some ⟨g, 0, none⟩)]) Tryz.func264 rfl rfl (Nat.le_of_ble_eq_true rfl) rfl ?_
  refine DrawE.ord [] [0, 1, 2, 3, 4, 5, 6, 7, 8, 9, 10] (by kernel_rfl) ?_
  have h : Cells w.drew ⟨g, 0, none⟩ [strV s, i64 a] := cells_same rfl h
  refine ⟨_, cells_at h (i := 1) rfl, ?_⟩
  refine ⟨_, cells_at h (i := 0) rfl, ?_⟩
  refine ⟨rb ?_, (Below.refl _ _).drew⟩
  show decide ((s.length : Int) ≤ (a : Int)) = _
  rw [decide_eq_decide]; omega
theorem atEnd_c {g a : Nat} {s : List UInt8} {w : World} (h : Cells w ⟨g, 0, none⟩ [strV s, i64 a]) (hg : g < w.heap.size) :
    Calls Tryz.prog 262 #[.pointer (some ⟨g, 0, none⟩)] w fun e w' => e = .returned (.bool (atEndL s a)) ∧ Below w.heap.size w w' := by
  refine calls_of_E (S := sg 18) (sgOk _) (args := [.pointer (some ⟨g, 0, none⟩)]) Tryz.func262 rfl rfl (Nat.le_of_ble_eq_true rfl) rfl ?_
  refine DrawE.ord [] [0, 1, 2, 3, 4, 5, 6, 7, 8, 9, 10, 11, 12, 13, 14, 15] (by kernel_rfl) ?_
  have h : Cells w.drew ⟨g, 0, none⟩ [strV s, i64 a] := cells_same rfl h
  refine Calls.mono (over_c h) ?_
  rintro e V ⟨rfl, hb⟩
  refine ⟨hb, ?_⟩
  have hw := (Below.refl w.heap.size w).drew.trans hb
  have hV := cells_belowB hb hg h
  refine And.intro (fun ho => ?_) (fun ho => ?_)
  · have ho : s.length ≤ a := of_decide_eq_true ho
    have : atEndL s a = true := by unfold atEndL; rw [List.getElem?_eq_none ho]
    exact ⟨rb this.symm, hw⟩
  · have ho : ¬ s.length ≤ a := of_decide_eq_false ho
    have hl : a < s.length := by omega
    refine ⟨_, cells_at hV (i := 0) rfl, ?_⟩
    refine ⟨_, cells_at hV (i := 1) rfl, ?_⟩
    refine ⟨a, rfl, hl, s[a], bs_at hl, ?_⟩
    refine Calls.mono (classOf_c _ _) ?_
    rintro e _ ⟨rfl, rfl⟩
    refine ⟨Below.refl _ _, ?_⟩
    have : atEndL s a = decide (clsL s[a] = 2) := by unfold atEndL; rw [List.getElem?_eq_getElem hl]
    exact ⟨rb (by rw [this]; exact nat_dec), hw⟩
theorem wordEnd_c {g a : Nat} {s : List UInt8} {w : World} (h : Cells w ⟨g, 0, none⟩ [strV s, i64 a]) (ha : a < s.length) (hs : s.length ≤ 140737488351232) :
    Calls Tryz.prog 267 #[.pointer (some ⟨g, 0, none⟩)] w fun e w' => e = .returned (i64 (a + 1 + runOf inWordL (s.drop (a + 1)) : Nat)) ∧ w = w' := by
  refine calls_of_E (S := sg 28) (sgOk _) (args := [.pointer (some ⟨g, 0, none⟩)]) Tryz.func267 rfl rfl (Nat.le_of_ble_eq_true rfl) rfl ?_
  refine ⟨_, cells_at h (i := 1) rfl, ?_⟩
  refine ⟨(a + 1 : Nat), (wrap_i64 (by omega)).trans (by omega), ?_⟩
  refine ⟨Nat, fun k => ⟨[(0, .pointer (some ⟨g, 0, none⟩)), (3, .int .i64 (k : Nat))], []⟩, fun k X => k ≤ s.length ∧ k + runOf inWordL (s.drop k) = a + 1 + runOf inWordL (s.drop (a + 1)) ∧ w = X, fun k => s.length - k, a + 1, ⟨.cons rfl (.cons rfl .nil), rfl⟩, ⟨ha, rfl, rfl⟩, ?_⟩
  rintro k _ ⟨hk, he, rfl⟩
  dsimp only at hk he ⊢
  refine ⟨_, cells_at h (i := 0) rfl, ?_⟩
  refine And.intro (fun hc => ?_) (fun hc => ?_)
  · have hc : (k : Int) < (s.length : Int) := of_decide_eq_true hc
    have hl : k < s.length := by omega
    refine ⟨_, cells_at h (i := 0) rfl, ?_⟩
    refine ⟨k, rfl, hl, s[k], bs_at hl, ?_⟩
    refine Calls.mono (inWord_c _ _) ?_
    rintro e _ ⟨rfl, rfl⟩
    refine And.intro (fun hi => ?_) (fun hi => ?_)
    · refine ⟨(k + 1 : Nat), (wrap_i64 (by omega)).trans (by omega), ?_⟩
      refine ⟨k + 1, ⟨.cons rfl (.cons rfl .nil), rfl⟩, ⟨hl, ?_, rfl⟩, by show s.length - (k + 1) < s.length - k; omega⟩
      rw [run_step hl, if_pos hi] at he
      omega
    · have hi : ¬ inWordL s[k] = true := by rw [Bool.not_eq_true]; exact hi
      rw [run_step hl, if_neg hi] at he
      exact ⟨by rw [← he]; rfl, rfl⟩
  · have hc : ¬ (k : Int) < (s.length : Int) := of_decide_eq_false hc
    refine And.intro (fun h => by cases h) (fun _ => ?_)
    rw [run_end (by omega)] at he
    exact ⟨by rw [← he]; rfl, rfl⟩
theorem numberEnd_c {g a : Nat} {s : List UInt8} {w : World} (h : Cells w ⟨g, 0, none⟩ [strV s, i64 a]) (ha : a < s.length) (hs : s.length ≤ 140737488351232) :
    Calls Tryz.prog 268 #[.pointer (some ⟨g, 0, none⟩)] w fun e w' => e = .returned (i64 (a + 1 + runOf digB (s.drop (a + 1)) : Nat)) ∧ w = w' := by
  refine calls_of_E (S := sg 29) (sgOk _) (args := [.pointer (some ⟨g, 0, none⟩)]) Tryz.func268 rfl rfl (Nat.le_of_ble_eq_true rfl) rfl ?_
  refine ⟨_, cells_at h (i := 1) rfl, ?_⟩
  refine ⟨(a + 1 : Nat), (wrap_i64 (by omega)).trans (by omega), ?_⟩
  refine ⟨Nat, fun k => ⟨[(0, .pointer (some ⟨g, 0, none⟩)), (3, .int .i64 (k : Nat))], []⟩, fun k X => k ≤ s.length ∧ k + runOf digB (s.drop k) = a + 1 + runOf digB (s.drop (a + 1)) ∧ w = X, fun k => s.length - k, a + 1, ⟨.cons rfl (.cons rfl .nil), rfl⟩, ⟨ha, rfl, rfl⟩, ?_⟩
  rintro k _ ⟨hk, he, rfl⟩
  dsimp only at hk he ⊢
  refine ⟨_, cells_at h (i := 0) rfl, ?_⟩
  refine And.intro (fun hc => ?_) (fun hc => ?_)
  · have hc : (k : Int) < (s.length : Int) := of_decide_eq_true hc
    have hl : k < s.length := by omega
    refine ⟨_, cells_at h (i := 0) rfl, ?_⟩
    refine ⟨k, rfl, hl, s[k], bs_at hl, ?_⟩
    refine Calls.mono (classOf_c _ _) ?_
    rintro e _ ⟨rfl, rfl⟩
    have hd : decide ((clsL s[k] : Int) = 4) = digB s[k] := nat_dec (b := 4)
    refine And.intro (fun hi => ?_) (fun hi => ?_)
    · refine ⟨(k + 1 : Nat), (wrap_i64 (by omega)).trans (by omega), ?_⟩
      refine ⟨k + 1, ⟨.cons rfl (.cons rfl .nil), rfl⟩, ⟨hl, ?_, rfl⟩, by show s.length - (k + 1) < s.length - k; omega⟩
      rw [run_step hl, if_pos (hd.symm.trans hi)] at he
      omega
    · have hi : ¬ digB s[k] = true := by rw [Bool.not_eq_true]; exact hd.symm.trans hi
      rw [run_step hl, if_neg hi] at he
      exact ⟨by rw [← he]; rfl, rfl⟩
  · have hc : ¬ (k : Int) < (s.length : Int) := of_decide_eq_false hc
    refine And.intro (fun h => by cases h) (fun _ => ?_)
    rw [run_end (by omega)] at he
    exact ⟨by rw [← he]; rfl, rfl⟩
def signE (s : List UInt8) (a : Nat) (c : UInt8) : Nat := if (eqB c 61 || eqB c 33) && decide (s[a + 1]? = some 61) then a + 2 else a + 1
theorem signEnd_c {g a : Nat} {s : List UInt8} {w : World} (h : Cells w ⟨g, 0, none⟩ [strV s, i64 a]) (ha : a < s.length) (hs : s.length ≤ 140737488351232) :
    Calls Tryz.prog 266 #[.pointer (some ⟨g, 0, none⟩)] w fun e w' => e = .returned (i64 (signE s a s[a])) ∧ Below w.heap.size w w' := by
  refine calls_of_M (S := sg 46) (sgOk _) (args := [.pointer (some ⟨g, 0, none⟩)]) (.s .p (.s .p (.s .p (.c .p .p)))) Tryz.func266 rfl rfl (Nat.le_of_ble_eq_true rfl) rfl ?_
  refine ⟨_, cells_at h (i := 1) rfl, ?_⟩
  refine ⟨(a + 1 : Nat), (wrap_i64 (by omega)).trans (by omega), ?_⟩
  refine DrawE.ord [] [0, 1, 2, 3, 4, 5, 6, 7, 8, 9] (by kernel_rfl) ?_
  have hd : Cells w.drew ⟨g, 0, none⟩ [strV s, i64 a] := cells_same rfl h
  refine ⟨_, cells_at hd (i := 0) rfl, ?_⟩
  refine ⟨_, cells_at hd (i := 1) rfl, ?_⟩
  refine ⟨a, rfl, ha, s[a], bs_at ha, ?_⟩
  refine ⟨Unit, fun _ => ⟨[(3, i64 (signE s a s[a]))], []⟩, fun _ X => X = w.drew, ?_, ?_⟩
  · have no : ((eqB s[a] 61 || eqB s[a] 33) && decide (s[a + 1]? = some 61)) = false → ∃ _ : Unit, some (Value.int .i64 ((a + 1 : Nat) : Int)) = some (i64 (signE s a s[a])) := fun hf => ⟨(), by unfold signE; rw [hf]; rfl⟩
    refine And.intro (fun h1 => ?_) (fun h1 => ?_)
    · have he : (eqB s[a] 61 || eqB s[a] 33) = true := by
        have : eqB s[a] 61 = true := h1
        rw [this]; rfl
      refine brT ?_
      refine ⟨_, cells_at hd (i := 0) rfl, ?_⟩
      refine And.intro (fun h2 => ?_) (fun h2 => ?_)
      · have h2 : ((a + 1 : Nat) : Int) < (s.length : Int) := of_decide_eq_true h2
        have hl : a + 1 < s.length := by omega
        refine ⟨_, cells_at hd (i := 0) rfl, ?_⟩
        refine ⟨a + 1, rfl, hl, s[a + 1], bs_at hl, ?_⟩
        refine And.intro (fun h3 => ?_) (fun h3 => ?_)
        · refine ⟨(a + 2 : Nat), (wrap_i64 (by omega)).trans (by omega), ?_⟩
          refine ⟨(), ⟨.cons ?_ .nil, rfl⟩, rfl⟩
          have h61 : s[a + 1] = 61 := by
            apply UInt8.toNat_inj.1
            have : ((s[a + 1].toNat : Nat) : Int) = 61 := of_decide_eq_true h3
            have h6 : (61 : UInt8).toNat = 61 := rfl
            omega
          unfold signE
          rw [he, List.getElem?_eq_getElem hl, h61]; rfl
        · obtain ⟨_, e⟩ := no (by
            have h61 : ¬ s[a + 1] = 61 := fun e => by rw [e] at h3; cases h3
            rw [List.getElem?_eq_getElem hl, decide_eq_false (by simpa using h61), Bool.and_false])
          exact ⟨(), ⟨.cons e .nil, rfl⟩, rfl⟩
      · have h2 : ¬ ((a + 1 : Nat) : Int) < (s.length : Int) := of_decide_eq_false h2
        refine brF ?_
        obtain ⟨_, e⟩ := no (by rw [List.getElem?_eq_none (by omega)]; simp)
        exact ⟨(), ⟨.cons e .nil, rfl⟩, rfl⟩
    · have h1 : eqB s[a] 61 = false := h1
      refine And.intro (fun h1b => ?_) (fun h1b => ?_)
      · have he : (eqB s[a] 61 || eqB s[a] 33) = true := by
          have : eqB s[a] 33 = true := h1b
          rw [this, Bool.or_true]
        refine ⟨_, cells_at hd (i := 0) rfl, ?_⟩
        refine And.intro (fun h2 => ?_) (fun h2 => ?_)
        · have h2 : ((a + 1 : Nat) : Int) < (s.length : Int) := of_decide_eq_true h2
          have hl : a + 1 < s.length := by omega
          refine ⟨_, cells_at hd (i := 0) rfl, ?_⟩
          refine ⟨a + 1, rfl, hl, s[a + 1], bs_at hl, ?_⟩
          refine And.intro (fun h3 => ?_) (fun h3 => ?_)
          · refine ⟨(a + 2 : Nat), (wrap_i64 (by omega)).trans (by omega), ?_⟩
            refine ⟨(), ⟨.cons ?_ .nil, rfl⟩, rfl⟩
            have h61 : s[a + 1] = 61 := by
              apply UInt8.toNat_inj.1
              have : ((s[a + 1].toNat : Nat) : Int) = 61 := of_decide_eq_true h3
              have h6 : (61 : UInt8).toNat = 61 := rfl
              omega
            unfold signE
            rw [he, List.getElem?_eq_getElem hl, h61]; rfl
          · obtain ⟨_, e⟩ := no (by
              have h61 : ¬ s[a + 1] = 61 := fun e => by rw [e] at h3; cases h3
              rw [List.getElem?_eq_getElem hl, decide_eq_false (by simpa using h61), Bool.and_false])
            exact ⟨(), ⟨.cons e .nil, rfl⟩, rfl⟩
        · have h2 : ¬ ((a + 1 : Nat) : Int) < (s.length : Int) := of_decide_eq_false h2
          refine brF ?_
          obtain ⟨_, e⟩ := no (by rw [List.getElem?_eq_none (by omega)]; simp)
          exact ⟨(), ⟨.cons e .nil, rfl⟩, rfl⟩
      · have h1b : eqB s[a] 33 = false := h1b
        refine brF ?_
        refine brF ?_
        obtain ⟨_, e⟩ := no (by rw [h1, h1b]; rfl)
        exact ⟨(), ⟨.cons e .nil, rfl⟩, rfl⟩
  rintro _ _ rfl
  exact ⟨rfl, (Below.refl _ _).drew⟩
end Go.Proofs.YthgmcegmgjoafaaGreatDoor
namespace Go.Proofs.YthgmcegmgjoafaaGreatDoor
open Go.Vc Go.RowKit Go.Sei
def ScV (X : World) (g : Nat) (s : List UInt8) (a : Nat) (op : Bool) : Prop := X.heap[g]? = some (.cells #[strV s, i64 a, .bool op] 335 (0, 0))
theorem ScV.cells {X : World} {g a : Nat} {s : List UInt8} {op : Bool} (h : ScV X g s a op) : Cells X ⟨g, 0, none⟩ [strV s, i64 a] := by
  have := cells_block' (o := 0) (n := 2) h
  exact this
theorem ScV.below {X Y : World} {g a : Nat} {s : List UInt8} {op : Bool} (h : ScV X g s a op) (hb : Below X.heap.size X Y) : ScV Y g s a op := block_below hb h
theorem grown_b {a b c : World} {g : Nat} (h : a.grownBy b (some g)) (k : Below b.heap.size b c) : a.grownBy c (some g) := grown_trans h (grown_of_below k)
theorem put_at {X : World} {g a : Nat} {s : List UInt8} {op : Bool} (h : ScV X g s a op) (v : Nat) {K : World → Prop} (k : ∀ Y, ScV Y g s v op → X.grownBy Y (some g) → Y.heap.size = X.heap.size → K Y) :
    SatR ((storeVar 3 ⟨g, 1, none⟩ (i64 v)).run Tryz.prog X) fun _ w' => K w' :=
  store_cell (ttOk.get 3 _ rfl) rfl h (o := 1) (by show 1 < 3; omega) (v := i64 v) rfl rfl fun Y fY gY sY => k Y fY gY sY
theorem put_open {X : World} {g a : Nat} {s : List UInt8} {op : Bool} (h : ScV X g s a op) (v : Bool) {K : World → Prop} (k : ∀ Y, ScV Y g s a v → X.grownBy Y (some g) → Y.heap.size = X.heap.size → K Y) :
    SatR ((storeVar 4 ⟨g, 2, none⟩ (.bool v)).run Tryz.prog X) fun _ w' => K w' :=
  store_cell (ttOk.get 4 _ rfl) rfl h (o := 2) (by show 2 < 3; omega) (v := .bool v) rfl rfl fun Y fY gY sY => k Y fY gY sY
theorem atEnd_lt {s : List UInt8} {k : Nat} (h : k < s.length) : atEndL s k = decide (clsL s[k] = 2) := by unfold atEndL; rw [List.getElem?_eq_getElem h]
theorem atEnd_ge {s : List UInt8} {k : Nat} (h : s.length ≤ k) : atEndL s k = true := by unfold atEndL; rw [List.getElem?_eq_none h]
theorem pass_c {g a : Nat} {s : List UInt8} {op : Bool} {w : World} (h : ScV w g s a op) (ha : a ≤ s.length) (hs : s.length ≤ 140737488351232) :
    Calls Tryz.prog 261 #[.pointer (some ⟨g, 0, none⟩)] w fun e w' => (∃ v, e = .returned v) ∧ ScV w' g s (passL s a) op ∧ w.grownBy w' (some g) := by
  refine calls_of_M (S := sg 50) (sgOk _) (args := [.pointer (some ⟨g, 0, none⟩)]) (.c .p (.c .p .p)) Tryz.func261 rfl rfl (Nat.le_of_ble_eq_true rfl) rfl ?_
  obtain ⟨b, hb⟩ : ∃ b, b = blanksL s a := ⟨_, rfl⟩
  have hbl : b ≤ s.length := by rw [hb]; exact inRun s a ha
  refine ⟨Unit, fun _ => ⟨[(0, .pointer (some ⟨g, 0, none⟩))], []⟩, fun _ X => ScV X g s b op ∧ w.grownBy X (some g), ?_, ?_⟩
  · refine ⟨Nat, fun k => ⟨[(0, .pointer (some ⟨g, 0, none⟩))], []⟩, fun k X => k ≤ s.length ∧ k + runOf blankB (s.drop k) = b ∧ ScV X g s k op ∧ w.grownBy X (some g), fun k => s.length - k, a, ⟨.cons rfl .nil, rfl⟩, ⟨ha, hb.symm, h, grown_refl _ _⟩, ?_⟩
    rintro k X ⟨hk, he, hX, hg⟩
    dsimp only at hk he ⊢
    refine DrawE.ord [] [0, 1, 2, 3, 4, 5, 6, 7, 8, 9, 10, 11, 12, 13, 14, 15] (by kernel_rfl) ?_
    have hXd : ScV X.drew g s k op := hX
    refine Calls.mono (over_c hXd.cells) ?_
    rintro e Y ⟨rfl, hbY⟩
    refine ⟨hbY, ?_⟩
    have hY := hXd.below hbY
    have gY : w.grownBy Y (some g) := grown_trans hg (grown_of_below ((Below.refl _ X).drew.trans hbY))
    refine And.intro (fun ho => ?_) (fun ho => ?_)
    · have ho : s.length > k := by
        have : (!decide (s.length ≤ k)) = true := ho
        simpa using this
      refine ⟨_, cells_at hY.cells (i := 0) rfl, ?_⟩
      refine ⟨_, cells_at hY.cells (i := 1) rfl, ?_⟩
      refine ⟨k, rfl, ho, s[k], bs_at ho, ?_⟩
      refine Calls.mono (classOf_c _ _) ?_
      rintro e _ ⟨rfl, rfl⟩
      refine ⟨Below.refl _ _, ?_⟩
      have hd : decide ((clsL s[k] : Int) = 1) = blankB s[k] := nat_dec (b := 1)
      rw [run_step ho] at he
      refine And.intro (fun hi => ?_) (fun hi => ?_)
      · rw [if_pos (hd.symm.trans hi)] at he
        refine ⟨_, cells_at hY.cells (i := 1) rfl, ?_⟩
        refine ⟨(k + 1 : Nat), (wrap_i64 (by omega)).trans (by omega), ?_⟩
        refine put_at hY (k + 1) fun Z hZ gZ sZ => ?_
        exact ⟨k + 1, ⟨.cons rfl .nil, rfl⟩, ⟨ho, by omega, hZ, grown_trans gY gZ⟩, by show s.length - (k + 1) < s.length - k; omega⟩
      · have hi : ¬ blankB s[k] = true := by rw [Bool.not_eq_true]; exact hd.symm.trans hi
        rw [if_neg hi] at he
        exact ⟨(), ⟨.cons rfl .nil, rfl⟩, by rw [← he]; exact hY, gY⟩
    · have ho : s.length ≤ k := by
        have : (!decide (s.length ≤ k)) = false := ho
        simpa using this
      refine brF ?_
      rw [run_end ho] at he
      exact ⟨(), ⟨.cons rfl .nil, rfl⟩, by rw [← he]; exact hY, gY⟩
  clear h
  rintro _ X ⟨hX, hg⟩
  have hp : passL s a = match s[b]? with
      | some c => if clsL c = 7 then b + runOf notNl (s.drop b) else b
      | none => b := by rw [hb]; rfl
  refine ⟨Unit, fun _ => ⟨[(0, .pointer (some ⟨g, 0, none⟩))], []⟩, fun _ X => (∃ hl : b < s.length, clsL s[b] = 7) ∧ ScV X g s b op ∧ w.grownBy X (some g), ?_, ?_⟩
  · refine DrawE.ord [] [0, 1, 2, 3, 4, 5, 6, 7, 8, 9, 10, 11, 12, 13, 14] (by kernel_rfl) ?_
    have hXd : ScV X.drew g s b op := hX
    refine Calls.mono (over_c hXd.cells) ?_
    rintro e Y ⟨rfl, hbY⟩
    refine ⟨hbY, ?_⟩
    have hY := hXd.below hbY
    have gY : w.grownBy Y (some g) := grown_trans hg (grown_of_below ((Below.refl _ X).drew.trans hbY))
    refine And.intro (fun ho => ?_) (fun ho => ?_)
    · have ho : s.length ≤ b := of_decide_eq_true ho
      refine brT ?_
      have : passL s a = b := by rw [hp, List.getElem?_eq_none ho]
      rw [this]
      exact ⟨⟨_, rfl⟩, hY, gY⟩
    · have ho : ¬ s.length ≤ b := of_decide_eq_false ho
      have hl : b < s.length := by omega
      refine ⟨_, cells_at hY.cells (i := 0) rfl, ?_⟩
      refine ⟨_, cells_at hY.cells (i := 1) rfl, ?_⟩
      refine ⟨b, rfl, hl, s[b], bs_at hl, ?_⟩
      refine Calls.mono (classOf_c _ _) ?_
      rintro e _ ⟨rfl, rfl⟩
      refine ⟨Below.refl _ _, ?_⟩
      refine And.intro (fun hi => ?_) (fun hi => ?_)
      · have hi : ¬ clsL s[b] = 7 := by
          have h1 : (!decide ((clsL s[b] : Int) = 7)) = true := hi
          simp at h1; omega
        have : passL s a = b := by rw [hp, List.getElem?_eq_getElem hl]; simp only [if_neg hi]
        rw [this]
        exact ⟨⟨_, rfl⟩, hY, gY⟩
      · have hi : clsL s[b] = 7 := by
          have h1 : (!decide ((clsL s[b] : Int) = 7)) = false := hi
          simp at h1; omega
        exact ⟨(), ⟨.cons rfl .nil, rfl⟩, ⟨hl, hi⟩, hY, gY⟩
  clear hX hg X
  rintro _ X ⟨⟨hl, h7⟩, hX, hg⟩
  have hp : passL s a = b + runOf notNl (s.drop b) := by rw [hp, List.getElem?_eq_getElem hl]; simp only [if_pos h7]
  rw [hp]
  refine ⟨Nat, fun k => ⟨[(0, .pointer (some ⟨g, 0, none⟩))], []⟩, fun k X => k ≤ s.length ∧ k + runOf notNl (s.drop k) = b + runOf notNl (s.drop b) ∧ ScV X g s k op ∧ w.grownBy X (some g), fun k => s.length - k, b, ⟨.cons rfl .nil, rfl⟩, ⟨hbl, rfl, hX, hg⟩, ?_⟩
  clear hX hg X
  rintro k X ⟨hk, he, hX, hg⟩
  dsimp only at hk he ⊢
  refine Calls.mono (atEnd_c hX.cells (hlt hX)) ?_
  rintro e Y ⟨rfl, hbY⟩
  have hY := hX.below hbY
  have gY := grown_b hg hbY
  refine And.intro (fun hi => ?_) (fun hi => ?_)
  · have hi : atEndL s k = false := by
      have h1 : (!atEndL s k) = true := hi
      simpa using h1
    have hkl : k < s.length := by
      by_cases h0 : k < s.length
      · exact h0
      · rw [atEnd_ge (by omega)] at hi; cases hi
    have hn : notNl s[k] = true := by
      rw [atEnd_lt hkl] at hi
      unfold notNl; rw [hi]; rfl
    rw [run_step hkl, if_pos hn] at he
    refine ⟨_, cells_at hY.cells (i := 1) rfl, ?_⟩
    refine ⟨(k + 1 : Nat), (wrap_i64 (by omega)).trans (by omega), ?_⟩
    refine put_at hY (k + 1) fun Z hZ gZ sZ => ?_
    exact ⟨k + 1, ⟨.cons rfl .nil, rfl⟩, ⟨hkl, by omega, hZ, grown_trans gY gZ⟩, by show s.length - (k + 1) < s.length - k; omega⟩
  · have hi : atEndL s k = true := by
      have h1 : (!atEndL s k) = false := hi
      simpa using h1
    have h0 : runOf notNl (s.drop k) = 0 := by
      by_cases h0 : k < s.length
      · rw [atEnd_lt h0] at hi
        rw [run_step h0, if_neg]
        unfold notNl; rw [hi]; decide
      · exact run_end (by omega)
    rw [h0] at he
    have he : k = b + runOf notNl (s.drop b) := by omega
    exact ⟨⟨_, rfl⟩, by rw [← he]; exact hY, gY⟩
theorem pass_le {s : List UInt8} {a : Nat} (ha : a ≤ s.length) : passL s a ≤ s.length := by
  have h1 : blanksL s a ≤ s.length := inRun s a ha
  unfold passL
  split
  · split
    · exact inRun s _ h1
    · exact h1
  · exact h1
def tokE : Enc Tok := ⟨fun t => [u8 t.kind, strV t.text, i64 t.pos], 3, fun _ => rfl, by decide, fun a u hu => by
  simp only [List.mem_cons, List.not_mem_nil, or_false] at hu
  rcases hu with rfl | rfl | rfl <;> rfl⟩
theorem end_ge {s : List UInt8} {a : Nat} (ha : a < s.length) (c : UInt8) : a < endL s a c ∧ endL s a c ≤ s.length := by
  unfold endL
  split
  · have := inRun (p := inWordL) s (a + 1) ha; omega
  · split
    · have := inRun (p := digB) s (a + 1) ha; omega
    · split
      · rename_i h
        have h2 : s[a + 1]? = some 61 := by
          simp only [Bool.and_eq_true, decide_eq_true_eq] at h
          exact h.2
        have := (List.getElem?_eq_some_iff.1 h2).1
        omega
      · omega
theorem bs_cut (s : List UInt8) (a e : Nat) : (bs s).extract a e = bs ((s.drop a).take (e - a)) := by
  have h : ((bs s).extract a e).data = (bs ((s.drop a).take (e - a))).data := by
    rw [ByteArray.data_extract]
    apply Array.toList_inj.1
    rw [Array.toList_extract]
    rfl
  exact ByteArray.ext h
theorem token_c {g a : Nat} {s : List UInt8} {op : Bool} {w : World} (h : ScV w g s a op) (ha : a < s.length) (hs : s.length ≤ 140737488351232) :
    Calls Tryz.prog 263 #[.pointer (some ⟨g, 0, none⟩)] w fun e w' => e = .returned (.agg (tokE.enc (tokL s a s[a])).toArray) ∧ ScV w' g s (endL s a s[a]) op ∧ w.grownBy w' (some g) := by
  refine calls_of_M (S := sg 51) (sgOk _) (args := [.pointer (some ⟨g, 0, none⟩)]) (.s .p (.s .p (.c .p .p))) Tryz.func263 rfl rfl (Nat.le_of_ble_eq_true rfl) rfl ?_
  obtain ⟨z, hz⟩ : ∃ z, z = tokE.enc ⟨0, [], 0⟩ := ⟨_, rfl⟩
  obtain ⟨W0, hW0⟩ : ∃ W0, W0 = (w.alloc (.cells z.toArray 324)) := ⟨_, rfl⟩
  have hb0 : Below w.heap.size w W0 := by rw [hW0]; exact (Below.refl _ _).alloc (Nat.le_refl _) _
  have f0 : W0.heap[w.heap.size]? = some (.cells z.toArray 324 (0, 0)) := by rw [hW0]; exact hnew w _
  have h0 : ScV W0 g s a op := h.below hb0
  have hgl : g < w.heap.size := hlt h
  refine ⟨Nat, fun f => ⟨[(0, .pointer (some ⟨g, 0, none⟩)), (2, .pointer (some ⟨w.heap.size, 0, none⟩)), (3, u8 (kindL s[a])), (4, .func (.func f) #[] #[])], []⟩, fun f X => Below W0.heap.size W0 X ∧
    ((clsL s[a] = 3 ∧ f = 267) ∨ (¬ clsL s[a] = 3 ∧ clsL s[a] = 4 ∧ f = 268) ∨ (¬ clsL s[a] = 3 ∧ ¬ clsL s[a] = 4 ∧ f = 266)), ?_, ?_⟩
  · subst hz
    subst hW0
    refine DrawE.ord [] [0, 1, 2, 3, 4, 5, 6, 7, 8, 9, 10, 11] (by kernel_rfl) ?_
    have hd : ScV (w.alloc (.cells (tokE.enc ⟨0, [], 0⟩).toArray 324)).drew g s a op := h0
    refine ⟨_, cells_at hd.cells (i := 0) rfl, ?_⟩
    refine ⟨_, cells_at hd.cells (i := 1) rfl, ?_⟩
    refine ⟨a, rfl, ha, s[a], bs_at ha, ?_⟩
    refine Calls.mono (classOf_c _ _) ?_
    rintro e _ ⟨rfl, rfl⟩
    refine ⟨Below.refl _ _, ?_⟩
    refine And.intro (fun h3 => ?_) (fun h3 => ?_)
    · have h3 : clsL s[a] = 3 := by have h3 : (clsL s[a] : Int) = 3 := of_decide_eq_true h3; omega
      exact ⟨_, ⟨.cons rfl (.cons rfl (.cons (by unfold kindL; rw [if_pos h3]; rfl) (.cons rfl .nil))), rfl⟩, (Below.refl _ _).drew, .inl ⟨h3, rfl⟩⟩
    have h3 : ¬ clsL s[a] = 3 := by have h3 : ¬ (clsL s[a] : Int) = 3 := of_decide_eq_false h3; omega
    refine And.intro (fun h4 => ?_) (fun h4 => ?_)
    · have h4 : clsL s[a] = 4 := by have h4 : (clsL s[a] : Int) = 4 := of_decide_eq_true h4; omega
      exact ⟨_, ⟨.cons rfl (.cons rfl (.cons (by unfold kindL; rw [if_neg h3, if_pos h4]; rfl) (.cons rfl .nil))), rfl⟩, (Below.refl _ _).drew, .inr (.inl ⟨h3, h4, rfl⟩)⟩
    · have h4 : ¬ clsL s[a] = 4 := by have h4 : ¬ (clsL s[a] : Int) = 4 := of_decide_eq_false h4; omega
      exact ⟨_, ⟨.cons rfl (.cons rfl (.cons (by unfold kindL; rw [if_neg h3, if_neg h4]; rfl) (.cons rfl .nil))), rfl⟩, (Below.refl _ _).drew, .inr (.inr ⟨h3, h4, rfl⟩)⟩
  rintro f V ⟨hV, hf⟩
  dsimp only at hV hf ⊢
  have hVs := h0.below hV
  obtain ⟨e1, e2⟩ := end_ge ha s[a]
  have fin : ∀ Y, Below V.heap.size V Y → ∀ Z, ScV Z g s (endL s a s[a]) op → Y.grownBy Z (some g) → Below w.heap.size w Y ∧ Z.heap[w.heap.size]? = some (.cells z.toArray 324 (0, 0)) ∧ w.grownBy Z (some g) := fun Y hY Z hZ gZ => by
    have hwY := (hb0.trans (hV.mono hb0.size)).trans (hY.mono (by have := hb0.size; have := hV.size; omega))
    have f1 := block_below hY (block_below hV f0)
    refine ⟨hwY, (gZ.block _ (hlt f1) (fun e => by simp only [Option.some.injEq] at e; omega)).trans f1, grown_trans (grown_of_below hwY) gZ⟩
  have last : ∀ Z, Z.heap[w.heap.size]? = some (.cells z.toArray 324 (0, 0)) → w.grownBy Z (some g) → ∀ R, Z.grownBy R (some w.heap.size) → w.grownBy R (some g) := fun Z _ gZ R gR =>
    ⟨gR.os.trans gZ.os, gR.tape.trans gZ.tape, gR.output.trans gZ.output, Nat.le_trans gZ.size gR.size, fun k hk hne => (gR.block k (Nat.lt_of_lt_of_le hk gZ.size) (fun e => by simp only [Option.some.injEq] at e; omega)).trans (gZ.block k hk hne)⟩
  have fill : ∀ cs, cs = tokE.enc (tokL s a s[a]) → ∀ Z, Z.heap[w.heap.size]? = some (.cells z.toArray 324 (0, 0)) → ∀ (K : World → Prop), (∀ R, R.heap[w.heap.size]? = some (.cells (tokE.enc (tokL s a s[a])).toArray 324 (0, 0)) → Z.grownBy R (some w.heap.size) → K R) →
      SatR ((storeVar 324 ⟨w.heap.size, 0, none⟩ (.agg cs.toArray)).run Tryz.prog Z) fun _ w' => K w' := fun cs hcs Z fZ K k => by
    subst hz hcs
    exact store_box (v := .agg (tokE.enc (tokL s a s[a])).toArray) (ttOk.get 324 _ rfl) fZ rfl rfl rfl (k _ (setRow_new fZ) (grown_setRow Z _ _))
  rcases hf with ⟨h3, rfl⟩ | ⟨h3, h4, rfl⟩ | ⟨h3, h4, rfl⟩
  · refine ⟨_, cells_at hVs.cells (i := 1) rfl, ?_⟩
    refine Calls.mono (wordEnd_c hVs.cells ha hs) ?_
    rintro e _ ⟨rfl, rfl⟩
    have hbY : Below V.heap.size V V := Below.refl _ _
    have hVY := hVs
    have ee : a + 1 + runOf inWordL (s.drop (a + 1)) = endL s a s[a] := by unfold endL; rw [if_pos h3]
    rw [ee]
    refine put_at hVY (endL s a s[a]) fun Z hZ gZ sZ => ?_
    obtain ⟨hwY, fZ, gwZ⟩ := fin V hbY Z hZ gZ
    refine DrawE.ord [15] [0, 1, 2, 3, 4, 5, 6, 7, 8, 9, 10, 11, 12, 13, 14, 15] (by kernel_rfl) ?_
    have hZd : ScV Z.drew g s (endL s a s[a]) op := hZ
    refine ⟨_, cells_at hZd.cells (i := 0) rfl, ?_⟩
    refine ⟨_, cells_at hZd.cells (i := 1) rfl, ?_⟩
    refine ⟨endL s a s[a], rfl, e2, a, rfl, by omega, ?_⟩
    refine ⟨[u8 (kindL s[a]), .string ((bs s).extract a (endL s a s[a])), i64 a], rfl, ?_⟩
    refine fill _ (by rw [bs_cut]; rfl) Z.drew fZ _ fun R fR gR => ?_
    refine ⟨_, rfl, cells_block fR, ?_⟩
    refine ⟨rfl, ?_, last Z.drew fZ (grown_trans gwZ (grown_of_below (Below.refl _ Z).drew)) R gR⟩
    exact (gR.block g (hlt hZd) (fun e => by simp only [Option.some.injEq] at e; omega)).trans hZd
  · refine ⟨_, cells_at hVs.cells (i := 1) rfl, ?_⟩
    refine Calls.mono (numberEnd_c hVs.cells ha hs) ?_
    rintro e _ ⟨rfl, rfl⟩
    have hbY : Below V.heap.size V V := Below.refl _ _
    have hVY := hVs
    have ee : a + 1 + runOf digB (s.drop (a + 1)) = endL s a s[a] := by unfold endL; rw [if_neg h3, if_pos h4]
    rw [ee]
    refine put_at hVY (endL s a s[a]) fun Z hZ gZ sZ => ?_
    obtain ⟨hwY, fZ, gwZ⟩ := fin V hbY Z hZ gZ
    refine DrawE.ord [15] [0, 1, 2, 3, 4, 5, 6, 7, 8, 9, 10, 11, 12, 13, 14, 15] (by kernel_rfl) ?_
    have hZd : ScV Z.drew g s (endL s a s[a]) op := hZ
    refine ⟨_, cells_at hZd.cells (i := 0) rfl, ?_⟩
    refine ⟨_, cells_at hZd.cells (i := 1) rfl, ?_⟩
    refine ⟨endL s a s[a], rfl, e2, a, rfl, by omega, ?_⟩
    refine ⟨[u8 (kindL s[a]), .string ((bs s).extract a (endL s a s[a])), i64 a], rfl, ?_⟩
    refine fill _ (by rw [bs_cut]; rfl) Z.drew fZ _ fun R fR gR => ?_
    refine ⟨_, rfl, cells_block fR, ?_⟩
    refine ⟨rfl, ?_, last Z.drew fZ (grown_trans gwZ (grown_of_below (Below.refl _ Z).drew)) R gR⟩
    exact (gR.block g (hlt hZd) (fun e => by simp only [Option.some.injEq] at e; omega)).trans hZd
  · refine ⟨_, cells_at hVs.cells (i := 1) rfl, ?_⟩
    refine Calls.mono (signEnd_c hVs.cells ha hs) ?_
    rintro e Y ⟨rfl, hbY⟩
    have hVY := hVs.below hbY
    have ee : signE s a s[a] = endL s a s[a] := by unfold endL; rw [if_neg h3, if_neg h4]; rfl
    rw [ee]
    refine put_at hVY (endL s a s[a]) fun Z hZ gZ sZ => ?_
    obtain ⟨hwY, fZ, gwZ⟩ := fin Y hbY Z hZ gZ
    refine DrawE.ord [15] [0, 1, 2, 3, 4, 5, 6, 7, 8, 9, 10, 11, 12, 13, 14, 15] (by kernel_rfl) ?_
    have hZd : ScV Z.drew g s (endL s a s[a]) op := hZ
    refine ⟨_, cells_at hZd.cells (i := 0) rfl, ?_⟩
    refine ⟨_, cells_at hZd.cells (i := 1) rfl, ?_⟩
    refine ⟨endL s a s[a], rfl, e2, a, rfl, by omega, ?_⟩
    refine ⟨[u8 (kindL s[a]), .string ((bs s).extract a (endL s a s[a])), i64 a], rfl, ?_⟩
    refine fill _ (by rw [bs_cut]; rfl) Z.drew fZ _ fun R fR gR => ?_
    refine ⟨_, rfl, cells_block fR, ?_⟩
    refine ⟨rfl, ?_, last Z.drew fZ (grown_trans gwZ (grown_of_below (Below.refl _ Z).drew)) R gR⟩
    exact (gR.block g (hlt hZd) (fun e => by simp only [Option.some.injEq] at e; omega)).trans hZd
end Go.Proofs.YthgmcegmgjoafaaGreatDoor
namespace Go.Proofs.YthgmcegmgjoafaaGreatDoor
open Go.Vc Go.RowKit Go.Sei
def numV (l : List UInt8) : Nat := l.foldl (fun v c => 10 * v + (c.toNat - 48)) 0
theorem numV_snoc {s : List UInt8} {k : Nat} (h : k < s.length) : numV (s.take (k + 1)) = 10 * numV (s.take k) + (s[k].toNat - 48) := by
  unfold numV; rw [List.take_succ_eq_append_getElem h, List.foldl_append]; rfl
theorem cls_dig {c : UInt8} (h : digB c = true) : 48 ≤ c.toNat ∧ c.toNat ≤ 57 := by
  unfold digB at h
  have h : clsL c = 4 := of_decide_eq_true h
  unfold clsL at h
  cases h1 : isLet c with
  | true => rw [h1] at h; cases h
  | false =>
    rw [h1] at h
    cases h2 : isDig c with
    | true => unfold isDig at h2; simp at h2; omega
    | false =>
      rw [h2] at h
      revert h
      cases eqB c 32 || eqB c 9 <;> cases eqB c 10 <;> cases eqB c 95 <;> cases eqB c 35 <;> cases markB c <;> (intro h; cases h)
theorem Num_c (s : List UInt8) (hs : s.length ≤ 140737488351232) (w : World) : Calls Tryz.prog 265 #[strV s] w fun e w' => ∃ v, e = .returned (.tuple #[u8 v, .bool (numL s)]) ∧ w = w' := by
  refine calls_of_M (S := sg 47) (sgOk _) (args := [strV s]) (.s .p (.c .p .p)) Tryz.func265 rfl rfl (Nat.le_of_ble_eq_true rfl) rfl ?_
  have hnl : numL s = (decide (1 ≤ s.length) && (decide (s.length ≤ 3) && (!(decide (s.head? = some 48) && decide (1 < s.length)) && (s.all digB && decide (numV s ≤ 255))))) := rfl
  refine ⟨Unit, fun _ => ⟨[(0, strV s)], []⟩, fun _ X => (1 ≤ s.length ∧ s.length ≤ 3 ∧ (decide (s.head? = some 48) && decide (1 < s.length)) = false) ∧ w = X, ?_, ?_⟩
  · refine And.intro (fun h1 => ?_) (fun h1 => ?_)
    · have h1 : (s.length : Int) < 1 := of_decide_eq_true h1
      refine brT ?_
      refine brT ?_
      exact ⟨0, by rw [hnl, decide_eq_false (by omega)]; rfl, rfl⟩
    have h1 : ¬ (s.length : Int) < 1 := of_decide_eq_false h1
    refine And.intro (fun h2 => ?_) (fun h2 => ?_)
    · have h2 : (3 : Int) < (s.length : Int) := of_decide_eq_true h2
      refine brT ?_
      exact ⟨0, by rw [hnl, decide_eq_false (p := s.length ≤ 3) (by omega)]; simp; rfl, rfl⟩
    have h2 : ¬ (3 : Int) < (s.length : Int) := of_decide_eq_false h2
    have h0 : 0 < s.length := by omega
    have hh : s.head? = some s[0] := by rw [List.head?_eq_getElem?, List.getElem?_eq_getElem h0]
    refine ⟨0, rfl, h0, s[0], bs_at h0, ?_⟩
    refine And.intro (fun h3 => ?_) (fun h3 => ?_)
    · have h3 : s[0] = 48 := by
        apply UInt8.toNat_inj.1
        have h3 : ((s[0].toNat : Nat) : Int) = 48 := of_decide_eq_true h3
        have : (48 : UInt8).toNat = 48 := rfl
        omega
      refine And.intro (fun h4 => ?_) (fun h4 => ?_)
      · have h4 : (1 : Int) < (s.length : Int) := of_decide_eq_true h4
        exact ⟨0, by rw [hnl, hh, h3, decide_eq_true (p := 1 < s.length) (by omega)]; simp; rfl, rfl⟩
      · have h4 : ¬ (1 : Int) < (s.length : Int) := of_decide_eq_false h4
        exact ⟨(), ⟨.cons rfl .nil, rfl⟩, ⟨by omega, by omega, by rw [decide_eq_false (p := 1 < s.length) (by omega), Bool.and_false]⟩, rfl⟩
    · refine brF ?_
      exact ⟨(), ⟨.cons rfl .nil, rfl⟩, ⟨by omega, by omega, by
        have : ¬ s[0] = 48 := fun e => by rw [e] at h3; cases h3
        rw [hh, decide_eq_false (by simpa using this), Bool.false_and]⟩, rfl⟩
  rintro _ _ ⟨⟨h1, h2, h3⟩, rfl⟩
  have hnl : numL s = (s.all digB && decide (numV s ≤ 255)) := by rw [hnl, decide_eq_true h1, decide_eq_true h2, h3]; rfl
  rw [hnl]
  refine ⟨Nat, fun k => ⟨[(0, strV s), (4, i64 (numV (s.take k) : Nat)), (25, i64 s.length), (26, i64 (k : Nat))], []⟩, fun k X => k ≤ s.length ∧ (∀ c ∈ s.take k, digB c = true) ∧ numV (s.take k) < 10 ^ k ∧ w = X, fun k => s.length - k, 0, ⟨.cons rfl (.cons rfl (.cons rfl (.cons rfl .nil))), rfl⟩, ⟨Nat.zero_le _, by simp, Nat.one_pos, rfl⟩, ?_⟩
  rintro k _ ⟨hk, hdg, hv, rfl⟩
  dsimp only at hk hdg hv ⊢
  refine And.intro (fun hc => ?_) (fun hc => ?_)
  · have hc : (k : Int) < (s.length : Int) := of_decide_eq_true hc
    have hl : k < s.length := by omega
    refine ⟨k, rfl, hl, s[k], bs_at hl, ?_⟩
    refine Calls.mono (classOf_c _ _) ?_
    rintro e _ ⟨rfl, rfl⟩
    have hd : decide ((clsL s[k] : Int) = 4) = digB s[k] := nat_dec (b := 4)
    refine And.intro (fun hi => ?_) (fun hi => ?_)
    · have hi : digB s[k] = false := by
        have h1 : (!decide ((clsL s[k] : Int) = 4)) = true := hi
        rw [hd] at h1; simpa using h1
      have : s.all digB = false := by
        rw [List.all_eq_false]
        exact ⟨s[k], List.getElem_mem _, by rw [hi]; simp⟩
      exact ⟨0, by rw [this]; rfl, rfl⟩
    · have hi : digB s[k] = true := by
        have h1 : (!decide ((clsL s[k] : Int) = 4)) = false := hi
        rw [hd] at h1; simpa using h1
      obtain ⟨d1, d2⟩ := cls_dig hi
      have hv3 : numV (s.take k) < 1000 := Nat.lt_of_lt_of_le hv (by
        have : k ≤ 3 := by omega
        exact Nat.pow_le_pow_right (by decide) this)
      have hsn := numV_snoc hl
      refine ⟨((10 * numV (s.take k) : Nat) : Int), (wrap_i64 (by omega)).trans (by omega), ?_⟩
      refine ⟨k, rfl, hl, s[k], bs_at hl, ?_⟩
      refine ⟨((s[k].toNat - 48 : Nat) : Int), (wrap_u8 (by omega)).trans (by omega), ?_⟩
      refine ⟨((s[k].toNat - 48 : Nat) : Int), (wrap_i64 (by omega)).trans (by omega), ?_⟩
      refine ⟨(numV (s.take (k + 1)) : Int), (wrap_i64 (by omega)).trans (by omega), ?_⟩
      refine ⟨(k + 1 : Nat), (wrap_i64 (by omega)).trans (by omega), ?_⟩
      refine ⟨k + 1, ⟨.cons rfl (.cons rfl (.cons rfl (.cons rfl .nil))), rfl⟩, ⟨hl, ?_, ?_, rfl⟩, by show s.length - (k + 1) < s.length - k; omega⟩
      · rw [List.take_succ_eq_append_getElem hl]
        intro c hc
        rcases List.mem_append.1 hc with hc | hc
        · exact hdg c hc
        · simp only [List.mem_singleton] at hc
          rw [hc]; exact hi
      · rw [hsn, Nat.pow_succ]; omega
  · have hc : ¬ (k : Int) < (s.length : Int) := of_decide_eq_false hc
    obtain rfl : k = s.length := by omega
    rw [List.take_length] at hdg hv
    have ha : s.all digB = true := List.all_eq_true.2 hdg
    rw [ha, List.take_length]
    have hv3 : numV s < 1000 := Nat.lt_of_lt_of_le hv (Nat.pow_le_pow_right (by decide) h2)
    refine And.intro (fun h5 => ?_) (fun h5 => ?_)
    · have h5 : (255 : Int) < (numV s : Int) := of_decide_eq_true h5
      exact ⟨0, by rw [decide_eq_false (by omega)]; rfl, rfl⟩
    · have h5 : ¬ (255 : Int) < (numV s : Int) := of_decide_eq_false h5
      refine ⟨((UInt8.ofNat (numV s)).toNat : Int), (wrap_u8 (by omega)).trans (by rw [UInt8.toNat_ofNat']; omega), ?_⟩
      exact ⟨UInt8.ofNat (numV s), by rw [decide_eq_true (by omega)]; rfl, rfl⟩
theorem fault3 {t : Tok} (h : t.kind = 3) (hl : 0 < t.text.length) : faultL t = if clsL t.text[0] = 6 then 0 else 40 := by
  obtain ⟨k, x, p⟩ := t
  have h : k = 3 := h
  subst h
  cases x with
  | nil => exact absurd hl (Nat.lt_irrefl 0)
  | cons a r => rfl
theorem fault_c (t : Tok) (ht : t.kind = 3 → t.text ≠ []) (hs : t.text.length ≤ 140737488351232) (w : World) : Calls Tryz.prog 260 #[.agg (tokE.enc t).toArray] w fun e w' => e = .returned (i64 (faultL t)) ∧ Below w.heap.size w w' := by
  refine calls_of_E (S := sg 30) (sgOk _) (args := [.agg (tokE.enc t).toArray]) Tryz.func260 rfl rfl (Nat.le_of_ble_eq_true rfl) rfl ?_
  have hb0 : Below w.heap.size w (w.alloc (.cells (tokE.enc t).toArray 324)) := (Below.refl _ _).alloc (Nat.le_refl _) _
  have f0 := hnew w (.cells (tokE.enc t).toArray 324)
  have c0 : Cells (w.alloc (.cells (tokE.enc t).toArray 324)) ⟨w.heap.size, 0, none⟩ [u8 t.kind, strV t.text, i64 t.pos] := cells_block f0
  have kd : ∀ k : UInt8, decide ((t.kind.toNat : Int) = (k.toNat : Int)) = decide (t.kind = k) := fun k => by
    rw [decide_eq_decide]; exact u8_eq
  refine ⟨_, cells_at c0 (i := 0) rfl, ?_⟩
  refine And.intro (fun h1 => ?_) (fun h1 => ?_)
  · have h1 : t.kind = 1 := of_decide_eq_true ((kd 1).symm.trans h1)
    have e : faultL t = if 16 < t.text.length then 42 else 0 := by unfold faultL; rw [if_pos h1]
    rw [e]
    refine ⟨_, cells_at c0 (i := 1) rfl, ?_⟩
    refine And.intro (fun h2 => ?_) (fun h2 => ?_)
    · have h2 : (16 : Int) < (t.text.length : Int) := of_decide_eq_true h2
      exact ⟨by rw [if_pos (by omega)]; rfl, hb0⟩
    · have h2 : ¬ (16 : Int) < (t.text.length : Int) := of_decide_eq_false h2
      exact ⟨by rw [if_neg (by omega)]; rfl, hb0⟩
  have h1 : ¬ t.kind = 1 := of_decide_eq_false ((kd 1).symm.trans h1)
  refine And.intro (fun h2 => ?_) (fun h2 => ?_)
  · have h2 : t.kind = 2 := of_decide_eq_true ((kd 2).symm.trans h2)
    have e : faultL t = if numL t.text then 0 else 41 := by unfold faultL; rw [if_neg h1, if_pos h2]
    rw [e]
    refine ⟨_, cells_at c0 (i := 1) rfl, ?_⟩
    refine Calls.mono (Num_c t.text hs _) ?_
    rintro e _ ⟨v, rfl, rfl⟩
    refine And.intro (fun h3 => ?_) (fun h3 => ?_)
    · have h3 : (!numL t.text) = true := h3
      have h3 : numL t.text = false := by simpa using h3
      exact ⟨by rw [h3]; rfl, hb0⟩
    · have h3 : (!numL t.text) = false := h3
      have h3 : numL t.text = true := by simpa using h3
      exact ⟨by rw [h3]; rfl, hb0⟩
  have h2 : ¬ t.kind = 2 := of_decide_eq_false ((kd 2).symm.trans h2)
  refine And.intro (fun h3 => ?_) (fun h3 => ?_)
  · have h3 : t.kind = 3 := of_decide_eq_true ((kd 3).symm.trans h3)
    have hne := ht h3
    have hl : 0 < t.text.length := List.length_pos_iff.2 hne
    have e : faultL t = if clsL t.text[0] = 6 then 0 else 40 := fault3 h3 hl
    rw [e]
    refine ⟨_, cells_at c0 (i := 1) rfl, ?_⟩
    refine ⟨0, rfl, hl, t.text[0], bs_at hl, ?_⟩
    refine Calls.mono (classOf_c _ _) ?_
    rintro e _ ⟨rfl, rfl⟩
    refine And.intro (fun h4 => ?_) (fun h4 => ?_)
    · have h4 : (!decide ((clsL t.text[0] : Int) = 6)) = true := h4
      have h4 : ¬ clsL t.text[0] = 6 := by simp at h4; omega
      exact ⟨by rw [if_neg h4]; rfl, hb0⟩
    · have h4 : (!decide ((clsL t.text[0] : Int) = 6)) = false := h4
      have h4 : clsL t.text[0] = 6 := by simp at h4; omega
      exact ⟨by rw [if_pos h4]; rfl, hb0⟩
  have h3 : ¬ t.kind = 3 := of_decide_eq_false ((kd 3).symm.trans h3)
  exact ⟨by unfold faultL; rw [if_neg h1, if_neg h2, if_neg h3]; rfl, hb0⟩
end Go.Proofs.YthgmcegmgjoafaaGreatDoor
namespace Go.Vc
open Go.RowKit
structure StepO (n0 : Nat) (Ow : Nat → Prop) (Fp : World → Nat → Prop) (A B : World) : Prop where
  os : B.os = A.os
  tape : B.tape = A.tape
  output : B.output = A.output
  size : A.heap.size ≤ B.heap.size
  same : ∀ k, k < A.heap.size → ((k < n0 ∧ ¬ Ow k) ∨ Fp A k) → B.heap[k]? = A.heap[k]?
theorem Step.o {n0 : Nat} {Ow : Nat → Prop} {Fp : World → Nat → Prop} {A B : World} (h : Step n0 Fp A B) : StepO n0 Ow Fp A B :=
  ⟨h.os, h.tape, h.output, h.size, fun k hk hf => h.same k hk (hf.imp (fun h => h.1) id)⟩
theorem StepO.mono {n0 n1 : Nat} {Ow : Nat → Prop} {Fp : World → Nat → Prop} {A B : World} (h : StepO n0 Ow Fp A B) (hn : n1 ≤ n0) : StepO n1 Ow Fp A B :=
  ⟨h.os, h.tape, h.output, h.size, fun k hk hf => h.same k hk (hf.imp (fun h => ⟨Nat.lt_of_lt_of_le h.1 hn, h.2⟩) id)⟩
structure IterJO {σ : Type} (n0 : Nat) (Ow : Nat → Prop) (Fp : World → Nat → Prop) (J : σ → World → Prop) : Prop where
  step : ∀ s A B, J s A → StepO n0 Ow Fp A B → J s B ∧ ∀ k, Fp B k → Fp A k
  lt : ∀ s A k, J s A → Fp A k → k < A.heap.size ∧ ¬ Ow k
theorem IterJO.mono {σ : Type} {n0 n1 : Nat} {Ow : Nat → Prop} {Fp : World → Nat → Prop} {J : σ → World → Prop} (h : IterJO n0 Ow Fp J) (hn : n0 ≤ n1) : IterJO n1 Ow Fp J :=
  ⟨fun s A B hj hs => h.step s A B hj (hs.mono hn), h.lt⟩
def IterO {α : Type} (P : Program) (g : Nat) (lb : List Value) (xs : List α) (W0 : World) (Rd Ow : Nat → Prop) (St : List α → List Value → World → Prop) : Prop :=
  ∀ (l : Nat) (Fp : World → Nat → Prop) (J Jx : List α → World → Prop) (W : World), W0.heap.size ≤ W.heap.size → (∀ k, Rd k ∨ Ow k → W.heap[k]? = W0.heap[k]?) → (∀ k, Rd k → ¬ Fp W k) →
    IterJO W.heap.size Ow Fp J → IterJO W.heap.size Ow Fp Jx →
    (∀ pre x vs W1, J pre W1 → St (pre ++ [x]) vs W1 → (pre ++ [x]) <+: xs → YieldR P l vs.toArray W1 fun v W2 =>
      (v = .bool true ∧ J (pre ++ [x]) W2 ∧ Keeps Fp W1 W2) ∨ (v = .bool false ∧ Jx (pre ++ [x]) W2)) →
    J [] W →
    Calls P g (.func (.yield l) #[] #[] :: lb).toArray W fun e W' => (∃ v, e = .returned v) ∧ (J xs W' ∨ ∃ pre, pre <+: xs ∧ Jx pre W')
theorem rangeO {α : Type} {S : Sig} (hS : SigOk S) (hr : S.r = none) {f : Operand} {ps : Array Tmp} {assign body : Code} {E : Env} {w : World} {Q : Exit → Env → World → Prop}
    {gf : Nat} {lb : Array Value} (hg : opd E f = some (.func (.func gf) #[] lb)) (hok : calleeOk S gf = true)
    {xs : List α} {W0 : World} {Rd Ow : Nat → Prop} {St : List α → List Value → World → Prop} (hI : IterO S.P gf lb.toList xs W0 Rd Ow St) (hW0 : W0.heap.size ≤ w.heap.size) (hRd : ∀ k, Rd k ∨ Ow k → k < W0.heap.size ∧ w.heap[k]? = W0.heap[k]?)
    (hps : ∀ pre vs W, St pre vs W → vs.length = ps.size) (hpn : ∀ p ∈ ps.toList, p < S.n)
    (Fp : World → Nat → Prop) (J : List α → World → Prop) (Jx : Exit → List α → World → Prop) (hRF : ∀ k, Rd k → ¬ Fp w k)
    (hJ : IterJO w.heap.size Ow Fp J) (hJx : ∀ ex, IterJO w.heap.size Ow Fp (Jx ex)) (h0 : J [] w)
    (hround : ∀ (l : Nat) (pre : List α) (x : α) (vs : List Value) (W : World), w.heap.size ≤ l → (pre ++ [x]) <+: xs → J pre W → St (pre ++ [x]) vs W → ¬ Fp W l → l < W.heap.size →
      wpE (sr S l) assign ⟨setL ps.toList vs E.vs, []⟩ W fun ex E1 W1 => ex = .normal ∧ Keeps Fp W W1 ∧ J pre W1 ∧
        ∀ o W2, W2 = W1.putObj l o → J pre W2 → (∀ k, Fp W2 k → Fp W1 k) → wpE (sr S l) body E1 W2 (bodyQ Fp J Jx (pre ++ [x]) W2))
    (hdone : ∀ D W, w.heap.size ≤ D → ¬ Fp W D → J xs W → W.heap[D]? = some (.deferred (some [])) → Q .normal ⟨E.vs, { target := .collected D, args := #[] } :: E.ds⟩ W)
    (hstop : ∀ D ex pre W, w.heap.size ≤ D → ¬ Fp W D → pre <+: xs → Jx ex pre W → W.heap[D]? = some (.deferred (some [])) → Q ex ⟨E.vs, { target := .collected D, args := #[] } :: E.ds⟩ W) :
    RangeE S f ps assign body E w Q := by
  intro a ha
  have hcall : ∀ args w, (callFunc gf args).run S.P w = .ok (.enter gf args) w := by
    simp only [calleeOk, Bool.and_eq_true, Nat.ble_eq, Nat.blt_eq] at hok
    exact fun args w => hS.call gf hok.1.1 hok.1.2 hok.2 args w
  refine wpIn_rangeFunc ?_
  intro fn hfn
  have hro : (FR S.r).round = none := hr
  rw [hro]
  obtain ⟨rec, hrec⟩ : ∃ rec : LoopState → Option Code → Loop, rec = fun st pe => { state := st, pending := pe, fn, tmps := a.tmps, params := ps, assign, body, defers := w.heap.size } := ⟨_, rfl⟩
  obtain ⟨W1, hW1⟩ : ∃ W1, (w.alloc (.deferred (some []))).alloc (.loop (rec .ready none)) = W1 := ⟨_, rfl⟩
  have hK0 := hnew w (.deferred (some []))
  have hK1 : W1.heap[w.heap.size]? = some (.deferred (some [])) := by rw [← hW1]; exact hold _ hK0
  have hL1 : W1.heap[w.heap.size + 1]? = some (.loop (rec .ready none)) := by
    rw [← hW1]; have := hnew (w.alloc (.deferred (some []))) (.loop (rec .ready none)); rwa [World.size_alloc] at this
  have hs1 : W1.heap.size = w.heap.size + 2 := by rw [← hW1]; simp
  have hst1 : Step w.heap.size Fp w W1 := by
    rw [← hW1]; exact .of_below (((Below.refl _ w).alloc (Nat.le_refl _) _).alloc (by simp) _)
  obtain ⟨hJ1, hF1⟩ := hJ.step _ _ _ h0 hst1.o
  have hOl : ∀ k, w.heap.size ≤ k → ¬ Ow k := fun k hk ho => by have := (hRd k (.inr ho)).1; omega
  have hFl : ∀ k, Fp W1 k → k < w.heap.size := fun k hk => (hJ.lt _ _ k h0 (hF1 k hk)).1
  refine ⟨w.heap.size + 1, [{ target := .collected w.heap.size, args := #[] }], W1, { target := .fn (.func gf) lb, args := #[.func (.yield (w.heap.size + 1)) #[] #[]] }, W1, gf,
    #[.func (.yield (w.heap.size + 1)) #[] #[]] ++ lb, W1, ?_, ?_, fun _ _ => trivial, ?_, fun h => by simp [FR] at h, ?_⟩
  · rw [← hW1, hrec]; exact run_enterLoop_outer _ _ _ _ _
  · have hg' := ha.eval hg
    simp only [resolve, hg']
    simp [go_sem]
  · simp [invoke, go_sem, hcall]
  · have hargs : #[Value.func (.yield (w.heap.size + 1)) #[] #[]] ++ lb = (Value.func (.yield (w.heap.size + 1)) #[] #[] :: lb.toList).toArray := by rw [← Array.toList_inj]; simp
    rw [hargs]
    have book : ∀ {σ : Type} {K : σ → World → Prop} (lo : Loop), IterJO w.heap.size Ow Fp K → IterJO W1.heap.size Ow Fp (fun s W => K s W ∧ W.heap[w.heap.size + 1]? = some (.loop lo) ∧ W.heap[w.heap.size]? = some (.deferred (some [])) ∧ ¬ Fp W (w.heap.size + 1) ∧ ¬ Fp W w.heap.size) := by
      intro σ K lo hK
      refine ⟨fun s A B ⟨hk, hl, hd, hf1, hf2⟩ hs => ?_, fun s A k ⟨hk, _⟩ hf => hK.lt s A k hk hf⟩
      obtain ⟨h1, h2⟩ := hK.step s A B hk (hs.mono (by omega))
      exact ⟨⟨h1, (hs.same _ (hlt hl) (.inl ⟨by omega, hOl _ (by omega)⟩)).trans hl, (hs.same _ (hlt hd) (.inl ⟨by omega, hOl _ (by omega)⟩)).trans hd, fun h => hf1 (h2 _ h), fun h => hf2 (h2 _ h)⟩, h2⟩
    have hcalls := hI (w.heap.size + 1) Fp (fun pre W => J pre W ∧ W.heap[w.heap.size + 1]? = some (.loop (rec .ready none)) ∧ W.heap[w.heap.size]? = some (.deferred (some [])) ∧ ¬ Fp W (w.heap.size + 1) ∧ ¬ Fp W w.heap.size)
      (fun pre W => ∃ ex c, ((ex = .ret ∧ c = .ret) ∨ ∃ id, ex = .exit id ∧ c = .exit id) ∧ Jx ex pre W ∧ W.heap[w.heap.size + 1]? = some (.loop (rec .done (some c))) ∧ W.heap[w.heap.size]? = some (.deferred (some [])) ∧ ¬ Fp W (w.heap.size + 1) ∧ ¬ Fp W w.heap.size)
      W1 (by omega) (fun k hk => by
        obtain ⟨h1, h2⟩ := hRd k hk
        rw [← h2]
        exact hst1.same k (by omega) (.inl (by omega))) (fun k hk hf => hRF k hk (hF1 k hf)) (book _ hJ)
      ⟨fun s A B ⟨ex, c, hc, hrest⟩ hs => by
        have := (book (rec .done (some c)) (hJx ex)).step s A B hrest hs
        exact ⟨⟨ex, c, hc, this.1⟩, this.2⟩,
       fun s A k ⟨ex, c, hc, hrest⟩ hf => (hJx ex).lt s A k hrest.1 hf⟩ ?_ ⟨hJ1, hL1, hK1, fun h => by have := hFl _ h; omega, fun h => by have := hFl _ h; omega⟩
    · refine callsIn_of (hcalls.mono ?_)
      rintro e W2 ⟨⟨v, rfl⟩, (⟨hj, hl, hk, hf1, hf2⟩ | ⟨pre, hpre, ex, c, hc, hj, hl, hk, hf1, hf2⟩)⟩
      · have hst : Step w.heap.size Fp W2 (W2.putObj (w.heap.size + 1) (.loop (rec .exhausted none))) := .put (by omega) hf1 _
        obtain ⟨hj2, hfp2⟩ := hJ.step _ _ _ hj hst.o
        refine ⟨none, _, by have := run_endLoop (P := S.P) hl (by rw [hrec]; simp); rw [hrec] at this; exact this, ?_⟩
        rw [hrec] at hj2 hfp2
        exact ⟨⟨E.vs, { target := .collected w.heap.size, args := #[] } :: E.ds⟩, ⟨ha.size, by simp [ha.defers], ha.val⟩, hdone w.heap.size _ (Nat.le_refl _) (fun h => hf2 (hfp2 _ h)) hj2 ((heap_put_old (by omega)).trans hk)⟩
      · have hst : Step w.heap.size Fp W2 (W2.putObj (w.heap.size + 1) (.loop (rec .exhausted (some c)))) := .put (by omega) hf1 _
        obtain ⟨hj2, hfp2⟩ := (hJx ex).step _ _ _ hj hst.o
        refine ⟨some c, _, by have := run_endLoop (P := S.P) hl (by rw [hrec]; simp); rw [hrec] at this; exact this, ?_⟩
        rw [hrec] at hj2 hfp2
        have hq := hstop w.heap.size ex pre _ (Nat.le_refl _) (fun h => hf2 (hfp2 _ h)) hpre hj2 ((heap_put_old (by omega)).trans hk)
        rcases hc with ⟨rfl, rfl⟩ | ⟨id, rfl, rfl⟩
        · exact wpIn_ret ⟨⟨E.vs, { target := .collected w.heap.size, args := #[] } :: E.ds⟩, ⟨ha.size, by simp [ha.defers], ha.val⟩, hq⟩
        · exact wpIn_exit ⟨⟨E.vs, { target := .collected w.heap.size, args := #[] } :: E.ds⟩, ⟨ha.size, by simp [ha.defers], ha.val⟩, hq⟩
    · -- one round
      rintro pre x vs W ⟨hj, hl, hk, hf1, hf2⟩ hst0 hpre
      have hy := run_yield (P := S.P) (args := vs.toArray) hl (by rw [hrec]; simpa using hps _ _ _ hst0)
      rw [hrec] at hy
      refine ⟨fn, _, assign, body, hy, roundIn_any (r := none) (n := NN) (roundIn_of_wpIn (F := FR none) trivial ?_)⟩
      have hag : Agrees (sr S (w.heap.size + 1)) { tmps := (ps.zip vs.toArray).foldl (fun t (p, v) => t.setIfInBounds p v) a.tmps, defers := [] } ⟨setL ps.toList vs E.vs, []⟩ := by
        have h1 : Agrees (sr S (w.heap.size + 1)) { a with defers := [] } ⟨E.vs, []⟩ := ⟨ha.size, rfl, ha.val⟩
        have h2 := setL_agrees ps.toList vs _ _ h1 hpn
        have e : (ps.zip vs.toArray).foldl (fun t (p, v) => t.setIfInBounds p v) a.tmps = (ps.toList.zip vs).foldl (fun t (p, v) => t.setIfInBounds p v) a.tmps := by
          rw [← Array.foldl_toList]; simp
        rw [e]; exact h2
      have hw := wpE_sound (sr_ok hS _) assign _ _ W _ hag (hround (w.heap.size + 1) pre x vs W (by omega) hpre hj hst0 hf1 (hlt hl))
      refine wpIn_mono hw ?_
      rintro ex a1 Wa ⟨E1, hag1, rfl, hk1, hj1, hbody⟩
      have hla := (hk1.same _ (hlt hl) hf1).trans hl
      have hka := (hk1.same _ (hlt hk) hf2).trans hk
      have hfa1 : ¬ Fp Wa (w.heap.size + 1) := fun h => by rcases hk1.fp _ h with h | h; exact hf1 h; have := hlt hl; omega
      have hfa2 : ¬ Fp Wa w.heap.size := fun h => by rcases hk1.fp _ h with h | h; exact hf2 h; have := hlt hk; omega
      refine ⟨_, run_beginRound hla (by rw [hrec]), ?_⟩
      have hst : Step w.heap.size Fp Wa (Wa.putObj (w.heap.size + 1) (.loop { rec .ready none with state := .busy })) := .put (by omega) hfa1 _
      obtain ⟨hj2, hfp2⟩ := hJ.step _ _ _ hj1 hst.o
      have hw2 := wpE_sound (sr_ok hS _) body _ _ _ _ hag1 (hbody _ _ rfl hj2 hfp2)
      refine wpIn_mono hw2 ?_
      have hl2 : (Wa.putObj (w.heap.size + 1) (.loop { rec .ready none with state := .busy })).heap[w.heap.size + 1]? = some (.loop { rec .ready none with state := .busy }) := heap_put hla
      have hk2 : (Wa.putObj (w.heap.size + 1) (.loop { rec .ready none with state := .busy })).heap[w.heap.size]? = some (.deferred (some [])) := (heap_put_old (by omega)).trans hka
      have hfb1 : ¬ Fp (Wa.putObj (w.heap.size + 1) (.loop { rec .ready none with state := .busy })) (w.heap.size + 1) := fun h => hfa1 (hfp2 _ h)
      have hfb2 : ¬ Fp (Wa.putObj (w.heap.size + 1) (.loop { rec .ready none with state := .busy })) w.heap.size := fun h => hfa2 (hfp2 _ h)
      have fin : ∀ (jump : Option Code) (W3 : World), Keeps Fp (Wa.putObj (w.heap.size + 1) (.loop { rec .ready none with state := .busy })) W3 →
          (Instr.endRound (w.heap.size + 1) jump).run S.P W3 = .ok (.bool jump.isNone) (W3.putObj (w.heap.size + 1) (.loop (rec (if jump.isNone then .ready else .done) jump))) ∧
          (W3.putObj (w.heap.size + 1) (.loop (rec (if jump.isNone then .ready else .done) jump))).heap[w.heap.size + 1]? = some (.loop (rec (if jump.isNone then .ready else .done) jump)) ∧
          (W3.putObj (w.heap.size + 1) (.loop (rec (if jump.isNone then .ready else .done) jump))).heap[w.heap.size]? = some (.deferred (some [])) ∧
          Step w.heap.size Fp W3 (W3.putObj (w.heap.size + 1) (.loop (rec (if jump.isNone then .ready else .done) jump))) ∧ ¬ Fp W3 (w.heap.size + 1) ∧ ¬ Fp W3 w.heap.size := fun jump W3 hk3 => by
        have hl3 := (hk3.same _ (hlt hl2) hfb1).trans hl2
        have hd3 := (hk3.same _ (hlt hk2) hfb2).trans hk2
        have hf31 : ¬ Fp W3 (w.heap.size + 1) := fun h => by rcases hk3.fp _ h with h | h; exact hfb1 h; have := hlt hl2; omega
        have hf32 : ¬ Fp W3 w.heap.size := fun h => by rcases hk3.fp _ h with h | h; exact hfb2 h; have := hlt hk2; omega
        have := run_endRound (P := S.P) jump hl3
        rw [hrec] at this ⊢
        exact ⟨this, heap_put hl3, (heap_put_old (by omega)).trans hd3, .put (by omega) hf31 _, hf31, hf32⟩
      rintro e a3 W3 ⟨E3, _, hq⟩
      cases e with
      | normal =>
        obtain ⟨hj3, hk3⟩ := hq
        obtain ⟨hr3, hl4, hk4, hs3, hf31, hf32⟩ := fin none W3 hk3
        obtain ⟨hj4, hfp4⟩ := hJ.step _ _ _ hj3 hs3.o
        refine ⟨_, _, hr3, .inl ⟨rfl, ⟨hj4, hl4, hk4, fun h => hf31 (hfp4 _ h), fun h => hf32 (hfp4 _ h)⟩, ?_⟩⟩
        refine ⟨hs3.os.trans (hk3.os.trans hk1.os), hs3.tape.trans (hk3.tape.trans hk1.tape), hs3.output.trans (hk3.output.trans hk1.output), ?_, fun k hk5 hf5 => ?_, fun k hk5 => ?_⟩
        · have h1 := hk1.size; have h2 := hst.size; have h3 := hk3.size; have h4 := hs3.size; omega
        · by_cases hkl : k = w.heap.size + 1
          · subst hkl; rw [hl4, hl]; rfl
          · have h1 : ¬ Fp Wa k := fun h => by rcases hk1.fp _ h with h | h; exact hf5 h; omega
            have h2 := hk1.size; have h3 := hst.size
            rw [heap_put_old hkl, hk3.same k (by omega) (fun h => h1 (hfp2 _ h)), heap_put_old hkl]
            exact hk1.same k hk5 hf5
        · have h1 := hfp4 _ hk5
          rcases hk3.fp _ h1 with h2 | h2
          · exact hk1.fp _ (hfp2 _ h2)
          · have h3 := hk1.size; have h4 := hst.size; exact .inr (by omega)
      | ret =>
        obtain ⟨hj3, hk3⟩ := hq
        obtain ⟨hr3, hl4, hk4, hs3, hf31, hf32⟩ := fin (some .ret) W3 hk3
        obtain ⟨hj4, hfp4⟩ := (hJx .ret).step _ _ _ hj3 hs3.o
        exact ⟨_, _, hr3, .inr ⟨rfl, .ret, .ret, .inl ⟨rfl, rfl⟩, hj4, hl4, hk4, fun h => hf31 (hfp4 _ h), fun h => hf32 (hfp4 _ h)⟩⟩
      | exit id =>
        obtain ⟨hj3, hk3⟩ := hq
        obtain ⟨hr3, hl4, hk4, hs3, hf31, hf32⟩ := fin (some (.exit id)) W3 hk3
        obtain ⟨hj4, hfp4⟩ := (hJx (.exit id)).step _ _ _ hj3 hs3.o
        exact ⟨_, _, hr3, .inr ⟨rfl, .exit id, .exit id, .inr ⟨id, rfl, rfl⟩, hj4, hl4, hk4, fun h => hf31 (hfp4 _ h), fun h => hf32 (hfp4 _ h)⟩⟩
      | goto t => exact hq.elim
      | panic ch => exact hq.elim
      | outgrown => exact hq.elim
end Go.Vc
namespace Go.Proofs.YthgmcegmgjoafaaGreatDoor
open Go.Vc Go.RowKit Go.Sei
theorem grown_new {a b c : World} {g r : Nat} (h : a.grownBy b (some g)) (k : b.grownBy c (some r)) (hr : a.heap.size ≤ r) : a.grownBy c (some g) :=
  ⟨k.os.trans h.os, k.tape.trans h.tape, k.output.trans h.output, Nat.le_trans h.size k.size, fun i hi hne => (k.block i (Nat.lt_of_lt_of_le hi h.size) (fun e => by simp only [Option.some.injEq] at e; omega)).trans (h.block i hi hne)⟩
theorem min_run {x y : Int} {T : Array TypeId} {t : TypeId} {w : World} {K : Value → World → Prop} (k : K (.int .i64 (if y < x then y else x)) w) : SatR ((Builtin.min_ T t [Value.int .i64 x, .int .i64 y].toArray).run Tryz.prog w) K :=
  SatR.mk (v := .int .i64 (if y < x then y else x)) (w' := w) (by simp [Builtin.min_, Builtin.min2]) k
section
variable {s : List UInt8} {f a : Nat} {op : Bool}
theorem next_tok (h : passL s a < s.length) (h2 : ¬ clsL s[passL s a] = 2) : nextX s (f + 1) a op = some (tokL s (passL s a) s[passL s a], endL s (passL s a) s[passL s a], true) := by
  unfold nextX; rw [List.getElem?_eq_getElem h]; simp only [if_neg h2]
theorem next_end (h : atEndL s (passL s a) = true) : nextX s (f + 1) a true = some (⟨4, [], passL s a⟩, min (passL s a + 1) s.length, false) := by
  unfold nextX
  by_cases hp : passL s a < s.length
  · rw [atEnd_lt hp] at h
    have h := of_decide_eq_true h
    rw [List.getElem?_eq_getElem hp]; simp only [if_pos h]; rfl
  · rw [List.getElem?_eq_none (by omega)]; rfl
theorem next_over (h : s.length ≤ passL s a) : nextX s (f + 1) a false = none := by
  unfold nextX; rw [List.getElem?_eq_none h]; rfl
theorem next_more (h : passL s a < s.length) (h2 : clsL s[passL s a] = 2) : nextX s (f + 1) a false = nextX s f (min (passL s a + 1) s.length) false := by
  conv => lhs; unfold nextX
  rw [List.getElem?_eq_getElem h]; simp only [if_pos h2]; rfl
theorem pass_ge : a ≤ passL s a := by
  have h1 : a ≤ blanksL s a := Nat.le_add_right _ _
  unfold passL
  split
  · split
    · omega
    · exact h1
  · exact h1
end
def zTok : Tok := ⟨0, [], 0⟩
theorem next_c {g a : Nat} {s : List UInt8} {op : Bool} {w : World} (h : ScV w g s a op) (ha : a ≤ s.length) (hs : s.length ≤ 140737488351232) :
    Calls Tryz.prog 259 #[.pointer (some ⟨g, 0, none⟩)] w fun e w' => ∃ t a' op' ok, e = .returned (.tuple #[.agg (tokE.enc t).toArray, .bool ok]) ∧ (ok = true → nextX s (s.length + 2) a op = some (t, a', op')) ∧ (ok = false → nextX s (s.length + 2) a op = none) ∧
      a' ≤ s.length ∧ ScV w' g s a' op' ∧ w.grownBy w' (some g) := by
  refine calls_of_E (S := sg 57) (sgOk _) (args := [.pointer (some ⟨g, 0, none⟩)]) Tryz.func259 rfl rfl (Nat.le_of_ble_eq_true rfl) rfl ?_
  obtain ⟨r, hr⟩ : ∃ r, r = w.heap.size := ⟨_, rfl⟩
  have hgl : g < r := by rw [hr]; exact hlt h
  obtain ⟨W0, hW0⟩ : ∃ W0, W0 = w.alloc (.cells (tokE.enc zTok).toArray 324) := ⟨_, rfl⟩
  have hb0 : Below w.heap.size w W0 := by rw [hW0]; exact (Below.refl _ _).alloc (Nat.le_refl _) _
  have f0 : W0.heap[r]? = some (.cells (tokE.enc zTok).toArray 324 (0, 0)) := by rw [hW0, hr]; exact hnew w _
  have h0 : ScV W0 g s a op := h.below hb0
  refine ⟨Nat × Nat × Bool, fun k => ⟨[(0, .pointer (some ⟨g, 0, none⟩)), (2, .pointer (some ⟨r, 0, none⟩))], []⟩, fun k X => s.length + 1 ≤ k.1 + k.2.1 ∧ k.2.1 ≤ s.length ∧ nextX s (k.1 + 1) k.2.1 k.2.2 = nextX s (s.length + 2) a op ∧ ScV X g s k.2.1 k.2.2 ∧ w.grownBy X (some g) ∧ X.heap[r]? = some (.cells (tokE.enc zTok).toArray 324 (0, 0)),
    fun k => s.length - k.2.1, (s.length + 1, a, op), ⟨.cons rfl (.cons (by rw [hr]; rfl) .nil), rfl⟩, ⟨by omega, ha, rfl, by subst hW0; exact h0, by subst hW0; exact grown_of_below hb0, by subst hW0; exact f0⟩, ?_⟩
  clear hW0 hb0 f0 h0 W0
  rintro ⟨f, k, o⟩ X ⟨hf, hk, hn, hX, gX, fX⟩
  dsimp only at hf hk hn hX gX fX ⊢
  have fillR : ∀ (t : Tok) (Y : World), Y.heap[r]? = some (.cells (tokE.enc zTok).toArray 324 (0, 0)) → ∀ (K : World → Prop), (∀ R, R.heap[r]? = some (.cells (tokE.enc t).toArray 324 (0, 0)) → Y.grownBy R (some r) → K R) →
      SatR ((storeVar 324 ⟨r, 0, none⟩ (.agg (tokE.enc t).toArray)).run Tryz.prog Y) fun _ w' => K w' := fun t Y fY K q =>
    store_box (v := .agg (tokE.enc t).toArray) (ttOk.get 324 _ rfl) fY rfl rfl rfl (q _ (setRow_new fY) (grown_setRow Y _ _))
  have keepR : ∀ {A B : World}, A.grownBy B (some g) → A.heap[r]? = some (.cells (tokE.enc zTok).toArray 324 (0, 0)) → B.heap[r]? = some (.cells (tokE.enc zTok).toArray 324 (0, 0)) := fun hg hA => (hg.block _ (hlt hA) (fun e => by simp only [Option.some.injEq] at e; omega)).trans hA
  have keepS : ∀ {A B : World} {a : Nat} {o : Bool} {q : Nat}, A.grownBy B (some q) → g ≠ q → ScV A g s a o → ScV B g s a o := fun hg hq hA => (hg.block _ (hlt hA) (fun e => hq (by simpa using e))).trans hA
  refine Calls.mono (pass_c hX hk hs) ?_
  rintro e Y ⟨⟨v, rfl⟩, hY, gY⟩
  have hp := pass_le (s := s) hk
  have hpk := pass_ge (s := s) (a := k)
  have fY := keepR gY fX
  have gwY := grown_trans gX gY
  refine Calls.mono (atEnd_c hY.cells (hlt hY)) ?_
  rintro e Z ⟨rfl, hbZ⟩
  have hZ := hY.below hbZ
  have gwZ := grown_b gwY hbZ
  have fZ := block_below hbZ fY
  refine And.intro (fun hc => ?_) (fun hc => ?_)
  · have hc : atEndL s (passL s k) = false := by
      have h1 : (!atEndL s (passL s k)) = true := hc
      simpa using h1
    have hl : passL s k < s.length := by
      by_cases h1 : passL s k < s.length
      · exact h1
      · rw [atEnd_ge (by omega)] at hc; cases hc
    rw [atEnd_lt hl] at hc
    have hc := of_decide_eq_false hc
    rw [next_tok hl hc] at hn
    refine put_open hZ true fun U hU gU sU => ?_
    have gwU := grown_trans gwZ gU
    have fU := keepR gU fZ
    refine Calls.mono (token_c hU hl hs) ?_
    rintro e V ⟨rfl, hV, gV⟩
    have gwV := grown_trans gwU gV
    refine fillR _ V (keepR gV fU) _ fun R fR gR => ?_
    refine ⟨_, rfl, cells_block fR, ?_⟩
    exact ⟨_, _, _, true, rfl, fun _ => hn.symm, fun h => (by cases h), (end_ge hl _).2, keepS gR (by omega) hV, grown_new gwV gR (by omega)⟩
  have hc : atEndL s (passL s k) = true := by
    have h1 : (!atEndL s (passL s k)) = false := hc
    simpa using h1
  refine ⟨_, cells_at hZ.cells (i := 1) rfl, ?_⟩
  refine ⟨tokE.enc ⟨4, [], passL s k⟩, rfl, ?_⟩
  refine store_new (X := Z) (v := .agg (tokE.enc ⟨4, [], passL s k⟩).toArray) (ttOk.get 324 _ rfl) rfl rfl rfl fun U hbU fU4 sU => ?_
  have fU4 : U.heap[Z.heap.size]? = some (.cells (tokE.enc ⟨4, [], passL s k⟩).toArray 324 (0, 0)) := fU4
  have hU := hZ.below hbU
  have gwU := grown_b gwZ hbU
  have fU := block_below hbU fZ
  have hzs : r < Z.heap.size := hlt fZ
  refine Calls.mono (over_c hU.cells) ?_
  rintro e V ⟨rfl, hbV⟩
  have hV := hU.below hbV
  have gwV := grown_b gwU hbV
  have fV := block_below hbV fU
  have fV4 := block_below hbV fU4
  refine DrawE.ord [17] [0, 1, 2, 3, 4, 5, 6, 7, 8, 9, 10, 11, 12, 13, 14, 15, 16, 17] (by kernel_rfl) ?_
  have hVd : ScV V.drew g s (passL s k) o := hV
  refine ⟨_, cells_at hVd.cells (i := 1) rfl, ?_⟩
  refine ⟨(passL s k + 1 : Nat), (wrap_i64 (by omega)).trans (by omega), ?_⟩
  refine ⟨_, cells_at hVd.cells (i := 0) rfl, ?_⟩
  refine min_run ?_
  refine ⟨Below.refl _ _, ?_⟩
  have hmin : (if ((s.length : Nat) : Int) < ((passL s k + 1 : Nat) : Int) then ((s.length : Nat) : Int) else ((passL s k + 1 : Nat) : Int)) = ((min (passL s k + 1) s.length : Nat) : Int) := by
    split <;> omega
  have e5 : Value.int .i64 (if (((bs s).size : Nat) : Int) < ((passL s k + 1 : Nat) : Int) then (((bs s).size : Nat) : Int) else ((passL s k + 1 : Nat) : Int)) = i64 (min (passL s k + 1) s.length : Nat) := by
    rw [show (bs s).size = s.length from rfl, hmin]; rfl
  rw [e5]
  refine put_at hVd (min (passL s k + 1) s.length) fun R hR gR sR => ?_
  have gwR := grown_trans (grown_trans gwV (grown_of_below (Below.refl _ V).drew)) gR
  have fR := keepR gR (hdr fV)
  have fR4 : R.heap[Z.heap.size]? = some (.cells (tokE.enc ⟨4, [], passL s k⟩).toArray 324 (0, 0)) := (gR.block _ (hlt (hdr fV4)) (fun e => by simp only [Option.some.injEq] at e; omega)).trans (hdr fV4)
  refine ⟨_, cells_at (cells_block hR) (i := 2) rfl, ?_⟩
  refine And.intro (fun ho => ?_) (fun ho => ?_)
  · have ho : o = true := ho
    subst ho
    rw [next_end hc] at hn
    refine put_open hR false fun T hT gT sT => ?_
    have gwT := grown_trans gwR gT
    have fT := keepR gT fR
    have fT4 : T.heap[Z.heap.size]? = some (.cells (tokE.enc ⟨4, [], passL s k⟩).toArray 324 (0, 0)) := (gT.block _ (hlt fR4) (fun e => by simp only [Option.some.injEq] at e; omega)).trans fR4
    refine ⟨_, rfl, cells_block fT4, hlt fT4, ?_⟩
    refine fillR ⟨4, [], passL s k⟩ T fT _ fun L fL gL => ?_
    refine ⟨_, rfl, cells_block fL, ?_⟩
    exact ⟨_, _, _, true, rfl, fun _ => hn.symm, fun h => (by cases h), Nat.min_le_right _ _, keepS gL (by omega) hT, grown_new gwT gL (by omega)⟩
  · have ho : o = false := ho
    subst ho
    refine And.intro (fun h5 => ?_) (fun h5 => ?_)
    · have h5 : s.length ≤ passL s k := of_decide_eq_true h5
      rw [next_over h5] at hn
      refine ⟨tokE.enc zTok, rfl, ?_⟩
      refine fillR zTok R fR _ fun L fL gL => ?_
      refine ⟨_, rfl, cells_block fL, ?_⟩
      exact ⟨_, _, _, false, rfl, fun h => (by cases h), fun _ => hn.symm, Nat.min_le_right _ _, keepS gL (by omega) hR, grown_new gwR gL (by omega)⟩
    · have h5 : ¬ s.length ≤ passL s k := of_decide_eq_false h5
      have hl : passL s k < s.length := by omega
      have h2 : clsL s[passL s k] = 2 := by rw [atEnd_lt hl] at hc; exact of_decide_eq_true hc
      rw [next_more hl h2] at hn
      have hmn : min (passL s k + 1) s.length = passL s k + 1 := Nat.min_eq_left (by omega)
      obtain ⟨f', rfl⟩ : ∃ f', f = f' + 1 := ⟨f - 1, by omega⟩
      exact ⟨(f', min (passL s k + 1) s.length, false), ⟨.cons rfl (.cons rfl .nil), rfl⟩, ⟨by show _ ≤ f' + min _ _; omega, Nat.min_le_right _ _, hn, hR, gwR, fR⟩, by show s.length - min _ _ < s.length - k; omega⟩
end Go.Proofs.YthgmcegmgjoafaaGreatDoor
namespace Go.Proofs.YthgmcegmgjoafaaGreatDoor
open Go.Vc Go.RowKit Go.Sei
def bOp (op : Bool) : Nat := if op then 1 else 0
theorem next_cases {s : List UInt8} {f a a' : Nat} {op op' : Bool} {t : Tok} (h : nextX s (f + 1) a op = some (t, a', op')) :
    (∃ hl : passL s a < s.length, t = tokL s (passL s a) s[passL s a] ∧ a' = endL s (passL s a) s[passL s a] ∧ op' = true) ∨ (op = true ∧ t = ⟨4, [], passL s a⟩ ∧ a' = min (passL s a + 1) s.length ∧ op' = false) ∨
      (op = false ∧ passL s a < s.length ∧ nextX s f (min (passL s a + 1) s.length) false = some (t, a', op')) := by
  by_cases hp : passL s a < s.length
  · by_cases h2 : clsL s[passL s a] = 2
    · cases op with
      | true =>
        rw [next_end (by rw [atEnd_lt hp]; exact decide_eq_true h2)] at h
        simp only [Option.some.injEq, Prod.mk.injEq] at h
        exact .inr (.inl ⟨rfl, h.1.symm, h.2.1.symm, h.2.2.symm⟩)
      | false =>
        rw [next_more hp h2] at h
        exact .inr (.inr ⟨rfl, hp, h⟩)
    · rw [next_tok hp h2] at h
      simp only [Option.some.injEq, Prod.mk.injEq] at h
      exact .inl ⟨hp, h.1.symm, h.2.1.symm, h.2.2.symm⟩
  · cases op with
    | true =>
      rw [next_end (atEnd_ge (by omega))] at h
      simp only [Option.some.injEq, Prod.mk.injEq] at h
      exact .inr (.inl ⟨rfl, h.1.symm, h.2.1.symm, h.2.2.symm⟩)
    | false => rw [next_over (by omega)] at h; cases h
theorem next_dec {s : List UInt8} {t : Tok} {a' : Nat} {op' : Bool} : ∀ {f a : Nat} {op : Bool}, nextX s f a op = some (t, a', op') → a ≤ s.length →
    a' ≤ s.length ∧ 2 * (s.length - a') + bOp op' < 2 * (s.length - a) + bOp op ∧ (t.kind = 3 → t.text ≠ []) ∧ t.text.length ≤ s.length
  | 0, _, _, h, _ => by cases h
  | f + 1, a, op, h, ha => by
    have hpa := pass_ge (s := s) (a := a)
    have hpl := pass_le ha
    rcases next_cases h with ⟨hl, rfl, rfl, rfl⟩ | ⟨rfl, rfl, rfl, rfl⟩ | ⟨rfl, hl, h'⟩
    · obtain ⟨e1, e2⟩ := end_ge hl s[passL s a]
      refine ⟨e2, ?_, fun _ => ?_, ?_⟩
      · have : bOp true = 1 := rfl
        omega
      · intro he
        have h1 : ((s.drop (passL s a)).take (endL s (passL s a) s[passL s a] - passL s a)).length = 0 := by
          have : (tokL s (passL s a) s[passL s a]).text = [] := he
          exact congrArg List.length this
        rw [List.length_take, List.length_drop] at h1
        omega
      · show ((s.drop (passL s a)).take _).length ≤ _
        rw [List.length_take, List.length_drop]; omega
    · refine ⟨Nat.min_le_right _ _, ?_, fun h => (by cases h), Nat.zero_le _⟩
      have h1 : bOp true = 1 := rfl
      have h0 : bOp false = 0 := rfl
      omega
    · obtain ⟨h1, h2, h3⟩ := next_dec h' (Nat.min_le_right _ _)
      refine ⟨h1, ?_, h3⟩
      omega
theorem toks_step {s : List UInt8} {f a a' : Nat} {op op' : Bool} {t : Tok} (h : nextX s (s.length + 2) a op = some (t, a', op')) : toksL s (f + 1) a op = t :: toksL s f a' op' := by
  show (match nextX s (s.length + 2) a op with
    | some (t, a', op') => t :: toksL s f a' op'
    | none => []) = _
  rw [h]
theorem toks_stop {s : List UInt8} {f a : Nat} {op : Bool} (h : nextX s (s.length + 2) a op = none) : toksL s (f + 1) a op = [] := by
  show (match nextX s (s.length + 2) a op with
    | some (t, a', op') => t :: toksL s f a' op'
    | none => []) = _
  rw [h]
def StT (pre : List Tok) (vs : List Value) (_ : World) : Prop := ∃ t, pre.getLast? = some t ∧ vs = [.agg (tokE.enc t).toArray, i64 (faultL t)]
theorem tokens_c {g : Nat} {w : World} : Calls Tryz.prog 242 #[.pointer (some ⟨g, 0, none⟩)] w fun e w' => e = .returned (.func (.func 258) #[] #[.pointer (some ⟨w.heap.size, 0, none⟩)]) ∧ w' = w.alloc (.cells #[.pointer (some ⟨g, 0, none⟩)] 342) := by
  refine calls_of_E (S := sg 4) (sgOk _) (args := [.pointer (some ⟨g, 0, none⟩)]) Tryz.func242 rfl rfl (Nat.le_of_ble_eq_true rfl) rfl ?_
  exact ⟨rfl, rfl⟩
theorem tokens1_c {g bx : Nat} {s : List UInt8} {W0 : World} (h : ScV W0 g s 0 false) (hbx : W0.heap[bx]? = some (.cells #[.pointer (some ⟨g, 0, none⟩)] 342 (0, 0))) (hne : bx ≠ g) (hs : s.length ≤ 140737488351232) :
    IterO Tryz.prog 258 [.pointer (some ⟨bx, 0, none⟩)] (toksOf s) W0 (fun k => k = bx) (fun k => k = g) StT := by
  intro yl Fp J Jx W hsz hrd hrf hJ hJx hy h0
  have hbW : W.heap[bx]? = some (.cells #[.pointer (some ⟨g, 0, none⟩)] 342 (0, 0)) := (hrd bx (.inl rfl)).trans hbx
  have hgW : ScV W g s 0 false := (hrd g (.inr rfl)).trans h
  have hbs : bx < W0.heap.size := hlt hbx
  have hgs : g < W0.heap.size := hlt h
  refine calls_of_E (S := sg 23) (sgOk _) (args := [.func (.yield yl) #[] #[], .pointer (some ⟨bx, 0, none⟩)]) Tryz.func258 rfl rfl (Nat.le_of_ble_eq_true rfl) rfl ?_
  let Inv : List Tok → World → Prop := fun pre X => J pre X ∧ W.heap.size ≤ X.heap.size ∧ X.heap[bx]? = some (.cells #[.pointer (some ⟨g, 0, none⟩)] 342 (0, 0)) ∧ ¬ Fp X bx
  have stepG : ∀ pre X Y, Inv pre X → X.grownBy Y (some g) → Inv pre Y ∧ ∀ k, Fp Y k → Fp X k := fun pre X Y ⟨h1, h2, h3, h4⟩ hg => by
    have hst : StepO W.heap.size (fun k => k = g) Fp X Y := ⟨hg.os, hg.tape, hg.output, hg.size, fun k hk hf => hg.block k hk (fun e => by
      have e : g = k := (by simpa using e : k = g).symm
      rcases hf with hf | hf
      · exact hf.2 e.symm
      · exact (hJ.lt _ _ _ h1 hf).2 e.symm)⟩
    obtain ⟨j1, j2⟩ := hJ.step _ _ _ h1 hst
    refine ⟨⟨j1, Nat.le_trans h2 hg.size, (hg.block _ (hlt h3) (fun e => hne (by simpa using e))).trans h3, fun hf => h4 (j2 _ hf)⟩, j2⟩
  have stepB : ∀ pre X Y, Inv pre X → Below X.heap.size X Y → Inv pre Y ∧ ∀ k, Fp Y k → Fp X k := fun pre X Y hI hb => stepG pre X Y hI (grown_of_below hb)
  have I0 : Inv [] W := ⟨h0, Nat.le_refl _, hbW, hrf bx rfl⟩
  refine ⟨_, cells_at (cells_block hbW) (i := 0) rfl, ?_⟩
  refine Calls.mono (next_c hgW (Nat.zero_le _) hs) ?_
  rintro e Y ⟨t, a, op, ok, rfl, hok, hno, ha, hY, gY⟩
  obtain ⟨I1, _⟩ := stepG [] W Y I0 gY
  refine store_new (X := Y) (v := .agg (tokE.enc t).toArray) (ttOk.get 324 _ rfl) rfl rfl rfl fun Z hbZ fZ sZ => ?_
  have fZ : Z.heap[Y.heap.size]? = some (.cells (tokE.enc t).toArray 324 (0, 0)) := fZ
  obtain ⟨I2, q2⟩ := stepB [] Y Z I1 hbZ
  refine ⟨List Tok × Nat × Nat × Bool × Bool × Tok × Nat, fun q => ⟨[(0, .func (.yield yl) #[] #[]), (1, .pointer (some ⟨bx, 0, none⟩)), (3, .pointer (some ⟨q.2.2.2.2.2.2, 0, none⟩)), (4, .bool q.2.2.2.2.1)], []⟩,
    fun q X => Inv q.1 X ∧ (q.2.2.2.2.1 = true → toksOf s = q.1 ++ q.2.2.2.2.2.1 :: toksL s q.2.1 q.2.2.1 q.2.2.2.1) ∧ (q.2.2.2.2.1 = false → toksOf s = q.1) ∧ (q.2.2.2.2.1 = true → 2 * (s.length - q.2.2.1) + bOp q.2.2.2.1 < q.2.1) ∧ q.2.2.1 ≤ s.length ∧ ScV X g s q.2.2.1 q.2.2.2.1 ∧
      X.heap[q.2.2.2.2.2.2]? = some (.cells (tokE.enc q.2.2.2.2.2.1).toArray 324 (0, 0)) ∧ W.heap.size ≤ q.2.2.2.2.2.2 ∧ ¬ Fp X q.2.2.2.2.2.2 ∧ (q.2.2.2.2.1 = true → (q.2.2.2.2.2.1.kind = 3 → q.2.2.2.2.2.1.text ≠ []) ∧ q.2.2.2.2.2.1.text.length ≤ s.length),
    fun q => q.2.1, ([], 2 * s.length + 2, a, op, ok, t, Y.heap.size), ⟨.cons rfl (.cons rfl (.cons rfl (.cons rfl .nil))), rfl⟩, ⟨I2, ?_, ?_, ?_, ha, hY.below hbZ, fZ, gY.size, ?_, ?_⟩, ?_⟩
  · intro h1
    exact toks_step (hok h1)
  · intro h1
    exact toks_stop (hno h1)
  · intro h3
    have := (next_dec (hok h3) (Nat.zero_le _)).2.1
    have h0 : bOp false = 0 := rfl
    dsimp only
    omega
  · intro hf
    have h9 : Y.heap.size < Y.heap.size := (hJ.lt _ _ _ I1.1 (q2 _ hf)).1
    omega
  · intro h1
    exact (next_dec (hok h1) (Nat.zero_le _)).2.2
  clear I2 q2 fZ hbZ sZ I1 gY hY hok hno ha
  rintro ⟨pre, f, a, op, ok, t, tb⟩ X ⟨hI, h1, h2, hf, ha, hX, ft, htb, hft, hgd⟩
  dsimp only at hI h1 h2 hf ha hX ft htb hft hgd ⊢
  refine And.intro (fun hok => ?_) (fun hok => ?_)
  · have hok : ok = true := hok
    subst hok
    have h1 := h1 rfl
    have hf := hf rfl
    obtain ⟨g1, g2⟩ := hgd rfl
    have hpre : (pre ++ [t]) <+: toksOf s := ⟨toksL s f a op, by rw [h1]; simp⟩
    refine DrawE.ord [4] [0, 1, 2, 3, 4, 5] (by kernel_rfl) ?_
    refine ⟨_, rfl, cells_block (hdr ft), hlt (hdr ft), ?_⟩
    refine ⟨_, rfl, cells_block (hdr ft), hlt (hdr ft), ?_⟩
    refine Calls.mono (fault_c t g1 (by omega) X.drew) ?_
    rintro e U ⟨rfl, hbU⟩
    refine ⟨hbU, ?_⟩
    have hXU : Below X.heap.size X U := (Below.refl _ X).drew.trans hbU
    obtain ⟨IU, qU⟩ := stepB pre X U hI hXU
    have fU := block_below hXU ft
    have hU := hX.below hXU
    have hftU : ¬ Fp U tb := fun h => hft (qU _ h)
    refine YieldR.mono (hy pre t _ U IU.1 ⟨t, by simp, rfl⟩ hpre) ?_
    rintro v V (⟨rfl, hJV, hKV⟩ | ⟨rfl, hJV⟩)
    · refine And.intro (fun h => by cases h) (fun _ => ?_)
      have IU' := IU
      obtain ⟨_, iu2, iu3, iu4⟩ := IU'
      have hUs := hKV.size
      have hgF : ¬ Fp U g := fun h => (hJ.lt _ _ _ IU.1 h).2 rfl
      have hbV : V.heap[bx]? = _ := (hKV.same bx (hlt iu3) iu4).trans iu3
      have hV : ScV V g s a op := (hKV.same g (hlt hU) hgF).trans hU
      have fV := (hKV.same tb (hlt fU) hftU).trans fU
      have nF : ∀ k, k < U.heap.size → ¬ Fp U k → ¬ Fp V k := fun k hk h1 h2 => by
        rcases hKV.fp k h2 with h3 | h3
        · exact h1 h3
        · omega
      have IV : Inv (pre ++ [t]) V := ⟨hJV, by omega, hbV, nF bx (hlt iu3) iu4⟩
      refine ⟨_, rfl, cells_block fV, hlt fV, ?_⟩
      refine store_new (X := V) (v := .agg (tokE.enc t).toArray) (ttOk.get 324 _ rfl) rfl rfl rfl fun R hbR fR sR => ?_
      have fR : R.heap[V.heap.size]? = some (.cells (tokE.enc t).toArray 324 (0, 0)) := fR
      obtain ⟨IR, qR⟩ := stepB (pre ++ [t]) V R IV hbR
      have hnR : ¬ Fp R V.heap.size := fun h => by have := (hJ.lt _ _ _ IV.1 (qR _ h)).1; omega
      refine ⟨_, cells_at (cells_block IR.2.2.1) (i := 0) rfl, ?_⟩
      refine Calls.mono (next_c (hV.below hbR) ha hs) ?_
      rintro e L ⟨t', a', op', ok', rfl, hok', hno', ha', hL, gL⟩
      obtain ⟨IL, qL⟩ := stepG (pre ++ [t]) R L IR gL
      have hVs : W.heap.size ≤ V.heap.size := IV.2.1
      have hgV : g ≠ V.heap.size := by omega
      have hbV2 : bx ≠ V.heap.size := by omega
      have fL : L.heap[V.heap.size]? = some (.cells (tokE.enc t).toArray 324 (0, 0)) := (gL.block _ (hlt fR) (fun e => hgV (by simpa using e.symm))).trans fR
      refine store_box (v := .agg (tokE.enc t').toArray) (ttOk.get 324 _ rfl) fL rfl rfl rfl ?_
      obtain ⟨f', rfl⟩ : ∃ f', f = f' + 1 := ⟨f - 1, by omega⟩
      have hnL : ¬ Fp L V.heap.size := fun h => hnR (qL _ h)
      have hst : StepO W.heap.size (fun k => k = g) Fp L (L.setRow V.heap.size (Value.agg (tokE.enc t').toArray).cells) := ⟨rfl, rfl, rfl, by simp, fun k hk hf => setRow_old (fun e => by
        subst e
        rcases hf with hf | hf
        · omega
        · exact hnL hf)⟩
      obtain ⟨j1, j2⟩ := hJ.step _ _ _ IL.1 hst
      refine ⟨(pre ++ [t], f', a', op', ok', t', V.heap.size), ⟨.cons rfl (.cons rfl (.cons rfl (.cons rfl .nil))), rfl⟩, ⟨⟨j1, by simp; exact IL.2.1, (setRow_old hbV2).trans IL.2.2.1, fun h => IL.2.2.2 (j2 _ h)⟩, ?_, ?_, ?_, ha', (setRow_old hgV).trans hL, setRow_new fL, hVs, fun h => hnL (j2 _ h), ?_⟩, by show f' < f' + 1; omega⟩
      · intro h3
        rw [h1]
        show pre ++ t :: toksL s (f' + 1) a op = (pre ++ [t]) ++ _
        rw [toks_step (hok' h3)]; simp
      · intro h3
        rw [h1]
        show pre ++ t :: toksL s (f' + 1) a op = pre ++ [t]
        rw [toks_stop (hno' h3)]
      · intro h3
        have := (next_dec (hok' h3) ha).2.1
        dsimp only
        omega
      · intro h3
        exact (next_dec (hok' h3) ha).2.2
    · refine And.intro (fun _ => ?_) (fun h => by cases h)
      exact And.intro ⟨_, rfl⟩ (.inr ⟨_, hpre, hJV⟩)
  · have hok : ok = false := hok
    subst hok
    have h2 := h2 rfl
    exact ⟨⟨_, rfl⟩, .inl (by rw [h2]; exact hI.1)⟩
end Go.Proofs.YthgmcegmgjoafaaGreatDoor
namespace Go.Vc
open Go.RowKit
theorem putAt_all : ∀ (A B C : List Value), B.length = C.length → putAt (A ++ B) A.length C = A ++ C
  | A, B, [], h => by
    have : B = [] := List.eq_nil_of_length_eq_zero h
    subst this; rfl
  | A, [], c :: C, h => by simp at h
  | A, b :: B, c :: C, h => by
    have e : (A ++ b :: B).set A.length c = (A ++ [c]) ++ B := by
      rw [List.set_append_right _ _ (Nat.le_refl _), Nat.sub_self]; simp
    rw [putAt, e]
    have := putAt_all (A ++ [c]) B C (by simpa using h)
    rw [List.length_append] at this
    exact this.trans (by simp)
theorem fill_one {n : Nat} {x : Operand} {z cs : List Value} (hc : cs.length = n) (hz : z.length = n) : fillL (fun i => some (i * n, n)) (zrep z 1) (zipN [(0, x)] [.agg cs.toArray]) = some cs := by
  have e1 : zrep z 1 = z := by simp [zrep]
  have e2 : (Value.agg cs.toArray).cells.size = n := by show cs.length = n; exact hc
  simp only [zipN, fillL, e1, e2, Nat.zero_mul, Nat.zero_add, hz]
  simp only [Nat.beq_refl, Nat.ble_self_eq_true, Bool.and_self]
  have : (Value.agg cs.toArray).cells.toList = cs := rfl
  rw [this]
  have := putAt_all [] z cs (by rw [hz, hc])
  simp at this
  rw [this]
theorem one_new {α : Type} (E : Enc α) (a : α) {w : World} {t : TypeId} : Cells (w.alloc (.cells (E.enc a).toArray t)) ⟨w.heap.size, 0, none⟩ ([a].flatMap E.enc) := by
  rw [List.flatMap_singleton]; exact cells_new
theorem store_part {P : Program} {w : World} {g : Nat} {Te : TypeId} {iT : TI} (hT : TIok P Te iT) {cs : Array Value} {t : TypeId} (hg : w.heap[g]? = some (.cells cs t (0, 0))) {o : Nat} {v : Value} (hv : v.cells.size = iT.size) (ho : o + v.cells.size ≤ cs.size)
    (h1 : v.cells.toList.all Value.oneCell' = true) {K : World → Prop}
    (k : ∀ w', w'.heap[g]? = some (.cells (cs.toList.take o ++ v.cells.toList ++ cs.toList.drop (o + v.cells.size)).toArray t (0, 0)) → w.grownBy w' (some g) → w'.heap.size = w.heap.size → K w') :
    SatR ((storeVar Te ⟨g, o, none⟩ v).run P w) fun _ w' => K w' := by
  obtain ⟨⟨inf, hinf, hsz, _, _⟩, _⟩ := hT
  have hst := run_storeCells_at P g o t v.cells.toList 0 cs w hg (by simpa using ho) (List.all_eq_true.1 h1)
  have hrun : (sizeOf Te).run P w = .ok v.cells.size w := by simp [sizeOf, typeInfo, hinf, hsz, hv]
  refine SatR.mk (v := ()) (w' := w.setRow g (cs.toList.take o ++ v.cells.toList ++ cs.toList.drop (o + v.cells.size)).toArray) ?_ (k _ (setRow_new hg) (grown_setRow w g _) (by simp))
  simp only [storeVar, Sem.run_bind, hrun, Result.andThen_ok]
  simpa using hst
end Go.Vc
namespace Go.Vc
open Go.RowKit
def freeB (ind : Nat → Nat → Bool) (ops : Array Oper) (k : Nat) (listed : Array Bool) : Bool :=
  (List.range ops.size).all fun i => Nat.beq i k || listed.getD i false || ind k i || waits ops ops.size k i
def covF (rec_ : Array Bool → OT → Bool) (ind : Nat → Nat → Bool) (ops : Array Oper) (listed : Array Bool) (T : OT) : Bool :=
  !(Region.ready .any ops listed).isEmpty && (Region.ready .any ops listed).all fun i =>
      match OT.first ind i T with
      | some T' => rec_ (listed.setIfInBounds i true) T'
      | none => false
def covQ (ind : Nat → Nat → Bool) (ops : Array Oper) : Nat → Array Bool → OT → Bool
  | 0, listed, T => (Region.ready .any ops listed).isEmpty && (match T with | .nil => true | _ => false)
  | m + 1, listed, .op k T' => (match (Region.ready .any ops listed).contains k && freeB ind ops k listed with
    | true => covQ ind ops m (listed.setIfInBounds k true) T'
    | false => covF (covQ ind ops m) ind ops listed (.op k T'))
  | m + 1, listed, .nil => covF (covQ ind ops m) ind ops listed .nil
  | m + 1, listed, .alt x y => covF (covQ ind ops m) ind ops listed (.alt x y)
section
variable {ind : Nat → Nat → Bool} {ops : Array Oper}
def Closed (ops : Array Oper) (L : Array Bool) : Prop := ∀ j o, L.getD j false = true → ops[j]? = some o → ∀ e ∈ o.after, Region.binds .any e = true → L.getD e.on false = true
theorem getD_set {L : Array Bool} {k j : Nat} {d : Bool} (h : j ≠ k) : (L.setIfInBounds k true).getD j d = L.getD j d := by
  have : ¬ k = j := fun e => h e.symm
  simp [Array.getD_eq_getD_getElem?, Array.getElem?_setIfInBounds, this]
theorem getD_mono {L : Array Bool} {k j : Nat} (h : L.getD j false = true) : (L.setIfInBounds k true).getD j false = true := by
  by_cases e : j = k
  · subst e
    have hl : j < L.size := by
      by_cases hl : j < L.size
      · exact hl
      · simp [hl] at h
    simp [Array.getD_eq_getD_getElem?, hl]
  · rw [getD_set e]; exact h
theorem ready_mono {L : Array Bool} {k i : Nat} (h : i ∈ Region.ready .any ops L) (hne : i ≠ k) : i ∈ Region.ready .any ops (L.setIfInBounds k true) := by
  obtain ⟨h1, o, ho, h2⟩ := mem_ready.1 h
  exact mem_ready.2 ⟨by rw [getD_set hne]; exact h1, o, ho, fun e he hb => getD_mono (h2 e he hb)⟩
theorem ready_unlisted {L : Array Bool} {i : Nat} (h : i ∈ Region.ready .any ops L) : L.getD i false = false ∧ i < L.size := by
  obtain ⟨h1, _⟩ := mem_ready.1 h
  by_cases hl : i < L.size
  · simp [Array.getD_eq_getD_getElem?, hl] at h1 ⊢; exact h1
  · simp [hl] at h1
theorem closed_set {L : Array Bool} (hc : Closed ops L) {k : Nat} (hk : k ∈ Region.ready .any ops L) : Closed ops (L.setIfInBounds k true) := by
  obtain ⟨h1, o, ho, h2⟩ := mem_ready.1 hk
  intro j oj hj hoj e he hb
  by_cases e1 : j = k
  · subst e1
    rw [ho] at hoj; cases hoj
    exact getD_mono (h2 e he hb)
  · rw [getD_set e1] at hj
    exact getD_mono (hc j oj hj hoj e he hb)
theorem set_comm {L : Array Bool} {i k : Nat} : (L.setIfInBounds i true).setIfInBounds k true = (L.setIfInBounds k true).setIfInBounds i true := by
  apply Array.ext_getElem?
  intro j
  simp only [Array.getElem?_setIfInBounds, Array.size_setIfInBounds]
  split <;> split <;> simp_all
theorem freeB_mono {k i : Nat} {L : Array Bool} (h : freeB ind ops k L = true) : freeB ind ops k (L.setIfInBounds i true) = true := by
  simp only [freeB, List.all_eq_true, Bool.or_eq_true, List.mem_range] at h ⊢
  intro j hj
  rcases h j hj with ((h | h) | h) | h
  · exact .inl (.inl (.inl h))
  · exact .inl (.inl (.inr (getD_mono h)))
  · exact .inl (.inr h)
  · exact .inr h
theorem free_ind {k i : Nat} {L : Array Bool} (hc : Closed ops L) (hf : freeB ind ops k L = true) (hk : k ∈ Region.ready .any ops L) (hi : i ∈ Region.ready .any ops L) (hne : i ≠ k) : ind k i = true := by
  obtain ⟨h1, o, ho, h2⟩ := mem_ready.1 hi
  simp only [freeB, List.all_eq_true, Bool.or_eq_true, List.mem_range] at hf
  rcases hf i (Array.getElem?_eq_some_iff.1 ho).1 with ((h | h) | h) | h
  · exact absurd (Nat.eq_of_beq_eq_true h) hne
  · rw [(ready_unlisted hi).1] at h; cases h
  · exact h
  · have := waits_listed hc _ k i o ho h2 h
    rw [(ready_unlisted hk).1] at this; cases this
theorem covF_next {rec_ : Array Bool → OT → Bool} {L : Array Bool} {T : OT} (h : covF rec_ ind ops L T = true) : (Region.ready .any ops L).isEmpty = false ∧ ∀ i ∈ Region.ready .any ops L, ∃ T', OT.first ind i T = some T' ∧ rec_ (L.setIfInBounds i true) T' = true := by
  simp only [covF, Bool.and_eq_true, Bool.not_eq_true', List.all_eq_true] at h
  refine ⟨h.1, fun i hi => ?_⟩
  have := h.2 i hi
  split at this
  · rename_i T' hT; exact ⟨T', hT, this⟩
  · cases this
theorem covQ_next : ∀ (m : Nat) (L : Array Bool) (T : OT), Closed ops L → covQ ind ops (m + 1) L T = true →
    (Region.ready .any ops L).isEmpty = false ∧ ∀ i ∈ Region.ready .any ops L, ∃ T', OT.first ind i T = some T' ∧ covQ ind ops m (L.setIfInBounds i true) T' = true := by
  intro m
  induction m with
  | zero =>
    intro L T hc h
    cases T with
    | nil => exact covF_next h
    | alt x y => exact covF_next h
    | op k T' =>
      simp only [covQ] at h
      split at h
      · rename_i hf
        simp only [Bool.and_eq_true, List.contains_eq_mem, decide_eq_true_eq] at hf
        refine ⟨List.isEmpty_eq_false_iff.2 (List.ne_nil_of_mem hf.1), fun i hi => ?_⟩
        by_cases e : i = k
        · subst e; exact ⟨T', by simp [OT.first], h⟩
        · have := ready_mono hi e
          simp only [Bool.and_eq_true, List.isEmpty_iff] at h
          rw [h.1] at this; cases this
      · exact covF_next h
  | succ m ih =>
    intro L T hc h
    cases T with
    | nil => exact covF_next h
    | alt x y => exact covF_next h
    | op k T' =>
      unfold covQ at h
      split at h
      · rename_i hf
        simp only [Bool.and_eq_true, List.contains_eq_mem, decide_eq_true_eq] at hf
        refine ⟨List.isEmpty_eq_false_iff.2 (List.ne_nil_of_mem hf.1), fun i hi => ?_⟩
        by_cases e : i = k
        · subst e; exact ⟨T', by simp [OT.first], h⟩
        · obtain ⟨T'', h1, h2⟩ := (ih _ T' (closed_set hc hf.1) h).2 i (ready_mono hi e)
          refine ⟨.op k T'', ?_, ?_⟩
          · have : ¬ k = i := fun e2 => e e2.symm
            rw [OT.first, if_neg this, if_pos (free_ind hc hf.2 hf.1 hi e), h1]; rfl
          · have hk2 : k ∈ Region.ready .any ops (L.setIfInBounds i true) := ready_mono hf.1 (fun e2 => e e2.symm)
            have hb : ((Region.ready .any ops (L.setIfInBounds i true)).contains k && freeB ind ops k (L.setIfInBounds i true)) = true := by
              simp only [Bool.and_eq_true, List.contains_eq_mem, decide_eq_true_eq]
              exact ⟨hk2, freeB_mono hf.2⟩
            unfold covQ
            rw [hb]
            rw [set_comm]
            exact h2
      · exact covF_next h
theorem covQ_covT : ∀ (m : Nat) (L : Array Bool) (T : OT), Closed ops L → covQ ind ops m L T = true → covT ind ops m L T = true
  | 0, L, T, _, h => h
  | m + 1, L, T, hc, h => by
    obtain ⟨h1, h2⟩ := covQ_next m L T hc h
    simp only [covT, Bool.and_eq_true, Bool.not_eq_true', List.all_eq_true]
    refine ⟨h1, fun i hi => ?_⟩
    obtain ⟨T', h3, h4⟩ := h2 i hi
    rw [h3]
    exact covQ_covT m _ T' (closed_set hc hi) h4
theorem DrawE.treeQ {S : Sig} {ops : Array Oper} {E : Env} {w : World} {K : Env → World → Prop} {QP : List PanicEntry → World → Prop} (X : List Nat) (T : OT)
    (h : (covQ (indepB S.τ X ops) ops ops.size (Array.replicate ops.size false) T && ops.all (fun o => noSel o.op)) = true) (k : opsT S ops.toList X QP T E w.drew K) : DrawE S ops E w K QP :=
  .inr ⟨X, T, by
    simp only [Bool.and_eq_true] at h ⊢
    refine ⟨covQ_covT _ _ _ (fun j o hj => ?_) h.1, h.2⟩
    by_cases hl : j < ops.size <;> simp [hl] at hj, k⟩
end
end Go.Vc
namespace Go.Proofs.YthgmcegmgjoafaaGreatDoor
open Go.Vc Go.RowKit Go.Sei
def lexOK (s : List UInt8) : Bool := decide (s.length ≤ 16384) && (toksOf s).all (fun t => decide (faultL t = 0))
theorem toks_len {s : List UInt8} : ∀ {f a : Nat} {op : Bool}, (toksL s f a op).length ≤ f
  | 0, _, _ => Nat.le_refl _
  | f + 1, a, op => by
    unfold toksL
    split
    · exact Nat.succ_le_succ toks_len
    · exact Nat.zero_le _
def FpX (L : Nat) (X : World) (k : Nat) : Prop := k = L ∨ k = L + 1 ∨ k = L + 2 ∨ ∃ a n cap, X.heap[L]? = some (.cells #[.slice (some a) n cap] 319 (0, 0)) ∧ k = a.block
structure ResX (L : Nat) (X : World) (v : Value) (pl er : Int) : Prop where
  l : X.heap[L]? = some (.cells #[v] 319 (0, 0))
  p : X.heap[L + 1]? = some (.cells #[i64 pl] 3 (0, 0))
  e : X.heap[L + 2]? = some (.cells #[i64 er] 54 (0, 0))
def JX (w : World) (L B : Nat) (pre : List Tok) (X : World) : Prop := Below w.heap.size w X ∧ (∀ t ∈ pre, faultL t = 0) ∧ ∃ p cap, ResX L X (.slice p pre.length cap) 0 0 ∧ OwnS tokE 324 B X p cap pre
def JxX (w : World) (L : Nat) (pre : List Tok) (X : World) : Prop := Below w.heap.size w X ∧ (∃ t ∈ pre, faultL t ≠ 0) ∧ ∃ pl er, ResX L X (.slice none 0 0) pl er ∧ er ≠ 0
theorem FpX.row {L : Nat} {X : World} {p : Option Addr} {n cap : Nat} {pl er : Int} (h : ResX L X (.slice p n cap) pl er) {k : Nat} (hf : FpX L X k) : k = L ∨ k = L + 1 ∨ k = L + 2 ∨ ∃ a, p = some a ∧ k = a.block := by
  rcases hf with hf | hf | hf | ⟨a, n', cap', h1, h2⟩
  · exact .inl hf
  · exact .inr (.inl hf)
  · exact .inr (.inr (.inl hf))
  · have := h.l
    rw [h1] at this
    simp at this
    exact .inr (.inr (.inr ⟨a, this.1.symm, h2⟩))
theorem ResX.same {L : Nat} {A B : World} {v : Value} {pl er : Int} (h : ResX L A v pl er) (hs : ∀ k, k = L ∨ k = L + 1 ∨ k = L + 2 → B.heap[k]? = A.heap[k]?) : ResX L B v pl er :=
  ⟨(hs L (.inl rfl)).trans h.l, (hs _ (.inr (.inl rfl))).trans h.p, (hs _ (.inr (.inr rfl))).trans h.e⟩
theorem JX.iter {w : World} {L B n0 g : Nat} (hw : w.heap.size ≤ L) (hL : L + 2 < g) (hg : g < n0) (hB : B = n0) : IterJO n0 (fun k => k = g) (FpX L) (JX w L B) := by
  subst hB
  refine ⟨fun pre A C ⟨hb, hf, p, cap, hr, ho⟩ hs => ?_, fun pre A k ⟨hb, hf, p, cap, hr, ho⟩ hk => ?_⟩
  · have hr' : ResX L C (.slice p pre.length cap) 0 0 := hr.same fun k hk => hs.same k (by rcases hk with rfl | rfl | rfl; exact hlt hr.l; exact hlt hr.p; exact hlt hr.e) (.inl ⟨by omega, by omega⟩)
    have hrow : ∀ a, p = some a → C.heap[a.block]? = A.heap[a.block]? := fun a ha => by
      rcases ho.inv with ⟨rfl, _⟩ | ⟨g', cur, rfl, _, hg', _⟩
      · cases ha
      · cases ha
        exact hs.same _ (hlt hg') (.inr (.inr (.inr (.inr ⟨_, _, _, hr.l, rfl⟩))))
    refine ⟨⟨⟨hs.os.trans hb.os, hs.tape.trans hb.tape, hs.output.trans hb.output, Nat.le_trans hb.size hs.size, fun k hk => (hs.same k (Nat.lt_of_lt_of_le hk hb.size) (.inl ⟨by omega, by omega⟩)).trans (hb.block k hk)⟩, hf, p, cap, hr', ho.same hrow⟩, fun k hk => ?_⟩
    rcases FpX.row hr' hk with rfl | rfl | rfl | ⟨a, rfl, rfl⟩
    · exact .inl rfl
    · exact .inr (.inl rfl)
    · exact .inr (.inr (.inl rfl))
    · exact .inr (.inr (.inr ⟨_, _, _, hr.l, rfl⟩))
  · rcases FpX.row hr hk with rfl | rfl | rfl | ⟨a, rfl, rfl⟩
    · exact ⟨hlt hr.l, by omega⟩
    · exact ⟨hlt hr.p, by omega⟩
    · exact ⟨hlt hr.e, by omega⟩
    · rcases ho.inv with ⟨h, _⟩ | ⟨g', cur, h, hB, hg', _⟩
      · cases h
      · cases h
        exact ⟨hlt hg', by show ¬ g' = g; omega⟩
theorem JxX.iter {w : World} {L n0 g : Nat} (hw : w.heap.size ≤ L) (hL : L + 2 < g) (hg : g < n0) : IterJO n0 (fun k => k = g) (FpX L) (JxX w L) := by
  refine ⟨fun pre A C ⟨hb, hf, pl, er, hr, he⟩ hs => ?_, fun pre A k ⟨hb, hf, pl, er, hr, he⟩ hk => ?_⟩
  · have hr' : ResX L C (.slice none 0 0) pl er := hr.same fun k hk => hs.same k (by rcases hk with rfl | rfl | rfl; exact hlt hr.l; exact hlt hr.p; exact hlt hr.e) (.inl ⟨by omega, by omega⟩)
    refine ⟨⟨⟨hs.os.trans hb.os, hs.tape.trans hb.tape, hs.output.trans hb.output, Nat.le_trans hb.size hs.size, fun k hk => (hs.same k (Nat.lt_of_lt_of_le hk hb.size) (.inl ⟨by omega, by omega⟩)).trans (hb.block k hk)⟩, hf, pl, er, hr', he⟩, fun k hk => ?_⟩
    rcases FpX.row hr' hk with rfl | rfl | rfl | ⟨a, h, _⟩
    · exact .inl rfl
    · exact .inr (.inl rfl)
    · exact .inr (.inr (.inl rfl))
    · cases h
  · rcases FpX.row hr hk with rfl | rfl | rfl | ⟨a, h, _⟩
    · exact ⟨hlt hr.l, by omega⟩
    · exact ⟨hlt hr.p, by omega⟩
    · exact ⟨hlt hr.e, by omega⟩
    · cases h
end Go.Proofs.YthgmcegmgjoafaaGreatDoor
namespace Go.Proofs.YthgmcegmgjoafaaGreatDoor
open Go.Vc Go.RowKit Go.Sei
abbrev nl0 : Value := .slice none 0 0
theorem Lex_c (s : List UInt8) (hs : s.length ≤ 140737488351232) (w : World) :
    Calls Tryz.prog 233 #[strV s] w fun e w' => ∃ p cap n pl er, e = .returned (.tuple #[.slice p n cap, i64 pl, i64 er]) ∧ (lexOK s = true → er = 0 ∧ n = (toksOf s).length ∧ SlR tokE w' p (toksOf s)) ∧ (lexOK s = false → er ≠ 0) ∧ Below w.heap.size w w' := by
  refine calls_of_M (S := sg 27) (sgOk _) (args := [strV s]) (.c .p (.c .p .p)) Tryz.func233 rfl rfl (Nat.le_of_ble_eq_true rfl) rfl ?_
  obtain ⟨L, hL⟩ : ∃ L, L = w.heap.size := ⟨_, rfl⟩
  have z1 : (w.alloc (.cells #[nl0] 319)).heap.size = L + 1 := by rw [World.size_alloc, hL]
  have z2 : ((w.alloc (.cells #[nl0] 319)).alloc (.cells #[i64 0] 3)).heap.size = L + 2 := by rw [World.size_alloc, z1]
  obtain ⟨W0, hW0⟩ : ∃ W0, W0 = ((w.alloc (.cells #[nl0] 319)).alloc (.cells #[i64 0] 3)).alloc (.cells #[i64 0] 54) := ⟨_, rfl⟩
  have hb0 : Below w.heap.size w W0 := by rw [hW0]; exact (((Below.refl _ _).alloc (Nat.le_refl _) _).alloc (by simp) _).alloc (by rw [z2]; omega) _
  have hs0 : W0.heap.size = L + 3 := by rw [hW0, World.size_alloc, z2]
  have r0 : ResX L W0 nl0 0 0 := by
    rw [hW0]
    refine ⟨?_, ?_, ?_⟩
    · rw [hL]; exact hold _ (hold _ (hnew w _))
    · rw [← z1]; exact hold _ (hnew _ _)
    · rw [← z2]; exact hnew _ _
  have p1 : some (Value.pointer (some ⟨(w.alloc (.cells #[nl0] 319)).heap.size, 0, none⟩)) = some (Value.pointer (some ⟨L + 1, 0, none⟩)) := by rw [z1]
  have p2 : some (Value.pointer (some ⟨((w.alloc (.cells #[nl0] 319)).alloc (.cells #[i64 0] 3)).heap.size, 0, none⟩)) = some (Value.pointer (some ⟨L + 2, 0, none⟩)) := by rw [z2]
  have put3 : ∀ (X : World) (v0 : Value) (a0 b0 : Int), ResX L X v0 a0 b0 → ∀ (pl er : Int) (K : World → Prop), (∀ Y, ResX L Y (.slice none 0 0) pl er → Below w.heap.size X Y → X.heap.size = Y.heap.size → (∀ k, k ≠ L → k ≠ L + 1 → k ≠ L + 2 → Y.heap[k]? = X.heap[k]?) → K Y) →
      SatR ((storeVar 319 ⟨L, 0, none⟩ (.slice none 0 0)).run Tryz.prog X) fun _ Y1 => SatR ((storeVar 3 ⟨L + 1, 0, none⟩ (i64 pl)).run Tryz.prog Y1) fun _ Y2 => SatR ((storeVar 54 ⟨L + 2, 0, none⟩ (i64 er)).run Tryz.prog Y2) fun _ Y3 => K Y3 := by
    intro X v0 a0 b0 hr pl er K k
    refine store_box (v := .slice none 0 0) (ttOk.get 319 _ rfl) hr.l rfl rfl rfl ?_
    have q1 : (X.setRow L (Value.slice none 0 0).cells).heap[L + 1]? = some (.cells #[i64 a0] 3 (0, 0)) := (setRow_old (by omega)).trans hr.p
    refine store_box (v := i64 pl) (ttOk.get 3 _ rfl) q1 rfl rfl rfl ?_
    have q2 : ((X.setRow L (Value.slice none 0 0).cells).setRow (L + 1) (i64 pl).cells).heap[L + 2]? = some (.cells #[i64 b0] 54 (0, 0)) := (setRow_old (by omega)).trans ((setRow_old (by omega)).trans hr.e)
    refine store_box (v := i64 er) (ttOk.get 54 _ rfl) q2 rfl rfl rfl ?_
    refine k _ ⟨?_, ?_, setRow_new q2⟩ ?_ (by simp) ?_
    · exact (setRow_old (by omega)).trans ((setRow_old (by omega)).trans (setRow_new hr.l))
    · exact (setRow_old (by omega)).trans (setRow_new q1)
    · exact below_setRow (below_setRow (below_setRow (Below.refl _ X) (by omega) _) (by omega) _) (by omega) _
    · intro k h1 h2 h3
      exact (setRow_old h3).trans ((setRow_old h2).trans (setRow_old h1))
  refine ⟨Unit, fun _ => ⟨[(0, strV s), (2, .pointer (some ⟨L, 0, none⟩)), (3, .pointer (some ⟨L + 1, 0, none⟩)), (4, .pointer (some ⟨L + 2, 0, none⟩))], []⟩, fun _ X => W0 = X, ?_, ?_⟩
  · exact ⟨(), ⟨.cons rfl (.cons (by rw [hL]; rfl) (.cons p1 (.cons p2 .nil))), rfl⟩, hW0⟩
  clear hW0 p1 p2 z1 z2
  rintro _ _ rfl
  refine ⟨Unit, fun _ => ⟨[(0, strV s), (2, .pointer (some ⟨L, 0, none⟩)), (3, .pointer (some ⟨L + 1, 0, none⟩)), (4, .pointer (some ⟨L + 2, 0, none⟩))], []⟩, fun _ X => s.length ≤ 16384 ∧ W0 = X, ?_, ?_⟩
  · refine And.intro (fun h => ?_) (fun h => ?_)
    · have h : (16384 : Int) < (s.length : Int) := of_decide_eq_true h
      have hno : lexOK s = false := by unfold lexOK; rw [decide_eq_false (by omega)]; rfl
      refine put3 W0 _ _ _ r0 0 3 _ fun Y hY hb hsz _ => ?_
      refine ⟨_, cells_at (cells_block hY.l) (i := 0) rfl, ?_⟩
      refine ⟨_, cells_at (cells_block hY.p) (i := 0) rfl, ?_⟩
      refine ⟨_, cells_at (cells_block hY.e) (i := 0) rfl, ?_⟩
      exact ⟨none, 0, 0, 0, 3, rfl, fun h => (by rw [hno] at h; cases h), fun _ => by decide, hb0.trans hb⟩
    · have h : ¬ (16384 : Int) < (s.length : Int) := of_decide_eq_false h
      exact ⟨(), ⟨.cons rfl (.cons rfl (.cons rfl (.cons rfl .nil))), rfl⟩, by omega, rfl⟩
  rintro _ _ ⟨hln, rfl⟩
  refine ⟨[strV s, i64 0], rfl, ?_⟩
  refine ⟨[strV s, i64 0, .bool false], rfl, ?_⟩
  refine store_new (X := W0) (v := .agg #[strV s, i64 0, .bool false]) (ttOk.get 335 _ rfl) rfl rfl rfl fun V hbV fV sV => ?_
  have hV : ScV V W0.heap.size s 0 false := fV
  refine Calls.mono tokens_c ?_
  rintro e W1 ⟨rfl, hW1⟩
  have sW1 : W1.heap.size = W0.heap.size + 2 := by rw [hW1, World.size_alloc, sV]
  have hb1 : Below V.heap.size V W1 := by rw [hW1]; exact (Below.refl _ _).alloc (Nat.le_refl _) _
  have hbx : W1.heap[W0.heap.size + 1]? = some (.cells #[.pointer (some ⟨W0.heap.size, 0, none⟩)] 342 (0, 0)) := by
    rw [hW1, ← sV]; exact hnew V _
  have hg1 : ScV W1 W0.heap.size s 0 false := hV.below hb1
  have hb01 : Below W0.heap.size W0 W1 := hbV.trans (hb1.mono hbV.size)
  have hbw1 : Below w.heap.size w W1 := hb0.trans (hb01.mono hb0.size)
  have r1 : ResX L W1 nl0 0 0 := r0.same fun k hk => hb01.block k (by omega)
  have hlen : (toksOf s).length ≤ 40000 := Nat.le_trans toks_len (by omega)
  have hok1 : (∀ t ∈ toksOf s, faultL t = 0) → lexOK s = true := fun h => by
    unfold lexOK; rw [decide_eq_true hln, Bool.true_and, List.all_eq_true]
    exact fun t ht => decide_eq_true (h t ht)
  have hok2 : (∃ t ∈ toksOf s, faultL t ≠ 0) → lexOK s = false := fun ⟨t, ht, hf⟩ => by
    unfold lexOK; rw [decide_eq_true hln, Bool.true_and, List.all_eq_false]
    exact ⟨t, ht, by simpa using hf⟩
  rw [sV]
  refine rangeO (sgOk _) rfl (lb := #[.pointer (some ⟨W0.heap.size + 1, 0, none⟩)]) rfl rfl (tokens1_c hg1 hbx (by omega) hs) (Nat.le_refl _) (fun k hk => ⟨by rcases hk with rfl | rfl <;> omega, rfl⟩) (fun pre vs W ⟨t, _, h⟩ => by rw [h]; rfl) (by decide)
    (FpX L) (JX w L W1.heap.size) (fun ex pre X => ex = .ret ∧ JxX w L pre X) ?_ (JX.iter (by omega) (by omega) (by omega) rfl) (fun ex => ?_) ?_ ?_ ?_ ?_
  · intro k hk hf
    rcases FpX.row r1 hf with h | h | h | ⟨a, h, _⟩
    · omega
    · omega
    · omega
    · cases h
  · have hJ := JxX.iter (w := w) (L := L) (n0 := W1.heap.size) (g := W0.heap.size) (by omega) (by omega) (by omega)
    exact ⟨fun pre A C ⟨h1, h2⟩ hs => ⟨⟨h1, (hJ.step _ _ _ h2 hs).1⟩, (hJ.step _ _ _ h2 hs).2⟩, fun pre A k ⟨_, h2⟩ hf => hJ.lt _ _ _ h2 hf⟩
  · exact ⟨hbw1, fun t ht => (by cases ht), none, 0, r1, .nil⟩
  · intro yl pre x vs W hyl hpre hJ hst hfy hly
    obtain ⟨t, ht, rfl⟩ := hst
    have ht : t = x := by simpa using ht.symm
    subst ht
    have hIt := JX.iter (w := w) (L := L) (B := W1.heap.size) (n0 := W1.heap.size) (g := W0.heap.size) (by omega) (by omega) (by omega) rfl
    refine store_new (X := W) (v := .agg (tokE.enc t).toArray) (ttOk.get 324 _ rfl) rfl rfl rfl fun R hbR fR sR => ?_
    have fR : R.heap[W.heap.size]? = some (.cells (tokE.enc t).toArray 324 (0, 0)) := fR
    obtain ⟨jR, qR⟩ := hIt.step pre W R hJ (Step.of_below hbR).o
    refine ⟨rfl, Keeps.of_below hbR (fun k hk => .inl (qR k hk)), jR, ?_⟩
    rintro o W2 hW2 ⟨hbW, hfl, p, cap, hr, ho⟩ hF2
    have f2 : W2.heap[W.heap.size]? = some (.cells (tokE.enc t).toArray 324 (0, 0)) := by rw [hW2, heap_put_old (by omega)]; exact fR
    have s2 : W2.heap.size = R.heap.size := by rw [hW2]; simp [World.putObj]
    have hLW : W1.heap.size ≤ W.heap.size := by
      have := hlt hr.l
      obtain ⟨hbW', _⟩ := hJ
      omega
    refine And.intro (fun h => ?_) (fun h => ?_)
    · have h : faultL t ≠ 0 := by
        have h1 : (!decide (faultL t = 0)) = true := h
        simpa using h1
      have hrd : ResX L W2.drew (.slice p pre.length cap) 0 0 := ⟨hr.l, hr.p, hr.e⟩
      have hd : W2.drew.heap.size = W2.heap.size := rfl
      have fin : ∀ Y, ResX L Y (.slice none 0 0) t.pos (faultL t) → Below w.heap.size W2.drew Y → W2.drew.heap.size = Y.heap.size → (∀ k, k ≠ L → k ≠ L + 1 → k ≠ L + 2 → Y.heap[k]? = W2.drew.heap[k]?) → (Exit.ret = Exit.ret ∧ JxX w L (pre ++ [t]) Y) ∧ Keeps (FpX L) W2 Y := fun Y hY hbY hsY hoY => by
        have hbY2 : Below w.heap.size w Y := hbW.trans ((Below.refl w.heap.size W2).drew.trans hbY)
        refine ⟨⟨rfl, hbY2, ⟨t, by simp, h⟩, _, _, hY, h⟩, ?_⟩
        refine ⟨hbY.os, hbY.tape, hbY.output, by rw [← hsY, hd]; exact Nat.le_refl _, fun k hk hf => hoY k (fun e => hf (.inl e)) (fun e => hf (.inr (.inl e))) (fun e => hf (.inr (.inr (.inl e)))), fun k hk => ?_⟩
        rcases FpX.row hY hk with h1 | h1 | h1 | ⟨a, h1, _⟩
        · exact .inl (.inl h1)
        · exact .inl (.inr (.inl h1))
        · exact .inl (.inr (.inr (.inl h1)))
        · cases h1
      refine DrawE.treeQ [3, 4, 5] (.op 0 (.op 2 (.alt (.op 3 (.op 1 (.op 4 (.op 5 .nil)))) (.op 1 (.op 3 (.op 4 (.op 5 .nil))))))) (by kernel_rfl) ?_
      refine And.intro ?_ ?_
      · refine store_box (v := .slice none 0 0) (ttOk.get 319 _ rfl) hrd.l rfl rfl rfl ?_
        have q0 : (W2.drew.setRow L (Value.slice none 0 0).cells).heap[W.heap.size]? = some (.cells (tokE.enc t).toArray 324 (0, 0)) := (setRow_old (by omega)).trans (hdr f2)
        refine ⟨_, cells_at (cells_block q0) (i := 2) rfl, ?_⟩
        have q1 : (W2.drew.setRow L (Value.slice none 0 0).cells).heap[L + 1]? = some (.cells #[i64 0] 3 (0, 0)) := (setRow_old (by omega)).trans hrd.p
        refine store_box (v := i64 t.pos) (ttOk.get 3 _ rfl) q1 rfl rfl rfl ?_
        have q2 : ((W2.drew.setRow L (Value.slice none 0 0).cells).setRow (L + 1) (i64 t.pos).cells).heap[L + 2]? = some (.cells #[i64 0] 54 (0, 0)) := (setRow_old (by omega)).trans ((setRow_old (by omega)).trans hrd.e)
        refine store_box (v := i64 (faultL t)) (ttOk.get 54 _ rfl) q2 rfl rfl rfl ?_
        refine fin _ ⟨?_, ?_, setRow_new q2⟩ ?_ (by simp) ?_
        · exact (setRow_old (by omega)).trans ((setRow_old (by omega)).trans (setRow_new hrd.l))
        · exact (setRow_old (by omega)).trans (setRow_new q1)
        · exact below_setRow (below_setRow (below_setRow (Below.refl _ W2.drew) (by omega) _) (by omega) _) (by omega) _
        · intro k h1 h2 h3
          exact (setRow_old h3).trans ((setRow_old h2).trans (setRow_old h1))
      · refine ⟨_, cells_at (cells_block (hdr f2)) (i := 2) rfl, ?_⟩
        exact put3 W2.drew _ _ _ hrd t.pos (faultL t) _ fin
    · have h : faultL t = 0 := by
        have h1 : (!decide (faultL t = 0)) = false := h
        simpa using h1
      refine ⟨_, cells_at (cells_block hr.l) (i := 0) rfl, ?_⟩
      refine ⟨_, rfl, cells_block f2, hlt f2, ?_⟩
      refine ⟨⟨by decide, by decide, rfl⟩, tokE.enc t, fill_one (tokE.len t) rfl, ?_⟩
      have hpl : pre.length + 1 ≤ 40000 := by
        have := hpre.length_le
        simp at this
        omega
      refine app_own (E := tokE) (news := [t]) (B := W1.heap.size) Tryz.underlying319 (ttOk.get 324 _ rfl) rfl rfl rfl (ho.alloc _) rfl (one_new tokE t) (by simp; omega) (by show pre.length + 1 ≤ _; omega) (by show (pre.length + 1) * 32 ≤ _; omega) ?_
      intro p3 cap3 W4 ho4 hg4 hb4 hat
      have hL2 : L < W2.heap.size := hlt hr.l
      have hr3 : ResX L (W2.alloc (.cells (tokE.enc t).toArray 324)) (.slice p pre.length cap) 0 0 := ⟨hold _ hr.l, hold _ hr.p, hold _ hr.e⟩
      have hr4 : ResX L W4 (.slice p pre.length cap) 0 0 := hr3.same fun k hk => hb4.block k (by omega)
      refine store_box (v := .slice p3 (pre ++ [t]).length cap3) (ttOk.get 319 _ rfl) hr4.l rfl rfl rfl ?_
      have hr5 : ResX L (W4.setRow L (Value.slice p3 (pre ++ [t]).length cap3).cells) (.slice p3 (pre ++ [t]).length cap3) 0 0 := ⟨setRow_new hr4.l, (setRow_old (by omega)).trans hr4.p, (setRow_old (by omega)).trans hr4.e⟩
      have hbB : Below w.heap.size W2 (W4.setRow L (Value.slice p3 (pre ++ [t]).length cap3).cells) :=
        below_setRow (((Below.refl _ W2).alloc (by omega) _).trans (hb4.mono (by omega))) (by omega) _
      refine And.intro ⟨hbW.trans hbB, fun u hu => ?_, p3, cap3, hr5, ho4.same fun a ha => ?_⟩ ⟨hbB.os, hbB.tape, hbB.output, hbB.size, fun k hk hf => ?_, fun k hk => ?_⟩
      · rcases List.mem_append.1 hu with hu | hu
        · exact hfl u hu
        · simp only [List.mem_singleton] at hu
          rw [hu]; exact h
      · refine setRow_old ?_
        rcases ho4.inv with ⟨h1, _⟩ | ⟨g', _, h1, h2, _⟩
        · rw [h1] at ha; cases ha
        · rw [h1] at ha; cases ha; dsimp only; omega
      · have h1 : k ≠ L := fun e => hf (.inl e)
        rw [setRow_old h1]
        refine (hg4.block k (by simp; omega) ?_).trans ?_
        · intro e
          cases p with
          | none => simp [Value.ownBlock] at e
          | some a =>
            simp only [Value.ownBlock, Option.some.injEq] at e
            exact hf (.inr (.inr (.inr ⟨a, _, _, hr.l, e⟩)))
        · show (W2.heap.push _)[k]? = _
          rw [Array.getElem?_push, if_neg (Nat.ne_of_lt hk)]
      · rcases FpX.row hr5 hk with h1 | h1 | h1 | ⟨a, ha, rfl⟩
        · exact .inl (.inl h1)
        · exact .inl (.inr (.inl h1))
        · exact .inl (.inr (.inr (.inl h1)))
        · rcases hat a ha with h1 | h1
          · exact .inl (.inr (.inr (.inr ⟨a, _, _, h1 ▸ hr.l, rfl⟩)))
          · refine .inr ?_
            rw [h1]; simp
  · intro D W hD hfD hJ hdef
    obtain ⟨hbW, hfl, p, cap, hr, ho⟩ := hJ
    refine ⟨_, cells_at (cells_block hr.l) (i := 0) rfl, ?_⟩
    refine store_box (v := .slice p (toksOf s).length cap) (ttOk.get 319 _ rfl) hr.l rfl rfl rfl ?_
    have q1 : (W.setRow L (Value.slice p (toksOf s).length cap).cells).heap[L + 1]? = some (.cells #[i64 0] 3 (0, 0)) := (setRow_old (by omega)).trans hr.p
    refine store_box (v := i64 0) (ttOk.get 3 _ rfl) q1 rfl rfl rfl ?_
    have q2 : ((W.setRow L (Value.slice p (toksOf s).length cap).cells).setRow (L + 1) (i64 0).cells).heap[L + 2]? = some (.cells #[i64 0] 54 (0, 0)) := (setRow_old (by omega)).trans ((setRow_old (by omega)).trans hr.e)
    refine store_box (v := i64 0) (ttOk.get 54 _ rfl) q2 rfl rfl rfl ?_
    obtain ⟨S, hS⟩ : ∃ S, S = ((W.setRow L (Value.slice p (toksOf s).length cap).cells).setRow (L + 1) (i64 0).cells).setRow (L + 2) (i64 0).cells := ⟨_, rfl⟩
    have rS : ResX L S (.slice p (toksOf s).length cap) 0 0 := by
      rw [hS]
      exact ⟨(setRow_old (by omega)).trans ((setRow_old (by omega)).trans (setRow_new hr.l)), (setRow_old (by omega)).trans (setRow_new q1), setRow_new q2⟩
    have bS : Below w.heap.size W S := by rw [hS]; exact below_setRow (below_setRow (below_setRow (Below.refl _ W) (by omega) _) (by omega) _) (by omega) _
    have oS : ∀ k, k ≠ L → k ≠ L + 1 → k ≠ L + 2 → S.heap[k]? = W.heap[k]? := fun k h1 h2 h3 => by rw [hS]; exact (setRow_old h3).trans ((setRow_old h2).trans (setRow_old h1))
    have dS : S.heap[D]? = some (.deferred (some [])) := (oS D (by omega) (by omega) (by omega)).trans hdef
    rw [← hS]
    refine ⟨_, rfl, dS, ?_⟩
    have rP : ResX L (S.putObj D (.deferred none)) (.slice p (toksOf s).length cap) 0 0 := rS.same fun k hk => heap_put_old (by omega)
    refine ⟨_, cells_at (cells_block rP.l) (i := 0) rfl, ?_⟩
    refine ⟨_, cells_at (cells_block rP.p) (i := 0) rfl, ?_⟩
    refine ⟨_, cells_at (cells_block rP.e) (i := 0) rfl, ?_⟩
    refine ⟨p, cap, (toksOf s).length, 0, 0, rfl, fun _ => ⟨rfl, rfl, ?_⟩, fun h => ?_, below_put (hbW.trans bS) (by omega) _⟩
    · exact (ho.same fun a ha => by
        have hne : a.block ≠ L ∧ a.block ≠ L + 1 ∧ a.block ≠ L + 2 ∧ a.block ≠ D := by
          rcases ho.inv with ⟨h1, _⟩ | ⟨g', _, h1, h2, h3, _⟩
          · rw [h1] at ha; cases ha
          · rw [h1] at ha; cases ha
            refine ⟨by dsimp only; omega, by dsimp only; omega, by dsimp only; omega, fun e => ?_⟩
            have e : g' = D := e
            rw [e, hdef] at h3; cases h3
        exact (heap_put_old hne.2.2.2).trans (oS _ hne.1 hne.2.1 hne.2.2.1)).row
    · rw [hok1 hfl] at h; cases h
  · rintro D ex pre W hD hfD hpre ⟨rfl, hbW, ⟨t, ht, hft⟩, pl, er, hr, her⟩ hdef
    refine ⟨_, rfl, hdef, ?_⟩
    have rP : ResX L (W.putObj D (.deferred none)) (.slice none 0 0) pl er := hr.same fun k hk => heap_put_old (by omega)
    refine ⟨_, cells_at (cells_block rP.l) (i := 0) rfl, ?_⟩
    refine ⟨_, cells_at (cells_block rP.p) (i := 0) rfl, ?_⟩
    refine ⟨_, cells_at (cells_block rP.e) (i := 0) rfl, ?_⟩
    refine ⟨none, 0, 0, pl, er, rfl, fun h => ?_, fun _ => her, below_put hbW (by omega) _⟩
    rw [hok2 ⟨t, hpre.subset ht, hft⟩] at h; cases h
theorem isWord_c (s : List UInt8) (hs : s.length ≤ 140737488351232) (w : World) : Calls Tryz.prog 205 #[strV s] w fun e w' => e = .returned (.bool (isWordL s)) ∧ Below w.heap.size w w' := by
  refine calls_of_E (S := sg 34) (sgOk _) (args := [strV s]) Tryz.func205 rfl rfl (Nat.le_of_ble_eq_true rfl) rfl ?_
  have hdef : isWordL s = (lexOK s && twoB (toksOf s) s) := by
    unfold isWordL lexOK; rw [Bool.and_assoc]
  refine Calls.mono (Lex_c s hs w) ?_
  rintro e V ⟨p, cap, n, pl, er, rfl, h1, h2, hb⟩
  cases hk : lexOK s with
  | false =>
    have her := h2 hk
    rw [hdef, hk, Bool.false_and]
    refine brN (by exact decide_eq_false her) ?_
    refine brF ?_
    refine brF ?_
    exact ⟨rfl, hb⟩
  | true =>
    obtain ⟨rfl, rfl, hr⟩ := h1 hk
    rw [hdef, hk, Bool.true_and]
    refine brT ?_
    refine And.intro (fun h => ?_) (fun h => ?_)
    · have h : (toksOf s).length = 2 := by have h : ((toksOf s).length : Int) = 2 := of_decide_eq_true h; omega
      match hx : toksOf s, h with
      | [t, u], _ =>
        rw [hx] at hr
        obtain ⟨b, o, rfl, hbb, hc⟩ := hr.at (i := 0) (by simp)
        have hc := hc 0 (by simp)
        refine ⟨0, rfl, (by show 0 < 2; omega), ?_⟩
        refine ⟨_, cells_at hc (i := 0) rfl, ?_⟩
        have kd : decide ((t.kind.toNat : Int) = 1) = decide (t.kind = 1) := by rw [decide_eq_decide]; exact u8_eq (y := 1)
        refine And.intro (fun h => ?_) (fun h => ?_)
        · have h : decide (t.kind = 1) = true := kd.symm.trans h
          refine ⟨0, rfl, (by show 0 < 2; omega), ?_⟩
          refine ⟨_, cells_at hc (i := 1) rfl, ?_⟩
          refine ⟨_, fun w => eql_str _ _ t.text s w, ?_⟩
          exact ⟨rb (by unfold twoB; simp only [h, Bool.true_and]), hb⟩
        · have h : decide (t.kind = 1) = false := kd.symm.trans h
          exact ⟨rb (by unfold twoB; simp only [h, Bool.false_and]), hb⟩
    · have h : ¬ (toksOf s).length = 2 := by have h : ¬ ((toksOf s).length : Int) = 2 := of_decide_eq_false h; omega
      refine brF ?_
      refine ⟨rb ?_, hb⟩
      have gen : ∀ l : List Tok, ¬ l.length = 2 → false = twoB l s := fun l hl => by
        match l, hl with
        | [], _ => rfl
        | [_], _ => rfl
        | [_, _], hl => exact absurd rfl hl
        | _ :: _ :: _ :: _, _ => rfl
      exact gen _ h
end Go.Proofs.YthgmcegmgjoafaaGreatDoor
namespace Go.Sei
structure InsD where
  op : UInt8
  dst : UInt8
  loc : UInt8
  ar : Bool
  an : UInt8
  br : Bool
  bn : UInt8
  fn : UInt8
  mode : UInt8
  skip : UInt8
  deriving DecidableEq
inductive Cnd where
  | mk (kind thread n val : UInt8) (kids : List Cnd)
def Cnd.kind : Cnd → UInt8 | .mk k _ _ _ _ => k
def Cnd.thread : Cnd → UInt8 | .mk _ t _ _ _ => t
def Cnd.n : Cnd → UInt8 | .mk _ _ n _ _ => n
def Cnd.val : Cnd → UInt8 | .mk _ _ _ v _ => v
def Cnd.kids : Cnd → List Cnd | .mk _ _ _ _ l => l
structure Prg where
  name : List UInt8
  locs : List (List UInt8)
  init : List UInt8
  threads : List (List InsD)
  ask : UInt8
  cond : Cnd
def keptW : List (List UInt8) := [[116, 101, 115, 116], [105, 110, 105, 116], [116, 104, 114, 101, 97, 100], [115, 111, 109, 101], [110, 111, 110, 101], [97, 108, 108], [97, 99, 113], [114, 101, 108], [115, 119, 97, 112], [102, 101, 116, 99, 104], [99, 97, 115],
  [102, 101, 110, 99, 101], [108, 111, 97, 100, 115], [115, 116, 111, 114, 101, 115], [115, 107, 105, 112], [105, 102], [116, 114, 117, 101]]
def keptL (s : List UInt8) : Bool := keptW.any fun k => decide (s = k)
def digitsL (s : List UInt8) : Nat := (s.filter digB).length
def nameL (s : List UInt8) : Bool := match s with
  | [] => false
  | c :: r => decide (r.length + 1 ≤ 16) && (decide (clsL c = 3) && (!keptL (c :: r) && (r.all inWordL && (!decide (c = 114) || (decide (digitsL r = 0) || decide (digitsL r < r.length))))))
def namesL : List (List UInt8) → List (List UInt8) → Bool
  | _, [] => true
  | pre, s :: r => nameL s && (!(pre.any fun q => decide (q = s)) && namesL (pre ++ [s]) r)
def locsB (p : Prg) : Bool := decide (1 ≤ p.locs.length) && (decide (p.locs.length ≤ 6) && (decide (p.init.length = p.locs.length) && namesL [] p.locs))
def needL : List UInt8 := [0, 35, 38, 29, 7, 7, 15, 32, 92]
def hasL (op bit : UInt8) : Bool := !decide (needL.getD op.toNat 0 &&& bit = 0)
def neededL (x : InsD) : InsD where
  op := x.op
  dst := if hasL x.op 1 then x.dst else 0
  loc := if hasL x.op 2 then x.loc else 0
  ar := hasL x.op 4 && x.ar
  an := if hasL x.op 4 then x.an else 0
  br := hasL x.op 8 && x.br
  bn := if hasL x.op 8 then x.bn else 0
  fn := if hasL x.op 16 then x.fn else 0
  mode := if hasL x.op 32 then x.mode else 0
  skip := if hasL x.op 64 then x.skip else 0
def modeL (x : InsD) : Bool := if x.op = 1 then decide (x.mode = 0) || decide (x.mode = 1) else if x.op = 2 then decide (x.mode = 0) || decide (x.mode = 2) else
  if x.op = 7 then decide (x.mode = 3) || (decide (x.mode = 4) || decide (x.mode = 5)) else true
def fnL (x : InsD) : Bool := if x.op = 3 then decide (x.fn = 1) || (decide (x.fn = 2) || decide (x.fn = 3)) else if x.op = 8 then decide (x.fn = 4) || (decide (x.fn = 5) || decide (x.fn = 6)) else true
def argL (r : Bool) (n : UInt8) : Bool := !r || decide (n.toNat < 8)
def insC (x : InsD) (locs after : Nat) : List Bool := [
  decide (1 ≤ x.op.toNat) && decide (x.op.toNat ≤ 8),
  decide (x = neededL x),
  decide (x.dst.toNat < 8),
  !hasL x.op 2 || decide (x.loc.toNat < locs),
  argL x.ar x.an && argL x.br x.bn,
  modeL x,
  fnL x,
  !hasL x.op 64 || (decide (1 ≤ x.skip.toNat) && decide (x.skip.toNat ≤ after))]
def insB (x : InsD) (locs after : Nat) : Bool := (insC x locs after).all id
def threadB (l : List InsD) (locs : Nat) : Bool := decide (l.length ≤ 12) && (List.range l.length).all fun i => match l[i]? with
  | some x => insB x locs (l.length - 1 - i)
  | none => true
def condB (threads locs : Nat) : Nat → Cnd → Bool
  | 0, _ => false
  | d + 1, .mk k t n v kids =>
    let bare := decide (t = 0) && (decide (n = 0) && decide (v = 0))
    if k = 0 then bare && decide (kids.length = 0) else
    if k = 1 then decide (t.toNat < threads) && (decide (n.toNat < 8) && decide (kids.length = 0)) else
    if k = 2 then decide (n.toNat < locs) && (decide (t = 0) && decide (kids.length = 0)) else
    if k = 3 ∨ k = 4 then bare && (decide (2 ≤ kids.length) && kids.all (condB threads locs d)) else
    if k = 5 then bare && (decide (kids.length = 1) && kids.all (condB threads locs d)) else false
def okPrg (p : Prg) : Bool := isWordL p.name && (locsB p && ((decide (1 ≤ p.threads.length) && (decide (p.threads.length ≤ 4) && p.threads.all fun l => decide (l.length ≤ 12))) &&
  (p.threads.all (fun l => threadB l p.locs.length) && ((decide (p.ask = 1) || (decide (p.ask = 2) || decide (p.ask = 3))) && condB p.threads.length p.locs.length 20 p.cond))))
end Go.Sei
namespace Go.Proofs.YthgmcegmgjoafaaGreatDoor
open Go.Vc Go.RowKit Go.Sei
def namE : Enc (List UInt8) := ⟨fun l => [strV l], 1, fun _ => rfl, by decide, fun a u hu => by
  simp only [List.mem_cons, List.not_mem_nil, or_false] at hu; subst hu; rfl⟩
def insE : Enc InsD := ⟨fun x => [u8 x.op, u8 x.dst, u8 x.loc, .bool x.ar, u8 x.an, .bool x.br, u8 x.bn, u8 x.fn, u8 x.mode, u8 x.skip], 10, fun _ => rfl, by decide, fun a u hu => by
  simp only [List.mem_cons, List.not_mem_nil, or_false] at hu
  rcases hu with rfl | rfl | rfl | rfl | rfl | rfl | rfl | rfl | rfl | rfl <;> rfl⟩
abbrev ThrR := List InsD × Option Addr × Nat
def thrV (x : ThrR) : Value := .slice x.2.1 x.1.length x.2.2
def thrE : Enc ThrR := ⟨fun x => [thrV x], 1, fun _ => rfl, by decide, fun a u hu => by
  simp only [List.mem_cons, List.not_mem_nil, or_false] at hu; subst hu; rfl⟩
def cndCells (c : Cnd) (p : Option Addr) (cap : Nat) : List Value := [u8 c.kind, u8 c.thread, u8 c.n, u8 c.val, .slice p c.kids.length cap]
inductive KidsV (B : Nat) (w : World) : Option Addr → List Cnd → Prop
  | mk (p : Option Addr) (kids : List Cnd) (hn : kids.length * 32 ≤ 140737488351232) (b o : Nat) (hp : kids.length = 0 ∨ p = some ⟨b, o, none⟩) (q : Nat → Option Addr) (c : Nat → Nat)
      (hk : ∀ i (h : i < kids.length), b < B ∧ Cells w ⟨b, o + i * 5, none⟩ (cndCells kids[i] (q i) (c i)))
      (ht : ∀ i (h : i < kids.length), KidsV B w (q i) kids[i].kids) : KidsV B w p kids
theorem KidsV.inv {B : Nat} {w : World} {p : Option Addr} {kids : List Cnd} (h : KidsV B w p kids) : kids.length * 32 ≤ 140737488351232 ∧ ∃ b o, (kids.length = 0 ∨ p = some ⟨b, o, none⟩) ∧
    ∀ i (h : i < kids.length), ∃ q c, b < B ∧ Cells w ⟨b, o + i * 5, none⟩ (cndCells kids[i] q c) ∧ KidsV B w q kids[i].kids := by
  cases h with
  | mk _ _ hn b o hp q c hk ht => exact ⟨hn, b, o, hp, fun i hi => ⟨q i, c i, (hk i hi).1, (hk i hi).2, ht i hi⟩⟩
theorem KidsV.kept {B : Nat} {w w2 : World} {p : Option Addr} {kids : List Cnd} (h : KidsV B w p kids) (hb : Below B w w2) : KidsV B w2 p kids := by
  induction h with
  | mk p kids hn b o hp q c hk ht ih => exact .mk p kids hn b o hp q c (fun i hi => ⟨(hk i hi).1, cells_belowB hb (hk i hi).1 (hk i hi).2⟩) ih
theorem KidsV.wider {B B' : Nat} {w : World} {p : Option Addr} {kids : List Cnd} (h : KidsV B w p kids) (hb : B ≤ B') : KidsV B' w p kids := by
  induction h with
  | mk p kids hn b o hp q c hk ht ih => exact .mk p kids hn b o hp q c (fun i hi => ⟨Nat.lt_of_lt_of_le (hk i hi).1 hb, (hk i hi).2⟩) ih
def ThrsV (B : Nat) (w : World) (p : Option Addr) (l : List (List InsD)) : Prop := ∃ xs : List ThrR, xs.map (·.1) = l ∧ RowB thrE B w p xs ∧ ∀ x ∈ xs, RowB insE B w x.2.1 x.1
theorem ThrsV.below {B : Nat} {w w2 : World} {p : Option Addr} {l : List (List InsD)} (h : ThrsV B w p l) (hb : Below B w w2) : ThrsV B w2 p l := by
  obtain ⟨xs, h1, h2, h3⟩ := h
  exact ⟨xs, h1, h2.below hb, fun x hx => (h3 x hx).below hb⟩
theorem ThrsV.mono {B B' : Nat} {w : World} {p : Option Addr} {l : List (List InsD)} (h : ThrsV B w p l) (hb : B ≤ B') : ThrsV B' w p l := by
  obtain ⟨xs, h1, h2, h3⟩ := h
  exact ⟨xs, h1, h2.mono hb, fun x hx => (h3 x hx).mono hb⟩
def prgCells (p : Prg) (p1 : Option Addr) (c1 : Nat) (p2 : Option Addr) (c2 : Nat) (p3 : Option Addr) (c3 : Nat) (p4 : Option Addr) (c4 : Nat) : List Value :=
  [strV p.name, .slice p1 p.locs.length c1, .slice p2 p.init.length c2, .slice p3 p.threads.length c3, u8 p.ask, u8 p.cond.kind, u8 p.cond.thread, u8 p.cond.n, u8 p.cond.val, .slice p4 p.cond.kids.length c4]
structure PrgLen (p : Prg) : Prop where
  name : p.name.length ≤ 140737488351232
  locs : p.locs.length ≤ 140737488351232
  loc : ∀ s ∈ p.locs, s.length ≤ 140737488351232
  init : p.init.length ≤ 140737488351232
  threads : p.threads.length ≤ 140737488351232
  thread : ∀ l ∈ p.threads, l.length ≤ 140737488351232
structure PrgV (B : Nat) (w : World) (vs : List Value) (p : Prg) : Prop where
  len : PrgLen p
  h : ∃ p1 c1 p2 c2 p3 c3 p4 c4, vs = prgCells p p1 c1 p2 c2 p3 c3 p4 c4 ∧ RowB namE B w p1 p.locs ∧ RowB byteE B w p2 p.init ∧ ThrsV B w p3 p.threads ∧ KidsV B w p4 p.cond.kids ∧ p.locs.length ≤ c1
theorem PrgV.below {B : Nat} {w w2 : World} {vs : List Value} {p : Prg} (h : PrgV B w vs p) (hb : Below B w w2) : PrgV B w2 vs p := by
  obtain ⟨p1, c1, p2, c2, p3, c3, p4, c4, h0, h1, h2, h3, h4, h5⟩ := h.h
  exact ⟨h.len, p1, c1, p2, c2, p3, c3, p4, c4, h0, h1.below hb, h2.below hb, h3.below hb, h4.kept hb, h5⟩
theorem PrgV.mono {B B' : Nat} {w : World} {vs : List Value} {p : Prg} (h : PrgV B w vs p) (hb : B ≤ B') : PrgV B' w vs p := by
  obtain ⟨p1, c1, p2, c2, p3, c3, p4, c4, h0, h1, h2, h3, h4, h5⟩ := h.h
  exact ⟨h.len, p1, c1, p2, c2, p3, c3, p4, c4, h0, h1.mono hb, h2.mono hb, h3.mono hb, h4.wider hb, h5⟩
theorem PrgV.size {B : Nat} {w : World} {vs : List Value} {p : Prg} (h : PrgV B w vs p) : vs.length = 10 := by
  obtain ⟨p1, c1, p2, c2, p3, c3, p4, c4, rfl, _⟩ := h.h; rfl
end Go.Proofs.YthgmcegmgjoafaaGreatDoor
