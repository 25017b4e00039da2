/- Contracts: All. Contracts: pick; the law's own worlds. Contracts: the law's own worlds. Contracts: a turn's index. Contracts: a message turned. Contracts: turn.Msg. Contracts: marks turned. Contracts: a view of kind 1 turned. Contracts: turn.View at kind 1. Contracts: turn.World refuses. Plain: the permutations that suit are a group. Plain: what keeps a program is closed. Plain: what the law's own worlds answer. Messages compared. Contracts: the law's own watch (awake). Contracts: the law of the group. Law23: readings opened: the parts of any reading, and the sizes. Law23: readings opened: worlds. Law23: the condition of a row gives what the walks need of a world; a world that meets it. -/
import Derived.Test.YthmddpoodknclaaDoorZ3
import Derived.Test.YthmddpoodknclaaDoorZ1
import Derived.Test.YthmddpoodknclaaDoorZKSig
import Derived.Laws.StructEq
import Derived.Test.YthmddpoodknclaaDoorRows
import Derived.ProofKit
import Derived.OpenShut
import Derived.LaidLaws
import Derived.Below
import Derived.HandedShaped
import Derived.KernelRfl
import Derived.WalkKit
import Derived.ChangeOld
import Derived.SevenTiedAt
import Derived.LaidHandle
import Derived.Stop.LaidErr
import Derived.Lib.LaidTab
import Derived.SizedLaws
set_option linter.unusedSimpArgs false
namespace Go.Proofs.YthmddpoodknclaaDoor
open Go.Vc Go.RowKit Go.Sei
set_option linter.unusedVariables false

/-- A row of lists of ints: where each lies, its room. -/
abbrev PrmR := List Int × Option Addr × Nat
def prmE : Enc PrmR := ⟨fun x => [.slice x.2.1 x.1.length x.2.2], 1, fun _ => rfl, by decide, fun a u hu => by
  simp only [List.mem_cons, List.not_mem_nil, or_false] at hu; subst hu; rfl⟩
theorem prm_map (xs : List PrmR) : xs.flatMap prmE.enc = xs.map (fun x => Value.slice x.2.1 x.1.length x.2.2) := by
  induction xs with
  | nil => rfl
  | cons a r ih => rw [List.flatMap_cons, ih]; rfl
/-- A list of ints in a block of its own. -/
def IntB (B : Nat) (X : World) (x : PrmR) : Prop := ∃ b cur, x.2.1 = some ⟨b, 0, none⟩ ∧ B ≤ b ∧ X.heap[b]? = some (.cells cur 3 (0, 0)) ∧ cur.toList.take x.1.length = x.1.map i64
theorem IntB.same {B : Nat} {X Y : World} {x : PrmR} (h : IntB B X x) (hs : ∀ b, x.2.1 = some ⟨b, 0, none⟩ → Y.heap[b]? = X.heap[b]?) : IntB B Y x := by
  obtain ⟨b, cur, h1, h2, h3, h4⟩ := h
  exact ⟨b, cur, h1, h2, (hs b h1).trans h3, h4⟩
theorem IntB.row {B : Nat} {X : World} {x : PrmR} (h : IntB B X x) : SlR Go.Sei.intE X x.2.1 x.1 := by
  obtain ⟨b, cur, h1, h2, h3, h4⟩ := h
  rw [h1]
  refine SlR.of_cells (hlt h3) ?_
  rw [ints_map, ← h4]
  have h5 : X.heap[b]? = some (.cells cur.toList.toArray 3 (0, 0)) := by simpa using h3
  exact cells_sub (n := 0) (m := x.1.length) (cells_block h5)
/-- What the list of lists refers to. -/
def RefA (L : Nat) (X : World) (k : Nat) : Prop := ∃ a n c, X.heap[L]? = some (.cells #[.slice (some a) n c] 50 (0, 0)) ∧ (k = a.block ∨ ∃ cur t fr i b m d, X.heap[a.block]? = some (.cells cur t fr) ∧ i < n ∧ cur[i]? = some (.slice (some b) m d) ∧ k = b.block)
def FpA (L : Nat) (X : World) (k : Nat) : Prop := k = L ∨ RefA L X k
structure ResA (L B : Nat) (X : World) (xs : List PrmR) (p : Option Addr) (cap : Nat) : Prop where
  l : X.heap[L]? = some (.cells #[.slice p xs.length cap] 50 (0, 0))
  o : OwnS prmE 45 B X p cap xs
  e : ∀ x ∈ xs, IntB B X x
theorem ResA.cur {L B : Nat} {X : World} {xs : List PrmR} {p : Option Addr} {cap : Nat} (h : ResA L B X xs p cap) {a : Addr} (hp : p = some a) : ∃ cur, a.off = 0 ∧ B ≤ a.block ∧ X.heap[a.block]? = some (.cells cur 45 (0, 0)) ∧ ∀ i (hi : i < xs.length), cur[i]? = some (.slice xs[i].2.1 xs[i].1.length xs[i].2.2) := by
  rcases h.o.inv with ⟨h1, _⟩ | ⟨g, cur, h1, h2, h3, h4, _, _, h5⟩
  · rw [hp] at h1; cases h1
  · rw [hp] at h1
    simp only [Option.some.injEq] at h1
    subst h1
    refine ⟨cur, rfl, h2, h3, fun i hi => ?_⟩
    have h5 : cur.toList.take (xs.length * 1) = xs.flatMap prmE.enc := h5
    have h6 : (cur.toList.take (xs.length * 1))[i]? = (xs.flatMap prmE.enc)[i]? := by rw [h5]
    rw [List.getElem?_take, if_pos (by omega)] at h6
    have h7 : (xs.flatMap prmE.enc)[i]? = some (.slice xs[i].2.1 xs[i].1.length xs[i].2.2) := by
      rw [prm_map, List.getElem?_map, List.getElem?_eq_getElem hi]; rfl
    rw [h7] at h6
    simpa using h6
theorem ResA.row {L B : Nat} {X : World} {xs : List PrmR} {p : Option Addr} {cap : Nat} (h : ResA L B X xs p cap) {k : Nat} (hf : FpA L X k) : k = L ∨ (∃ a, p = some a ∧ k = a.block) ∨ ∃ x ∈ xs, ∃ b, x.2.1 = some ⟨b, 0, none⟩ ∧ k = b := by
  rcases hf with hf | ⟨a, n, c, h1, h2⟩
  · exact .inl hf
  · have h3 := h.l
    rw [h1] at h3
    simp at h3
    obtain ⟨h3, rfl, rfl⟩ := h3
    rcases h2 with rfl | ⟨cur, t, fr, i, b, m, d, h4, h5, h6, rfl⟩
    · exact .inr (.inl ⟨a, h3.symm, rfl⟩)
    · obtain ⟨cur', _, _, h7, h8⟩ := h.cur h3.symm
      rw [h4] at h7
      simp only [Option.some.injEq, Obj.cells.injEq] at h7
      obtain ⟨rfl, _, _⟩ := h7
      have h9 := h8 i h5
      rw [h6] at h9
      simp only [Option.some.injEq, Value.slice.injEq] at h9
      obtain ⟨b', cu, hb1, hb2, _⟩ := h.e _ (List.getElem_mem h5)
      rw [← h9.1] at hb1
      simp only [Option.some.injEq] at hb1
      refine .inr (.inr ⟨xs[i], List.getElem_mem h5, b', ?_, by rw [hb1]⟩)
      rw [← h9.1, hb1]
theorem ResA.fp {L B : Nat} {X : World} {xs : List PrmR} {p : Option Addr} {cap : Nat} (h : ResA L B X xs p cap) {k : Nat} (hf : k = L ∨ (∃ a, p = some a ∧ k = a.block) ∨ ∃ x ∈ xs, ∃ b, x.2.1 = some ⟨b, 0, none⟩ ∧ k = b) : FpA L X k := by
  rcases hf with hf | ⟨a, rfl, rfl⟩ | ⟨x, hx, b, hb, rfl⟩
  · exact .inl hf
  · exact .inr ⟨a, _, _, h.l, .inl rfl⟩
  · obtain ⟨i, hi, rfl⟩ := List.getElem_of_mem hx
    rcases h.o.inv with ⟨_, _, h0⟩ | ⟨g, cur, rfl, h2, h3, _⟩
    · rw [h0] at hi; simp at hi
    · obtain ⟨cur', _, _, h7, h8⟩ := h.cur rfl
      refine .inr ⟨⟨g, 0, none⟩, xs.length, cap, h.l, .inr ⟨cur', _, _, i, ⟨k, 0, none⟩, xs[i].1.length, xs[i].2.2, h7, hi, ?_, rfl⟩⟩
      rw [h8 i hi, hb]
theorem ResA.same {L B : Nat} {X Y : World} {xs : List PrmR} {p : Option Addr} {cap : Nat} (h : ResA L B X xs p cap) (hs : ∀ k, FpA L X k → Y.heap[k]? = X.heap[k]?) : ResA L B Y xs p cap := by
  refine ⟨(hs L (.inl rfl)).trans h.l, h.o.same fun a ha => hs _ (h.fp (.inr (.inl ⟨a, ha, rfl⟩))), fun x hx => (h.e x hx).same fun b hb => hs _ (h.fp (.inr (.inr ⟨x, hx, b, hb, rfl⟩)))⟩
theorem ResA.lt {L B : Nat} {X : World} {xs : List PrmR} {p : Option Addr} {cap : Nat} (h : ResA L B X xs p cap) {k : Nat} (hf : FpA L X k) : k < X.heap.size := by
  rcases h.row hf with rfl | ⟨a, rfl, rfl⟩ | ⟨x, hx, b, hb, rfl⟩
  · exact hlt h.l
  · obtain ⟨cur, _, _, h3, _⟩ := h.cur rfl
    exact hlt h3
  · obtain ⟨b', cu, hb1, _, hb3, _⟩ := h.e x hx
    rw [hb] at hb1
    simp only [Option.some.injEq, Addr.mk.injEq, and_true] at hb1
    subst hb1
    exact hlt hb3
def JA (w : World) (L B : Nat) (f : List Int → Bool) (pre : List (List Int)) (X : World) : Prop := Below w.heap.size w X ∧ ∃ xs p cap, ResA L B X xs p cap ∧ xs.map (·.1) = pre.filter f
theorem JA.iter {w : World} {L B n0 : Nat} {f : List Int → Bool} (hw : w.heap.size ≤ L) (hL : L < n0) : IterJO n0 (fun _ => False) (FpA L) (JA w L B f) := by
  refine ⟨fun pre A C ⟨hb, xs, p, cap, hr, he⟩ hs => ?_, fun pre A k ⟨hb, xs, p, cap, hr, he⟩ hk => ⟨hr.lt hk, fun h => h⟩⟩
  have hr' : ResA L B C xs p cap := hr.same fun k hk => hs.same k (hr.lt hk) (.inr hk)
  refine ⟨⟨⟨hs.os.trans hb.os, hs.tape.trans hb.tape, hs.output.trans hb.output, Nat.le_trans hb.size hs.size, fun k hk => (hs.same k (Nat.lt_of_lt_of_le hk hb.size) (.inl ⟨by omega, fun h => h⟩)).trans (hb.block k hk)⟩, xs, p, cap, hr', he⟩, fun k hk => hr.fp (hr'.row hk)⟩
def allL (p : Prg) (g : Geo) (md : UInt8) : List (List Int) := if turnsL p g = true then (permsL g.c.toNat).filter (suitsL g md) else []
theorem All_c {B : Nat} {p : Prg} {g : Geo} {md : UInt8} {vs : List Value} {w : World} (hB : B ≤ w.heap.size) (hw : WldV B w vs p g md) (hT : GlobT w) :
    Calls Tryd.prog 9 #[.agg vs.toArray] w fun e w' => ∃ (q : Option Addr) (cap : Nat) (xs : List PrmR), e = .returned (.slice q xs.length cap) ∧ xs.map (·.1) = allL p g md ∧ SlR prmE w' q xs ∧ (∀ x ∈ xs, SlR Go.Sei.intE w' x.2.1 x.1) ∧ Below w.heap.size w w' := by
  refine calls_of_M (S := sg 20) (sgOk _) (args := [.agg vs.toArray]) (.s .p (.s .p (.c .p .p))) Tryd.func9 rfl rfl (Nat.le_of_ble_eq_true rfl) rfl ?_
  have hb0 : Below w.heap.size w (w.alloc (.cells vs.toArray 44)) := (Below.refl _ w).alloc (Nat.le_refl _) _
  have hn0 := hnew w (.cells vs.toArray 44)
  have hC0 : WldC B (w.alloc (.cells vs.toArray 44)) w.heap.size p g md := ⟨Nat.le_trans hB hb0.size, ⟨vs, hn0, hw.below (hb0.mono hB)⟩, hT.below hb0⟩
  refine Calls.mono (turns_c hC0) ?_
  rintro e V ⟨rfl, hbV⟩
  have hbw : Below w.heap.size w V := hb0.trans (hbV.mono hb0.size)
  have hC := hC0.below hbV
  refine And.intro (fun ha => ?_) (fun ha => ?_)
  · have ha : (!turnsL p g) = true := ha
    have ha : turnsL p g = false := by simpa using ha
    refine ⟨none, 0, [], rfl, by unfold allL; rw [ha]; rfl, .nil, fun x hx => (by cases hx), hbw⟩
  have ha : (!turnsL p g) = false := ha
  have ha : turnsL p g = true := by simpa using ha
  have hgs : (1 ≤ g.c ∧ g.c ≤ 4) := by
    unfold turnsL at ha
    rw [Bool.and_eq_true] at ha
    exact (geoR_spec ha.1).1
  obtain ⟨n, hn⟩ : ∃ n : Nat, g.c = n := ⟨g.c.toNat, by omega⟩
  have hn1 : 1 ≤ n := by omega
  have hn4 : n ≤ 4 := by omega
  obtain ⟨L, hL⟩ : ∃ L, L = V.heap.size := ⟨_, rfl⟩
  obtain ⟨V1, hV1⟩ : ∃ V1, V1 = V.alloc (.cells #[.slice none 0 0] 50) := ⟨_, rfl⟩
  have hbV1 : Below V.heap.size V V1 := by rw [hV1]; exact (Below.refl _ V).alloc (Nat.le_refl _) _
  have fL1 : V1.heap[L]? = some (.cells #[.slice none 0 0] 50 (0, 0)) := by rw [hV1, hL]; exact hnew V _
  have sV1 : V1.heap.size = L + 1 := by rw [hV1, World.size_alloc, hL]
  have hC1 := hC.below hbV1
  obtain ⟨pc, rest, hp, c1, c2, c3, hm, hlw⟩ := hC1.cells
  have p1 : some (Value.pointer (some ⟨V.heap.size, 0, none⟩)) = some (Value.pointer (some ⟨L, 0, none⟩)) := by rw [hL]
  refine ⟨Unit, fun _ => ⟨[(1, .pointer (some ⟨w.heap.size, 0, none⟩)), (3, .pointer (some ⟨L, 0, none⟩))], []⟩, fun _ X => V1 = X, ⟨(), ⟨.cons rfl (.cons p1 .nil), rfl⟩, hV1⟩, ?_⟩
  rintro _ _ rfl
  refine ⟨i64 n, by rw [← hn]; exact cells_at c2 (i := 0) rfl, ?_⟩
  refine Calls.mono permutations_c ?_
  rintro e W1 ⟨rfl, hW1⟩
  have hbW1 : Below V1.heap.size V1 W1 := by rw [hW1]; exact (Below.refl _ V1).alloc (Nat.le_refl _) _
  have sW1 : W1.heap.size = L + 2 := by rw [hW1, World.size_alloc, sV1]
  have fbx : W1.heap[L + 1]? = some (.cells #[i64 n] 3 (0, 0)) := by rw [hW1, ← sV1]; exact hnew V1 _
  have fL : W1.heap[L]? = some (.cells #[.slice none 0 0] 50 (0, 0)) := block_below hbW1 fL1
  have hbVW : Below V.heap.size V W1 := hbV1.trans (hbW1.mono hbV1.size)
  have r0 : ResA L (L + 2) W1 [] none 0 := ⟨fL, OwnS.nil, fun x hx => by cases hx⟩
  have J0 : JA V L (L + 2) (suitsL g md) [] W1 := ⟨hbVW, [], none, 0, r0, rfl⟩
  rw [sV1]
  refine rangeL (sgOk _) rfl (lb := #[.pointer (some ⟨L + 1, 0, none⟩)]) rfl rfl (perms1_c fbx hn1 hn4) (Nat.le_refl _) (fun k hk => ⟨by rcases hk with rfl | hk; omega; exact hk.elim, rfl⟩) (fun pre vs W ⟨l, b, _, h, _⟩ => by rw [h]; rfl) (by decide)
    (FpA L) (JA V L (L + 2) (suitsL g md)) (fun _ _ _ => False) ?_ (JA.iter (by omega) (by omega)) (fun ex => ⟨fun _ _ _ h => h.elim, fun _ _ _ h => h.elim⟩) J0 ?_ ?_ ?_
  · rintro k rfl hf
    rcases r0.row hf with h | ⟨a, h, _⟩ | ⟨x, hx, _⟩
    · omega
    · cases h
    · cases hx
  · rintro yl pre x vs W hyl hpre hJ ⟨x', b0, hx', rfl, hb0, hB0⟩ hfy ⟨lo, hlo⟩
    have hx' : x = x' := by simpa using hx'
    subst hx'
    refine ⟨rfl, ⟨rfl, rfl, rfl, Nat.le_refl _, fun _ _ _ => rfl, fun k h => .inl h⟩, hJ, ?_⟩
    rintro o W2 hW2 hJ2 hF2
    have hne : b0 ≠ yl := fun e => by rw [e, hlo] at hb0; cases hb0
    have f2 : W2.heap[b0]? = some (.cells (x.map i64).toArray 3 (0, 0)) := by rw [hW2, heap_put_old hne]; exact hb0
    obtain ⟨hbV2, xs, p2, cap2, hr2, he2⟩ := hJ2
    have hC2 := hC.below hbV2
    have hxl : x.length = n := (perms_ok hn1 hn4).2.1 x (hpre.subset (by simp))
    have hrow : SlR Go.Sei.intE W2 (some ⟨b0, 0, none⟩) x := SlR.of_cells (hlt f2) (by rw [ints_map]; exact cells_block f2)
    refine Calls.mono (suits_c hC2 hrow (by omega) hgs.2) ?_
    rintro e U ⟨rfl, hbU⟩
    have hrU : ResA L (L + 2) U xs p2 cap2 := hr2.same fun k hk => hbU.block k (hr2.lt hk)
    have hbVU : Below V.heap.size V U := hbV2.trans (hbU.mono hbV2.size)
    refine And.intro (fun hs => ?_) (fun hs => ?_)
    · have hs : suitsL g md x = true := hs
      refine DrawE.ord [4, 5] [0, 1, 2, 3, 4, 5] (by kernel_rfl) ?_
      have hbUd : Below U.heap.size U U.drew := (Below.refl _ U).drew
      have hrUd : ResA L (L + 2) U.drew xs p2 cap2 := hrU.same fun k hk => rfl
      have fUd : U.drew.heap[b0]? = some (.cells (x.map i64).toArray 3 (0, 0)) := block_below hbUd (block_below hbU f2)
      refine ⟨_, cells_at (cells_block hrUd.l) (i := 0) rfl, ?_⟩
      refine Calls.mono (Clone_int_c (cap := x.length) fUd (by omega) (by omega)) ?_
      rintro e X1 ⟨kc, cc, cur, rfl, hk1, hk2, hk3, hbX⟩
      refine ⟨hbX, ?_⟩
      have hrX : ResA L (L + 2) X1 xs p2 cap2 := hrUd.same fun k hk => hbX.block k (hrUd.lt hk)
      have hbWX : Below W2.heap.size W2 X1 := (hbU.trans (hbUd.mono hbU.size)).trans (hbX.mono (Nat.le_trans hbU.size hbUd.size))
      obtain ⟨new, hnw⟩ : ∃ new : PrmR, new = (x, some ⟨kc, 0, none⟩, cc) := ⟨_, rfl⟩
      refine ⟨⟨by decide, by decide, rfl⟩, prmE.enc new, by rw [hnw]; rfl, ?_⟩
      refine ⟨(Below.refl _ X1).alloc (Nat.le_refl _) _, ?_⟩
      have hL2 : L < W2.heap.size := hlt hr2.l
      have hLn : L + 2 ≤ W2.heap.size := Nat.le_trans (by rw [← sW1]; exact hyl) (by rw [hW2]; simp [World.putObj]; exact Nat.le_of_lt (hlt hlo))
      have hxs24 : xs.length ≤ 24 := by
        have h1 : (xs.map (·.1)).length ≤ pre.length := by rw [he2]; exact List.length_filter_le _ _
        rw [List.length_map] at h1
        have h2 := hpre.length_le
        have h3 : (permsL n).length ≤ 24 := seqL_len
        simp at h2
        omega
      have hX1s : W2.heap.size ≤ X1.heap.size := hbWX.size
      refine app_own (E := prmE) (news := [new]) (B := L + 2) Tryd.underlying50 (ttOk.get 45 _ rfl) rfl rfl rfl (hrX.o.alloc _) rfl (one_new prmE new) (by simp; omega) (by show xs.length + 1 ≤ _; omega) (by show (xs.length + 1) * 24 ≤ _; omega) ?_
      intro p3 cap3 W4 ho4 hg4 hb4 hat
      have fL3 : (X1.alloc (.cells (prmE.enc new).toArray 45)).heap[L]? = some (.cells #[.slice p2 xs.length cap2] 50 (0, 0)) := hold _ hrX.l
      have fL4 : W4.heap[L]? = some (.cells #[.slice p2 xs.length cap2] 50 (0, 0)) := (hb4.block L (by omega)).trans fL3
      refine store_box (v := .slice p3 (xs ++ [new]).length cap3) (ttOk.get 50 _ rfl) fL4 rfl rfl rfl ?_
      obtain ⟨W5, hW5⟩ : ∃ W5, W5 = W4.setRow L (Value.slice p3 (xs ++ [new]).length cap3).cells := ⟨_, rfl⟩
      rw [← hW5]
      have o5 : ∀ k, k ≠ L → W5.heap[k]? = W4.heap[k]? := fun k hk => by rw [hW5]; exact setRow_old hk
      have s5 : W5.heap.size = W4.heap.size := by rw [hW5]; simp
      -- a block of ints is not the row of lists
      have keep4 : ∀ (b : Nat) (cur : Array Value), X1.heap[b]? = some (Obj.cells cur 3 (0, 0)) → W4.heap[b]? = X1.heap[b]? := fun b cur hb => by
        have hb' : (X1.alloc (.cells (prmE.enc new).toArray 45)).heap[b]? = some (Obj.cells cur 3 (0, 0)) := hold _ hb
        refine (hg4.block b (hlt hb') fun e => ?_).trans (hb'.trans hb.symm)
        cases p2 with
        | none => simp [Value.ownBlock] at e
        | some a =>
          simp only [Value.ownBlock, Option.some.injEq] at e
          obtain ⟨cu, _, _, h3, _⟩ := hrX.cur rfl
          rw [← e, hb] at h3
          simp at h3
      have keep5 : ∀ y, IntB (L + 2) X1 y → IntB (L + 2) W5 y := fun y ⟨b, cu, h1, h2, h3, h4⟩ => ⟨b, cu, h1, h2, (o5 b (by omega)).trans ((keep4 b cu h3).trans h3), h4⟩
      have hnewB : IntB (L + 2) X1 new := by
        rw [hnw]
        have : U.drew.heap.size = U.heap.size := rfl
        have h2 := hbU.size
        exact ⟨kc, cur, rfl, by omega, hk1, hk2⟩
      have r5 : ResA L (L + 2) W5 (xs ++ [new]) p3 cap3 := by
        refine ⟨by rw [hW5]; exact setRow_new fL4, ho4.same fun a ha => o5 _ ?_, fun y hy => ?_⟩
        · rcases ho4.inv with ⟨h1, _⟩ | ⟨g', _, h1, h2, _⟩
          · rw [h1] at ha; cases ha
          · rw [h1] at ha; cases ha; dsimp only; omega
        · rcases List.mem_append.1 hy with hy | hy
          · exact keep5 y (hrX.e y hy)
          · simp only [List.mem_singleton] at hy
            rw [hy]; exact keep5 new hnewB
      have sz4 := hg4.size
      have sza : (X1.alloc (.cells (prmE.enc new).toArray 45)).heap.size = X1.heap.size + 1 := World.size_alloc _ _
      refine And.intro ⟨⟨?_, ?_, ?_, ?_, fun k hk => ?_⟩, xs ++ [new], p3, cap3, r5, ?_⟩ ⟨?_, ?_, ?_, by omega, fun k hk hf => ?_, fun k hk => ?_⟩
      · exact (by rw [hW5]; rfl : W5.os = W4.os).trans (hg4.os.trans (hbWX.os.trans hbV2.os))
      · exact (by rw [hW5]; rfl : W5.tape = W4.tape).trans (hg4.tape.trans (hbWX.tape.trans hbV2.tape))
      · exact (by rw [hW5]; rfl : W5.output = W4.output).trans (hg4.output.trans (hbWX.output.trans hbV2.output))
      · have := hbV2.size; omega
      · rw [o5 k (by omega), hb4.block k (by omega)]
        have h1 : (X1.alloc (.cells (prmE.enc new).toArray 45)).heap[k]? = X1.heap[k]? := by
          show (X1.heap.push _)[k]? = _
          rw [Array.getElem?_push, if_neg (by omega)]
        rw [h1, hbWX.block k (by have := hbV2.size; omega)]
        exact hbV2.block k hk
      · rw [List.map_append, he2, List.filter_append]
        simp [hs, hnw]
      · exact (by rw [hW5]; rfl : W5.os = W4.os).trans (hg4.os.trans hbWX.os)
      · exact (by rw [hW5]; rfl : W5.tape = W4.tape).trans (hg4.tape.trans hbWX.tape)
      · exact (by rw [hW5]; rfl : W5.output = W4.output).trans (hg4.output.trans hbWX.output)
      · rw [o5 k (fun e => hf (.inl e))]
        refine (hg4.block k (by omega) fun e => ?_).trans ?_
        · cases p2 with
          | none => simp [Value.ownBlock] at e
          | some a =>
            simp only [Value.ownBlock, Option.some.injEq] at e
            exact hf (hr2.fp (.inr (.inl ⟨a, rfl, e⟩)))
        · have h1 : (X1.alloc (.cells (prmE.enc new).toArray 45)).heap[k]? = X1.heap[k]? := by
            show (X1.heap.push _)[k]? = _
            rw [Array.getElem?_push, if_neg (by omega)]
          rw [h1]
          exact hbWX.block k hk
      · rcases r5.row hk with rfl | ⟨a, ha, rfl⟩ | ⟨y, hy, b, hb, rfl⟩
        · exact .inl (.inl rfl)
        · rcases hat a ha with h1 | h1
          · exact .inl (hr2.fp (.inr (.inl ⟨a, h1, rfl⟩)))
          · exact .inr (by rw [h1]; omega)
        · rcases List.mem_append.1 hy with hy | hy
          · exact .inl (hr2.fp (.inr (.inr ⟨y, hy, k, hb, rfl⟩)))
          · simp only [List.mem_singleton] at hy
            rw [hy, hnw] at hb
            simp only [Option.some.injEq, Addr.mk.injEq, and_true] at hb
            have : U.drew.heap.size = U.heap.size := rfl
            have h2 := hbU.size
            exact .inr (by omega)
    · have hs : suitsL g md x = false := hs
      refine And.intro ⟨hbVU, xs, p2, cap2, hrU, ?_⟩ (Keeps.of_below hbU (fun k hk => .inl (hr2.fp (hrU.row hk))))
      rw [he2, List.filter_append]
      simp [hs]
  · intro D W hD hfD hJ hdef
    obtain ⟨hbW, xs, p2, cap2, hr, he⟩ := hJ
    refine ⟨_, cells_at (cells_block hr.l) (i := 0) rfl, ?_⟩
    refine ⟨_, rfl, hdef, ?_⟩
    have hr' : ResA L (L + 2) (W.putObj D (.deferred none)) xs p2 cap2 := hr.same fun k hk => heap_put_old (fun e => hfD (e ▸ hk))
    refine ⟨p2, cap2, xs, rfl, ?_, hr'.o.row, fun x hx => (hr'.e x hx).row, below_put (hbw.trans (hbW.mono hbw.size)) (by have := hbw.size; omega) _⟩
    unfold allL
    rw [if_pos ha, he, show g.c.toNat = n by omega]
  · rintro D ex pre W hD hfD hpre h
    exact h.elim
end Go.Proofs.YthmddpoodknclaaDoor
namespace Go.Proofs.YthmddpoodknclaaDoor
open Go.Vc Go.RowKit Go.Sei
set_option linter.unusedVariables false

theorem allL_len {p : Prg} {g : Geo} {md : UInt8} : (allL p g md).length ≤ 24 := by
  unfold allL
  split
  · exact Nat.le_trans (List.length_filter_le _ _) seqL_len
  · exact Nat.zero_le _
theorem pick_c {B : Nat} {p : Prg} {g : Geo} {md k : UInt8} {vs : List Value} {w : World} (hB : B ≤ w.heap.size) (hw : WldV B w vs p g md) (hT : GlobT w) :
    Calls Tryd.prog 6 #[.agg vs.toArray, u8 k] w fun e w' => Below w.heap.size w w' ∧ ((allL p g md = [] ∧ e = .returned (.tuple #[.slice none 0 0, .bool false])) ∨
      ∃ (l : List Int) (q : Option Addr) (c : Nat), (allL p g md)[k.toNat % (allL p g md).length]? = some l ∧ e = .returned (.tuple #[.slice q l.length c, .bool true]) ∧ SlR Go.Sei.intE w' q l) := by
  refine calls_of_E (S := sg 20) (sgOk _) (args := [.agg vs.toArray, u8 k]) Tryd.func6 rfl rfl (Nat.le_of_ble_eq_true rfl) rfl ?_
  have hb0 : Below w.heap.size w (w.alloc (.cells vs.toArray 44)) := (Below.refl _ w).alloc (Nat.le_refl _) _
  have hn0 := hnew w (.cells vs.toArray 44)
  refine ⟨vs, hw.len, cells_block hn0, hlt hn0, ?_⟩
  refine Calls.mono (All_c (Nat.le_trans hB hb0.size) (hw.below (hb0.mono hB)) (hT.below hb0)) ?_
  rintro e V ⟨q, cap, xs, rfl, hxs, hr, he, hbV⟩
  have hbw : Below w.heap.size w V := hb0.trans (hbV.mono hb0.size)
  have hl : (allL p g md).length = xs.length := by rw [← hxs, List.length_map]
  have hl24 : xs.length ≤ 24 := by rw [← hl]; exact allL_len
  refine And.intro (fun h => ?_) (fun h => ?_)
  · have h : (xs.length : Int) = 0 := of_decide_eq_true h
    have h0 : xs = [] := List.eq_nil_of_length_eq_zero (by omega)
    refine ⟨hbw, .inl ⟨by rw [← hxs, h0]; rfl, rfl⟩⟩
  · have h : ¬ (xs.length : Int) = 0 := of_decide_eq_false h
    have hpos : 0 < xs.length := by omega
    have hm : k.toNat % xs.length < xs.length := Nat.mod_lt _ hpos
    refine ⟨_, wrap_u8_i64 _, ?_⟩
    refine ⟨by omega, ((k.toNat % xs.length : Nat) : Int), rfl, ?_⟩
    obtain ⟨b, o, rfl, hb, hat⟩ := hr.at hm
    refine ⟨k.toNat % xs.length, rfl, hm, ?_⟩
    refine ⟨_, cells_at (hat _ hm) (i := 0) rfl, ?_⟩
    refine ⟨hbw, .inr ⟨xs[k.toNat % xs.length].1, xs[k.toNat % xs.length].2.1, xs[k.toNat % xs.length].2.2, ?_, rfl, he _ (List.getElem_mem hm)⟩⟩
    rw [hl, ← hxs, List.getElem?_map, List.getElem?_eq_getElem hm]; rfl
end Go.Proofs.YthmddpoodknclaaDoor
namespace Go.Proofs.YthmddpoodknclaaDoor
open Go.Vc Go.RowKit Go.Sei
set_option linter.unusedVariables false

def prgW (n : Nat) : Prg := ⟨[116], [[120]], [0], List.replicate n [], 1, .mk 0 0 0 0 []⟩
def geoW (n : Nat) : Geo := ⟨n, 1, 1, 1, 1⟩
def restW (v : UInt8) : List Value := [u8 1, u8 v, u8 0, .int .i64 0, .bool false] ++ (.string ByteArray.empty :: (List.replicate 188 [.int .u8 0, .int .u8 0, .int .u16 0]).flatten)
theorem restW_len (v : UInt8) : (restW v).length = 570 := by kernel_rfl
def cellsW (n : Nat) (v : UInt8) (b1 b2 b3 : Nat) : List Value := prgCells (prgW n) (some ⟨b1, 0, none⟩) 1 (some ⟨b2, 0, none⟩) 1 (some ⟨b3, 0, none⟩) n none 0 ++ ((geoW n).enc ++ restW v)
theorem world_c {n : Nat} {v : UInt8} {w : World} (h4 : n ≤ 4) : Calls Tryd.prog 30 #[i64 n, u8 v] w fun e w' => ∃ vs : List Value, e = .returned (.agg vs.toArray) ∧ WldV w'.heap.size w' vs (prgW n) (geoW n) v ∧ vs.all Value.oneCell' = true ∧ Below w.heap.size w w' := by
  refine calls_of_M (S := sg 15) (sgOk _) (args := [i64 n, u8 v]) (.c .p .p) Tryd.func30 rfl rfl (Nat.le_of_ble_eq_true rfl) rfl ?_
  obtain ⟨L, hL⟩ : ∃ L, L = w.heap.size := ⟨_, rfl⟩
  have p1 : some (Value.pointer (some ⟨w.heap.size, 0, none⟩)) = some (Value.pointer (some ⟨L, 0, none⟩)) := by rw [hL]
  refine ⟨Unit, fun _ => ⟨[(0, i64 n), (1, u8 v), (4, .pointer (some ⟨L, 0, none⟩))], []⟩, fun _ X => (∃ cs : Array Value, X.heap[L]? = some (.cells cs 44 (0, 0)) ∧ cs.size = 585) ∧ X.heap.size = L + 1 ∧ Below w.heap.size w X, ?_, ?_⟩
  · refine ⟨(), ⟨.cons rfl (.cons rfl (.cons p1 .nil)), rfl⟩, ⟨_, by rw [hL]; exact hnew w _, by kernel_rfl⟩, by rw [World.size_alloc, hL], (Below.refl _ w).alloc (Nat.le_refl _) _⟩
  rintro _ W ⟨⟨cs, fL, hcs⟩, sW, hbW⟩
  obtain ⟨W1, hW1⟩ : ∃ W1, W1 = W.alloc (.cells #[strV [120]] 9) := ⟨_, rfl⟩
  obtain ⟨W2, hW2⟩ : ∃ W2, W2 = W1.alloc (.cells #[u8 0] 5) := ⟨_, rfl⟩
  have hb1 : Below W.heap.size W W1 := by rw [hW1]; exact (Below.refl _ W).alloc (Nat.le_refl _) _
  have hb2 : Below W1.heap.size W1 W2 := by rw [hW2]; exact (Below.refl _ W1).alloc (Nat.le_refl _) _
  have f1 : W1.heap[W.heap.size]? = some (.cells #[strV [120]] 9 (0, 0)) := by rw [hW1]; exact hnew W _
  have f2 : W2.heap[W1.heap.size]? = some (.cells #[u8 0] 5 (0, 0)) := by rw [hW2]; exact hnew W1 _
  have s1 : W1.heap.size = L + 2 := by rw [hW1, World.size_alloc, sW]
  have s2 : W2.heap.size = L + 3 := by rw [hW2, World.size_alloc, s1]
  refine ⟨⟨by decide, by decide, rfl⟩, [strV [120]], rfl, ?_⟩
  refine ⟨⟨by decide, by decide, rfl⟩, [u8 0], rfl, ?_⟩
  have hW1' : W.alloc (.cells [strV [120]].toArray 9) = W1 := hW1.symm
  rw [hW1']
  have hW2' : W1.alloc (.cells [u8 0].toArray 5) = W2 := hW2.symm
  rw [hW2']
  refine make_zero Tryd.underlying24 (ttOk.get 121 _ rfl) rfl rfl (by decide) _ (by show 24 * _ ≤ _; omega) (by omega) fun V fV hbV sV => ?_
  refine ⟨prgCells (prgW n) (some ⟨W.heap.size, 0, none⟩) 1 (some ⟨W1.heap.size, 0, none⟩) 1 (some ⟨W2.heap.size, 0, none⟩) n none 0, ?_, ?_⟩
  · unfold prgCells prgW
    simp only [List.length_replicate, List.length_cons, List.length_nil]
    rfl
  refine ⟨(geoW n).enc, rfl, ?_⟩
  refine ⟨[u8 1, u8 v, u8 0, .int .i64 0, .bool false], rfl, ?_⟩
  refine ⟨cellsW n v W.heap.size W1.heap.size W2.heap.size, by kernel_rfl, ?_⟩
  have hbWV : Below W.heap.size W V := (hb1.trans (hb2.mono hb1.size)).trans (hbV.mono (Nat.le_trans hb1.size hb2.size))
  have fLV : V.heap[L]? = some (.cells cs 44 (0, 0)) := (hbWV.block L (by omega)).trans fL
  have hlen : (cellsW n v W.heap.size W1.heap.size W2.heap.size).length = 585 := by
    unfold cellsW
    have h5 : (geoW n).enc.length = 5 := rfl
    have h6 : (prgCells (prgW n) (some ⟨W.heap.size, 0, none⟩) 1 (some ⟨W1.heap.size, 0, none⟩) 1 (some ⟨W2.heap.size, 0, none⟩) n none 0).length = 10 := rfl
    rw [List.length_append, List.length_append, restW_len, h5, h6]
  have hone : (cellsW n v W.heap.size W1.heap.size W2.heap.size).all Value.oneCell' = true := by kernel_rfl
  have hszT : (TT.get tt 44).map (·.size) = some 585 := by kernel_rfl
  refine store_box (v := .agg (cellsW n v W.heap.size W1.heap.size W2.heap.size).toArray) (ttOk.get 44 _ rfl) fLV hlen hcs hone ?_
  obtain ⟨Y, hY⟩ : ∃ Y, Y = V.setRow L (Value.agg (cellsW n v W.heap.size W1.heap.size W2.heap.size).toArray).cells := ⟨_, rfl⟩
  rw [← hY]
  have fY : Y.heap[L]? = some (.cells (cellsW n v W.heap.size W1.heap.size W2.heap.size).toArray 44 (0, 0)) := by rw [hY]; exact setRow_new fLV
  have oY : ∀ k, k ≠ L → Y.heap[k]? = V.heap[k]? := fun k hk => by rw [hY]; exact setRow_old hk
  have sY : Y.heap.size = V.heap.size := by rw [hY]; simp
  refine ⟨cellsW n v W.heap.size W1.heap.size W2.heap.size, hlen, cells_block fY, ?_⟩
  refine ⟨_, rfl, ?_, hone, by rw [hY]; exact below_setRow (hbW.trans (hbWV.mono hbW.size)) (by omega) _⟩
  have g1 : Y.heap[W.heap.size]? = some (.cells #[strV [120]] 9 (0, 0)) := (oY _ (by omega)).trans (block_below hbV (block_below hb2 f1))
  have g2 : Y.heap[W1.heap.size]? = some (.cells #[u8 0] 5 (0, 0)) := (oY _ (by omega)).trans (block_below hbV f2)
  have g3 : Y.heap[W2.heap.size]? = some (.cells (zrep [thrV thr0] n).toArray 121 (0, 0)) := (oY _ (by omega)).trans fV
  have hz : zrep [thrV thr0] n = (List.replicate n thr0).flatMap thrE.enc := by
    clear g3 fV fY hY hone hlen fLV hbV sV oY sY
    induction n with
    | zero => rfl
    | succ n ih => rw [List.replicate_succ, List.flatMap_cons, ← ih (by omega)]; rfl
  refine ⟨_, restW v, rfl, ⟨?_, some ⟨W.heap.size, 0, none⟩, 1, some ⟨W1.heap.size, 0, none⟩, 1, some ⟨W2.heap.size, 0, none⟩, n, none, 0, rfl, ?_, ?_, ?_, ?_, ?_⟩, rfl, restW_len v⟩
  · refine ⟨(by decide : 1 ≤ 140737488351232), (by decide : 1 ≤ 140737488351232), fun s hs => ?_, (by decide : 1 ≤ 140737488351232), by show (List.replicate n ([] : List InsD)).length ≤ _; rw [List.length_replicate]; omega, fun l hl => ?_⟩
    · have hs : s = [120] := by simpa [prgW] using hs
      rw [hs]; decide
    · rw [List.eq_of_mem_replicate hl]; decide
  · exact .inr ⟨W.heap.size, 0, rfl, hlt g1, cells_block g1⟩
  · exact .inr ⟨W1.heap.size, 0, rfl, hlt g2, cells_block g2⟩
  · refine ⟨List.replicate n thr0, by rw [List.map_replicate]; rfl, .inr ⟨W2.heap.size, 0, rfl, hlt g3, by rw [← hz]; exact cells_block g3⟩, fun x hx => ?_⟩
    rw [List.eq_of_mem_replicate hx]
    exact .inl rfl
  · exact .mk none [] (by decide) 0 0 (.inl rfl) (fun _ => none) (fun _ => 0) (fun i hi => by simp at hi) (fun i hi => by simp at hi)
  · exact Nat.le_refl 1
end Go.Proofs.YthmddpoodknclaaDoor
namespace Go.Proofs.YthmddpoodknclaaDoor
open Go.Vc Go.RowKit Go.Sei
set_option linter.unusedVariables false

theorem u8_nat {n : Nat} (h : n < 256) : u8 (UInt8.ofNat n) = .int .u8 (n : Nat) := by
  unfold u8
  rw [UInt8.toNat_ofNat', Nat.mod_eq_of_lt h]
/-- An index: how many, by pairs, where each goes. -/
def idxC (n : Nat) (pr : Bool) (to : List Int) : List Value := .int .u8 n :: .bool pr :: to.map (fun x => .int .u8 x)
def toN (l : List Int) (k : Nat) : List Int := (List.range k).foldl (fun r i => r.set (l.getD i 0).toNat (i : Int)) [0, 0, 0, 0]
theorem toN_succ (l : List Int) (k : Nat) : toN l (k + 1) = (toN l k).set (l.getD k 0).toNat (k : Int) := by
  unfold toN
  rw [List.range_succ, List.foldl_append]; rfl
theorem toN_len (l : List Int) (k : Nat) : (toN l k).length = 4 := by
  induction k with
  | zero => rfl
  | succ k ih => rw [toN_succ, List.length_set, ih]
theorem getD_lt2 {l : List Int} {t : Nat} (ht : t < l.length) : l.getD t 0 = l[t] := by rw [List.getD_eq_getElem?_getD, List.getElem?_eq_getElem ht]; rfl
theorem node_c {n : Nat} {pr : Bool} {to : List Int} {k : UInt8} {w : World} (h4 : to.length = 4) (hn : n ≤ 4) :
    Calls Tryd.prog 51 #[.agg (idxC n pr to).toArray, u8 k] w fun e w' => e = .returned (if k.toNat < n then .int .u8 (to.getD k.toNat 0) else u8 k) ∧ Below w.heap.size w w' := by
  refine calls_of_E (S := sg 14) (sgOk _) (args := [.agg (idxC n pr to).toArray, u8 k]) Tryd.func51 rfl rfl (Nat.le_of_ble_eq_true rfl) rfl ?_
  have hb0 : Below w.heap.size w (w.alloc (.cells (idxC n pr to).toArray 117)) := (Below.refl _ w).alloc (Nat.le_refl _) _
  have hc := cells_block (hnew w (.cells (idxC n pr to).toArray 117))
  refine ⟨_, cells_at hc (i := 0) rfl, ?_⟩
  refine And.intro (fun h => ?_) (fun h => ?_)
  · have h : (k.toNat : Int) < (n : Int) := of_decide_eq_true h
    have hk : k.toNat < 4 := by omega
    refine ⟨k.toNat, rfl, hk, ?_⟩
    have hg : (idxC n pr to)[2 + k.toNat]? = some (.int .u8 (to.getD k.toNat 0)) := by
      rw [Nat.add_comm]
      show (to.map (fun x => Value.int .u8 x))[k.toNat]? = _
      rw [List.getElem?_map, List.getElem?_eq_getElem (by omega), List.getD_eq_getElem?_getD, List.getElem?_eq_getElem (by omega)]; rfl
    refine ⟨_, by have := cells_at hc hg; rw [Nat.mul_one]; exact (by rw [Nat.zero_add] at this; exact this), ?_⟩
    exact ⟨by rw [if_pos (by omega)]; rfl, hb0⟩
  · have h : ¬ (k.toNat : Int) < (n : Int) := of_decide_eq_false h
    exact ⟨by rw [if_neg (by omega)]; rfl, hb0⟩
theorem newIndex_c {B wp n : Nat} {p : Prg} {g : Geo} {md : UInt8} {w : World} (h : WldC B w wp p g md) (hn : g.c = n) (hn4 : n ≤ 4) {q : Option Addr} {cap : Nat} {l : List Int} (hl : SlR Go.Sei.intE w q l) (hr : ∀ x ∈ l, 0 ≤ x ∧ x < 4) (hll : l.length ≤ 4) :
    Calls Tryd.prog 38 #[.pointer (some ⟨wp, 0, none⟩), .slice q l.length cap] w fun e w' => e = .returned (.agg (idxC n (decide (md = 3)) (toN l l.length)).toArray) ∧ Below w.heap.size w w' := by
  refine calls_of_M (S := sg 35) (sgOk _) (args := [.pointer (some ⟨wp, 0, none⟩), .slice q l.length cap]) (.c .p (.c .p .p)) Tryd.func38 rfl rfl (Nat.le_of_ble_eq_true rfl) rfl ?_
  obtain ⟨L, hL⟩ : ∃ L, L = w.heap.size := ⟨_, rfl⟩
  have p1 : some (Value.pointer (some ⟨w.heap.size, 0, none⟩)) = some (Value.pointer (some ⟨L, 0, none⟩)) := by rw [hL]
  refine ⟨Unit, fun _ => ⟨[(0, .pointer (some ⟨wp, 0, none⟩)), (1, .slice q l.length cap), (4, .pointer (some ⟨L, 0, none⟩))], []⟩, fun _ X => X.heap[L]? = some (.cells (idxC 0 false [0, 0, 0, 0]).toArray 117 (0, 0)) ∧ X.heap.size = L + 1 ∧ Below w.heap.size w X, ?_, ?_⟩
  · exact ⟨(), ⟨.cons rfl (.cons rfl (.cons p1 .nil)), rfl⟩, by rw [hL]; exact hnew w _, by rw [World.size_alloc, hL], (Below.refl _ w).alloc (Nat.le_refl _) _⟩
  rintro _ W ⟨fL, sW, hbW⟩
  have hC := h.below hbW
  refine ⟨Unit, fun _ => ⟨[(1, .slice q l.length cap), (4, .pointer (some ⟨L, 0, none⟩)), (5, .pointer (some ⟨L + 1, 0, none⟩))], []⟩, fun _ X => X.heap[L]? = some (.cells (idxC 0 false [0, 0, 0, 0]).toArray 117 (0, 0)) ∧
    X.heap[L + 1]? = some (.cells (idxC n (decide (md = 3)) [0, 0, 0, 0]).toArray 117 (0, 0)) ∧ Below w.heap.size w X, ?_, ?_⟩
  · refine DrawE.ord [14] [0, 1, 2, 3, 4, 5, 6, 7, 8, 9, 10, 11, 12, 13, 14] (by kernel_rfl) ?_
    have hbd : Below W.heap.size W W.drew := (Below.refl _ W).drew
    have hCd := hC.below hbd
    obtain ⟨pc, rest, hp, c1, c2, c3, hm, hlw⟩ := hCd.cells
    refine ⟨_, cells_at c2 (i := 0) rfl, ?_⟩
    refine ⟨(n : Int), by rw [hn]; exact wrap_u8 (by omega), ?_⟩
    refine ⟨_, cells_at c3 (i := 1) hm, ?_⟩
    have ed : decide ((md.toNat : Int) = 3) = decide (md = 3) := u8d md 3
    refine ⟨idxC n (decide (md = 3)) [0, 0, 0, 0], by rw [← ed]; rfl, ?_⟩
    refine ⟨(Below.refl _ _).alloc (Nat.le_refl _) _, ?_⟩
    refine store_new (X := W.drew) (v := .agg (idxC n (decide (md = 3)) [0, 0, 0, 0]).toArray) (ttOk.get 117 _ rfl) rfl rfl rfl fun Y hbY fY sY => ?_
    have sWd : W.drew.heap.size = L + 1 := sW
    rw [sWd] at fY
    have p2 : some (Value.pointer (some ⟨W.drew.heap.size, 0, none⟩)) = some (Value.pointer (some ⟨L + 1, 0, none⟩)) := by rw [sWd]
    exact ⟨(), ⟨.cons rfl (.cons rfl (.cons p2 .nil)), rfl⟩, block_below hbY (block_below hbd fL), fY, (hbW.trans (hbd.mono hbW.size)).trans (hbY.mono (by omega))⟩
  rintro _ X ⟨f1, f2, hbX⟩
  refine ⟨Nat, fun k => ⟨[(4, .pointer (some ⟨L, 0, none⟩)), (5, .pointer (some ⟨L + 1, 0, none⟩)), (21, .slice q l.length cap), (22, i64 l.length), (23, i64 (k : Nat))], []⟩, fun k X => k ≤ l.length ∧ X.heap[L]? = some (.cells (idxC 0 false [0, 0, 0, 0]).toArray 117 (0, 0)) ∧
      X.heap[L + 1]? = some (.cells (idxC n (decide (md = 3)) (toN l k)).toArray 117 (0, 0)) ∧ Below w.heap.size w X, fun k => l.length - k, 0,
    ⟨.cons rfl (.cons rfl (.cons rfl (.cons rfl (.cons rfl .nil)))), rfl⟩, ⟨Nat.zero_le _, f1, f2, hbX⟩, ?_⟩
  clear f1 f2 hbX
  rintro k X ⟨hk, f1, f2, hbX⟩
  dsimp only at hk f1 f2 ⊢
  refine And.intro (fun hc => ?_) (fun hc => ?_)
  · have hc : (k : Int) < (l.length : Int) := of_decide_eq_true hc
    have hkl : k < l.length := by omega
    obtain ⟨b, o, rfl, hb, hat⟩ := hl.at hkl
    obtain ⟨r0, r1⟩ := hr _ (List.getElem_mem hkl)
    refine ⟨k, rfl, hkl, ?_⟩
    refine ⟨_, cells_at (cells_below hbX (hat k hkl)) (i := 0) rfl, ?_⟩
    refine ⟨(k : Int), wrap_u8 (by omega), ?_⟩
    refine ⟨l[k].toNat, by omega, by omega, ?_⟩
    have hlen : (idxC n (decide (md = 3)) (toN l k)).length = 6 := by
      unfold idxC
      rw [List.length_cons, List.length_cons, List.length_map, toN_len]
    refine store_one (ttOk.get 5 _ rfl) f2 (o := 0 + 2 + l[k].toNat * 1) (v := .int .u8 (k : Nat)) rfl rfl (by rw [hlen]; omega) rfl fun Y fY gY sY => ?_
    have e1 : (idxC n (decide (md = 3)) (toN l k)).set (0 + 2 + l[k].toNat * 1) (.int .u8 (k : Nat)) = idxC n (decide (md = 3)) (toN l (k + 1)) := by
      rw [toN_succ, getD_lt2 hkl]
      unfold idxC
      rw [show 0 + 2 + l[k].toNat * 1 = (l[k].toNat + 1) + 1 by omega, List.set_cons_succ, List.set_cons_succ, List.map_set]
    rw [e1] at fY
    refine ⟨_, (wrap_i64 (by omega)).trans rfl, ?_⟩
    exact ⟨k + 1, ⟨.cons rfl (.cons rfl (.cons rfl (.cons rfl (.cons rfl .nil)))), rfl⟩, ⟨hkl, (gY.block _ (hlt f1) (by simp)).trans f1, fY, hbX.trans (below_grown gY hbX.size (by omega))⟩, by show l.length - (k + 1) < l.length - k; omega⟩
  · have hc : ¬ (k : Int) < (l.length : Int) := of_decide_eq_false hc
    obtain rfl : k = l.length := by omega
    have hlen : (idxC n (decide (md = 3)) (toN l l.length)).length = 6 := by
      unfold idxC
      rw [List.length_cons, List.length_cons, List.length_map, toN_len]
    refine ⟨_, hlen, cells_block f2, hlt f2, ?_⟩
    have hone : (idxC n (decide (md = 3)) (toN l l.length)).all Value.oneCell' = true := by
      unfold idxC
      simp [Value.oneCell']
    refine store_box (v := .agg (idxC n (decide (md = 3)) (toN l l.length)).toArray) (ttOk.get 117 _ rfl) f1 hlen rfl hone ?_
    have f3 := setRow_new (cs' := (Value.agg (idxC n (decide (md = 3)) (toN l l.length)).toArray).cells) f1
    refine ⟨_, hlen, cells_block f3, ?_⟩
    exact ⟨rfl, below_setRow hbX (by omega) _⟩
end Go.Proofs.YthmddpoodknclaaDoor
namespace Go.Proofs.YthmddpoodknclaaDoor
open Go.Vc Go.RowKit Go.Sei
set_option linter.unusedVariables false

def nodeU (n : Nat) (to : List Int) (k : UInt8) : UInt8 := if k.toNat < n then UInt8.ofNat (to.getD k.toNat 0).toNat else k
/-- An index that is in order. -/
def IdxOk (n : Nat) (to : List Int) : Prop := n ≤ 4 ∧ to.length = 4 ∧ ∀ x ∈ to, 0 ≤ x ∧ x < 256
theorem node_u {n : Nat} {pr : Bool} {to : List Int} {k : UInt8} {w : World} (h : IdxOk n to) :
    Calls Tryd.prog 51 #[.agg (idxC n pr to).toArray, u8 k] w fun e w' => e = .returned (u8 (nodeU n to k)) ∧ Below w.heap.size w w' := by
  obtain ⟨h1, h2, h3⟩ := h
  refine Calls.mono (node_c h2 h1) ?_
  rintro e V ⟨rfl, hb⟩
  refine ⟨?_, hb⟩
  congr 1
  unfold nodeU
  by_cases hk : k.toNat < n
  · rw [if_pos hk, if_pos hk]
    have hl : k.toNat < to.length := by omega
    have hm := h3 _ (List.getElem_mem hl)
    rw [getD_lt2 hl, u8_nat (by omega)]
    congr 1
    omega
  · rw [if_neg hk, if_neg hk]
def turnM (n : Nat) (to : List Int) (m : Msg) : Msg :=
  let m1 : Msg := { m with from_ := nodeU n to m.from_ }
  let m2 : Msg := { m1 with to := nodeU n to m1.to }
  if m.kind = 6 ∨ m.kind = 7 ∨ m.kind = 8 then { m2 with asker := nodeU n to m2.asker } else m2
structure MIx (w X : World) (L n : Nat) (pr : Bool) (to : List Int) (m : Msg) (r : List Value) : Prop where
  i : X.heap[L]? = some (.cells (idxC n pr to).toArray 117 (0, 0))
  m : X.heap[L + 1]? = some (.cells m.enc.toArray 73 (0, 0))
  r : X.heap[L + 2]? = some (.cells r.toArray 73 (0, 0))
  b : Below w.heap.size w X
theorem MIx.below {w X Y : World} {L n : Nat} {pr : Bool} {to : List Int} {m : Msg} {r : List Value} (h : MIx w X L n pr to m r) (hb : Below X.heap.size X Y) : MIx w Y L n pr to m r := ⟨block_below hb h.i, block_below hb h.m, block_below hb h.r, h.b.trans (hb.mono h.b.size)⟩
theorem MIx.store {w X Y : World} {L n : Nat} {pr : Bool} {to : List Int} {m m' : Msg} {r : List Value} (h : MIx w X L n pr to m r) (hL : w.heap.size ≤ L) (fY : Y.heap[L + 1]? = some (.cells m'.enc.toArray 73 (0, 0))) (gY : X.grownBy Y (some (L + 1))) : MIx w Y L n pr to m' r :=
  ⟨(gY.block _ (hlt h.i) (by simp)).trans h.i, fY, (gY.block _ (hlt h.r) (by simp)).trans h.r, h.b.trans (below_grown gY h.b.size (by omega))⟩
def zeroM : List Value := [u8 0, u8 0, u8 0, u8 0, u8 0, u8 0, .bool false, u8 0, u8 0, u8 0, u8 0]
theorem msg_c {n : Nat} {pr : Bool} {to : List Int} {m : Msg} {w : World} (ho : IdxOk n to) :
    Calls Tryd.prog 39 #[.agg (idxC n pr to).toArray, .agg m.enc.toArray] w fun e w' => e = .returned (.agg (turnM n to m).enc.toArray) ∧ Below w.heap.size w w' := by
  refine calls_of_M (S := sg 34) (sgOk _) (args := [.agg (idxC n pr to).toArray, .agg m.enc.toArray]) (.c .p (.c .p (.c .p (.c .p .p)))) Tryd.func39 rfl rfl (Nat.le_of_ble_eq_true rfl) rfl ?_
  obtain ⟨L, hL⟩ : ∃ L, L = w.heap.size := ⟨_, rfl⟩
  obtain ⟨W1, hW1⟩ : ∃ W1, W1 = w.alloc (.cells (idxC n pr to).toArray 117) := ⟨_, rfl⟩
  obtain ⟨W2, hW2⟩ : ∃ W2, W2 = W1.alloc (.cells m.enc.toArray 73) := ⟨_, rfl⟩
  have s1 : W1.heap.size = L + 1 := by rw [hW1, World.size_alloc, hL]
  have s2 : W2.heap.size = L + 2 := by rw [hW2, World.size_alloc, s1]
  refine ⟨Unit, fun _ => ⟨[(2, .pointer (some ⟨L, 0, none⟩)), (3, .pointer (some ⟨L + 1, 0, none⟩)), (4, .pointer (some ⟨L + 2, 0, none⟩))], []⟩, fun _ X => MIx w X L n pr to m zeroM, ?_, ?_⟩
  · have q1 : some (Value.pointer (some ⟨w.heap.size, 0, none⟩)) = some (Value.pointer (some ⟨L, 0, none⟩)) := by rw [hL]
    have q2 : some (Value.pointer (some ⟨W1.heap.size, 0, none⟩)) = some (Value.pointer (some ⟨L + 1, 0, none⟩)) := by rw [s1]
    have q3 : some (Value.pointer (some ⟨W2.heap.size, 0, none⟩)) = some (Value.pointer (some ⟨L + 2, 0, none⟩)) := by rw [s2]
    rw [hW2, hW1] at q3
    rw [hW1] at q2
    refine ⟨(), ⟨.cons q1 (.cons q2 (.cons q3 .nil)), rfl⟩, ?_⟩
    have hM : MIx w (W2.alloc (.cells zeroM.toArray 73)) L n pr to m zeroM := by
      refine ⟨hold _ ?_, hold _ ?_, ?_, ?_⟩
      · rw [hW2, hW1, hL]; exact hold _ (hnew w _)
      · rw [hW2, ← s1]; exact hnew W1 _
      · rw [← s2]; exact hnew W2 _
      · rw [hW2, hW1]; exact (((Below.refl _ w).alloc (Nat.le_refl _) _).alloc (by simp) _).alloc (by simp; omega) _
    rw [hW2, hW1] at hM
    exact hM
  have hLw : w.heap.size ≤ L := by omega
  clear s1 s2 hW1 hW2 W1 W2
  rintro _ X hX
  refine ⟨Unit, fun _ => ⟨[(2, .pointer (some ⟨L, 0, none⟩)), (3, .pointer (some ⟨L + 1, 0, none⟩)), (4, .pointer (some ⟨L + 2, 0, none⟩))], []⟩, fun _ X => MIx w X L n pr to { m with from_ := nodeU n to m.from_ } zeroM, ?_, ?_⟩
  · refine ⟨idxC n pr to, ?_, cells_block hX.i, hlt hX.i, ?_⟩
    · unfold idxC; rw [List.length_cons, List.length_cons, List.length_map, ho.2.1]
    refine ⟨_, cells_at (cells_block hX.m) (i := 1) rfl, ?_⟩
    refine Calls.mono (node_u ho) ?_
    rintro e V ⟨rfl, hbV⟩
    have hV := hX.below hbV
    refine store_one (ttOk.get 5 _ rfl) hV.m (o := 1) (v := u8 (nodeU n to m.from_)) rfl rfl (by show 1 < 11; decide) rfl fun Y fY gY sY => ?_
    exact ⟨(), ⟨.cons rfl (.cons rfl (.cons rfl .nil)), rfl⟩, hV.store hLw fY gY⟩
  clear hX
  rintro _ X hX
  refine ⟨Unit, fun _ => ⟨[(2, .pointer (some ⟨L, 0, none⟩)), (3, .pointer (some ⟨L + 1, 0, none⟩)), (4, .pointer (some ⟨L + 2, 0, none⟩))], []⟩, fun _ X => MIx w X L n pr to { m with from_ := nodeU n to m.from_, to := nodeU n to m.to } zeroM, ?_, ?_⟩
  · refine ⟨idxC n pr to, ?_, cells_block hX.i, hlt hX.i, ?_⟩
    · unfold idxC; rw [List.length_cons, List.length_cons, List.length_map, ho.2.1]
    refine ⟨_, cells_at (cells_block hX.m) (i := 2) rfl, ?_⟩
    refine Calls.mono (node_u ho) ?_
    rintro e V ⟨rfl, hbV⟩
    have hV := hX.below hbV
    refine store_one (ttOk.get 5 _ rfl) hV.m (o := 2) (v := u8 (nodeU n to m.to)) rfl rfl (by show 2 < 11; decide) rfl fun Y fY gY sY => ?_
    exact ⟨(), ⟨.cons rfl (.cons rfl (.cons rfl .nil)), rfl⟩, hV.store hLw fY gY⟩
  clear hX
  rintro _ X hX
  refine ⟨Unit, fun _ => ⟨[(2, .pointer (some ⟨L, 0, none⟩)), (3, .pointer (some ⟨L + 1, 0, none⟩)), (4, .pointer (some ⟨L + 2, 0, none⟩))], []⟩, fun _ X => MIx w X L n pr to (turnM n to m) zeroM, ?_, ?_⟩
  · have hyes : (m.kind = 6 ∨ m.kind = 7 ∨ m.kind = 8) → ∀ (V : World), MIx w V L n pr to { m with from_ := nodeU n to m.from_, to := nodeU n to m.to } zeroM → ∀ Y : World, Y.heap[L + 1]? = some (.cells (({ m with from_ := nodeU n to m.from_, to := nodeU n to m.to } : Msg).enc.set 4 (u8 (nodeU n to m.asker))).toArray 73 (0, 0)) → V.grownBy Y (some (L + 1)) → MIx w Y L n pr to (turnM n to m) zeroM := fun hk V hV Y fY gY => by
      refine hV.store hLw ?_ gY
      rw [fY]
      unfold turnM
      rw [if_pos hk]; rfl
    refine ⟨_, cells_at (cells_block hX.m) (i := 0) rfl, ?_⟩
    refine And.intro (fun h => ?_) (fun h => ?_)
    · have h : m.kind = 6 := of_decide_eq_true ((u8d m.kind 6).symm.trans h)
      refine brT ?_
      refine brT ?_
      refine ⟨idxC n pr to, ?_, cells_block hX.i, hlt hX.i, ?_⟩
      · unfold idxC; rw [List.length_cons, List.length_cons, List.length_map, ho.2.1]
      refine ⟨_, cells_at (cells_block hX.m) (i := 4) rfl, ?_⟩
      refine Calls.mono (node_u ho) ?_
      rintro e V ⟨rfl, hbV⟩
      have hV := hX.below hbV
      refine store_one (ttOk.get 5 _ rfl) hV.m (o := 4) (v := u8 (nodeU n to m.asker)) rfl rfl (by show 4 < 11; decide) rfl fun Y fY gY sY => ?_
      exact ⟨(), ⟨.cons rfl (.cons rfl (.cons rfl .nil)), rfl⟩, hyes (.inl h) V hV Y fY gY⟩
    have h6 : ¬ m.kind = 6 := of_decide_eq_false ((u8d m.kind 6).symm.trans h)
    refine ⟨_, cells_at (cells_block hX.m) (i := 0) rfl, ?_⟩
    refine And.intro (fun h => ?_) (fun h => ?_)
    · have h : m.kind = 7 := of_decide_eq_true ((u8d m.kind 7).symm.trans h)
      refine brT ?_
      refine ⟨idxC n pr to, ?_, cells_block hX.i, hlt hX.i, ?_⟩
      · unfold idxC; rw [List.length_cons, List.length_cons, List.length_map, ho.2.1]
      refine ⟨_, cells_at (cells_block hX.m) (i := 4) rfl, ?_⟩
      refine Calls.mono (node_u ho) ?_
      rintro e V ⟨rfl, hbV⟩
      have hV := hX.below hbV
      refine store_one (ttOk.get 5 _ rfl) hV.m (o := 4) (v := u8 (nodeU n to m.asker)) rfl rfl (by show 4 < 11; decide) rfl fun Y fY gY sY => ?_
      exact ⟨(), ⟨.cons rfl (.cons rfl (.cons rfl .nil)), rfl⟩, hyes (.inr (.inl h)) V hV Y fY gY⟩
    have h7 : ¬ m.kind = 7 := of_decide_eq_false ((u8d m.kind 7).symm.trans h)
    refine ⟨_, cells_at (cells_block hX.m) (i := 0) rfl, ?_⟩
    refine And.intro (fun h => ?_) (fun h => ?_)
    · have h : m.kind = 8 := of_decide_eq_true ((u8d m.kind 8).symm.trans h)
      refine ⟨idxC n pr to, ?_, cells_block hX.i, hlt hX.i, ?_⟩
      · unfold idxC; rw [List.length_cons, List.length_cons, List.length_map, ho.2.1]
      refine ⟨_, cells_at (cells_block hX.m) (i := 4) rfl, ?_⟩
      refine Calls.mono (node_u ho) ?_
      rintro e V ⟨rfl, hbV⟩
      have hV := hX.below hbV
      refine store_one (ttOk.get 5 _ rfl) hV.m (o := 4) (v := u8 (nodeU n to m.asker)) rfl rfl (by show 4 < 11; decide) rfl fun Y fY gY sY => ?_
      exact ⟨(), ⟨.cons rfl (.cons rfl (.cons rfl .nil)), rfl⟩, hyes (.inr (.inr h)) V hV Y fY gY⟩
    · have h8 : ¬ m.kind = 8 := of_decide_eq_false ((u8d m.kind 8).symm.trans h)
      refine ⟨(), ⟨.cons rfl (.cons rfl (.cons rfl .nil)), rfl⟩, ?_⟩
      have : turnM n to m = { m with from_ := nodeU n to m.from_, to := nodeU n to m.to } := by
        unfold turnM
        rw [if_neg (by rintro (h | h | h); exact h6 h; exact h7 h; exact h8 h)]
      rw [this]; exact hX
  clear hX
  rintro _ X hX
  have hone : (turnM n to m).enc.all Value.oneCell' = true := rfl
  refine ⟨(turnM n to m).enc, rfl, cells_block hX.m, hlt hX.m, ?_⟩
  refine store_box (v := .agg (turnM n to m).enc.toArray) (ttOk.get 73 _ rfl) hX.r rfl rfl hone ?_
  have f3 := setRow_new (cs' := (Value.agg (turnM n to m).enc.toArray).cells) hX.r
  refine ⟨(turnM n to m).enc, rfl, cells_block f3, ?_⟩
  exact ⟨rfl, below_setRow hX.b (by omega) _⟩
end Go.Proofs.YthmddpoodknclaaDoor
namespace Go.Proofs.YthmddpoodknclaaDoor
open Go.Vc Go.RowKit Go.Sei
set_option linter.unusedVariables false

theorem toN_range {l : List Int} : ∀ {k : Nat}, k ≤ 4 → ∀ x ∈ toN l k, 0 ≤ x ∧ x < 256
  | 0, _ => fun x hx => by
    have : x = 0 := by
      unfold toN at hx
      simpa using hx
    omega
  | k + 1, hk => fun x hx => by
    rw [toN_succ] at hx
    rcases List.mem_or_eq_of_mem_set hx with hx | hx
    · exact toN_range (by omega) x hx
    · omega
theorem idx_ok {n : Nat} {l : List Int} (hn : n ≤ 4) (hl : l.length ≤ 4) : IdxOk n (toN l l.length) := ⟨hn, toN_len _ _, toN_range hl⟩
theorem fits_parts {p : Prg} {g : Geo} {md : UInt8} {l : List Int} (hf : (turnsL p g && suitsL g md l) = true) : ∃ n : Nat, g.c = n ∧ 1 ≤ n ∧ n ≤ 4 ∧ l.length = n ∧ ∀ x ∈ l, 0 ≤ x ∧ x < 4 := by
  simp only [turnsL, suitsL, permL, Bool.and_eq_true, decide_eq_true_eq] at hf
  obtain ⟨⟨h1, _⟩, ⟨h2, h3⟩, _⟩ := hf
  have := (geoR_spec h1).1
  exact ⟨g.c.toNat, by omega, by omega, by omega, by omega, permGo_range h3⟩
theorem Msg_c {B : Nat} {p : Prg} {g : Geo} {md : UInt8} {vs : List Value} {m : Msg} {q : Option Addr} {cap : Nat} {l : List Int} {w : World} (hB : B ≤ w.heap.size) (hw : WldV B w vs p g md) (hT : GlobT w) (h1 : vs.all Value.oneCell' = true) (hl : SlR Go.Sei.intE w q l) (hf : (turnsL p g && suitsL g md l) = true) :
    Calls Tryd.prog 16 #[.agg vs.toArray, .agg m.enc.toArray, .slice q l.length cap] w fun e w' => e = .returned (.tuple #[.agg (turnM l.length (toN l l.length) m).enc.toArray, i64 0]) ∧ Below w.heap.size w w' := by
  refine calls_of_M (S := sg 17) (sgOk _) (args := [.agg vs.toArray, .agg m.enc.toArray, .slice q l.length cap]) (.c .p (.s .p .p)) Tryd.func16 rfl rfl (Nat.le_of_ble_eq_true rfl) rfl ?_
  obtain ⟨n, hgc, hn1, hn4, hln, hr⟩ := fits_parts hf
  obtain ⟨L, hL⟩ : ∃ L, L = w.heap.size := ⟨_, rfl⟩
  obtain ⟨W1, hW1⟩ : ∃ W1, W1 = w.alloc (.cells vs.toArray 44) := ⟨_, rfl⟩
  obtain ⟨W2, hW2⟩ : ∃ W2, W2 = W1.alloc (.cells m.enc.toArray 73) := ⟨_, rfl⟩
  have s1 : W1.heap.size = L + 1 := by rw [hW1, World.size_alloc, hL]
  have s2 : W2.heap.size = L + 2 := by rw [hW2, World.size_alloc, s1]
  refine ⟨Unit, fun _ => ⟨[(2, .slice q l.length cap), (3, .pointer (some ⟨L, 0, none⟩)), (4, .pointer (some ⟨L + 1, 0, none⟩)), (6, .pointer (some ⟨L + 2, 0, none⟩)), (7, i64 0)], []⟩, fun _ X => X.heap[L]? = some (.cells vs.toArray 44 (0, 0)) ∧
    X.heap[L + 1]? = some (.cells m.enc.toArray 73 (0, 0)) ∧ X.heap[L + 2]? = some (.cells zeroM.toArray 73 (0, 0)) ∧ Below w.heap.size w X, ?_, ?_⟩
  · have q1 : some (Value.pointer (some ⟨w.heap.size, 0, none⟩)) = some (Value.pointer (some ⟨L, 0, none⟩)) := by rw [hL]
    have q2 : some (Value.pointer (some ⟨W1.heap.size, 0, none⟩)) = some (Value.pointer (some ⟨L + 1, 0, none⟩)) := by rw [s1]
    have q3 : some (Value.pointer (some ⟨W2.heap.size, 0, none⟩)) = some (Value.pointer (some ⟨L + 2, 0, none⟩)) := by rw [s2]
    rw [hW2, hW1] at q3
    rw [hW1] at q2
    refine ⟨(), ⟨.cons rfl (.cons q1 (.cons q2 (.cons q3 (.cons rfl .nil)))), rfl⟩, ?_⟩
    have hM : (W2.alloc (.cells zeroM.toArray 73)).heap[L]? = some (.cells vs.toArray 44 (0, 0)) ∧ (W2.alloc (.cells zeroM.toArray 73)).heap[L + 1]? = some (.cells m.enc.toArray 73 (0, 0)) ∧ (W2.alloc (.cells zeroM.toArray 73)).heap[L + 2]? = some (.cells zeroM.toArray 73 (0, 0)) ∧ Below w.heap.size w (W2.alloc (.cells zeroM.toArray 73)) := by
      refine ⟨hold _ ?_, hold _ ?_, ?_, ?_⟩
      · rw [hW2, hW1, hL]; exact hold _ (hnew w _)
      · rw [hW2, ← s1]; exact hnew W1 _
      · rw [← s2]; exact hnew W2 _
      · rw [hW2, hW1]; exact (((Below.refl _ w).alloc (Nat.le_refl _) _).alloc (by simp) _).alloc (by simp; omega) _
    rw [hW2, hW1] at hM
    exact hM
  clear s1 s2 hW1 hW2 W1 W2
  rintro _ X ⟨f0, f1, f2, hbX⟩
  refine ⟨vs, hw.len, cells_block f0, hlt f0, ?_⟩
  refine Calls.mono (Fits_c (Nat.le_trans hB hbX.size) (hw.below (hbX.mono hB)) (hT.below hbX) h1 (hl.below hbX) (by omega)) ?_
  rintro e V ⟨rfl, hbV⟩
  rw [hf]
  refine brF ?_
  have hbw : Below w.heap.size w V := hbX.trans (hbV.mono hbX.size)
  refine DrawE.ord [4] [0, 2, 1, 3, 4, 5] (by kernel_rfl) ?_
  have hbd : Below V.heap.size V V.drew := (Below.refl _ V).drew
  have hbwd : Below w.heap.size w V.drew := hbw.trans (hbd.mono hbw.size)
  have g0 := block_below hbd (block_below hbV f0)
  have g1 := block_below hbd (block_below hbV f1)
  have g2 := block_below hbd (block_below hbV f2)
  have hC : WldC B V.drew L p g md := ⟨Nat.le_trans hB hbwd.size, ⟨vs, g0, hw.below (hbwd.mono hB)⟩, hT.below hbwd⟩
  refine ⟨m.enc, rfl, cells_block g1, hlt g1, ?_⟩
  refine Calls.mono (newIndex_c hC hgc hn4 (hl.below hbwd) hr (by omega)) ?_
  rintro e U ⟨rfl, hbU⟩
  refine ⟨hbU, ?_⟩
  have hio : IdxOk n (toN l l.length) := idx_ok hn4 (by omega)
  refine Calls.mono (msg_c (m := m) hio) ?_
  rintro e Y ⟨rfl, hbY⟩
  refine ⟨hbY, ?_⟩
  have g3 := block_below hbY (block_below hbU g2)
  refine store_box (v := .agg (turnM n (toN l l.length) m).enc.toArray) (ttOk.get 73 _ rfl) g3 rfl rfl rfl ?_
  have g4 := setRow_new (cs' := (Value.agg (turnM n (toN l l.length) m).enc.toArray).cells) g3
  refine ⟨(turnM n (toN l l.length) m).enc, rfl, cells_block g4, ?_⟩
  have hbY2 : Below w.heap.size w Y := (hbwd.trans (hbU.mono hbwd.size)).trans (hbY.mono (Nat.le_trans hbwd.size hbU.size))
  refine ⟨by rw [hln]; rfl, below_setRow hbY2 (by omega) _⟩
end Go.Proofs.YthmddpoodknclaaDoor
namespace Go.Proofs.YthmddpoodknclaaDoor
open Go.Vc Go.RowKit Go.Sei
set_option linter.unusedVariables false

theorem view1_c {ib n k : Nat} {pr : Bool} {to : List Int} {w : World} (hi : w.heap[ib]? = some (.cells (idxC n pr to).toArray 117 (0, 0))) (hk : k < 4) (h4 : to.length = 4) :
    Calls Tryd.prog 69 #[i64 k, .pointer (some ⟨ib, 0, none⟩)] w fun e w' => e = .returned (.int .u8 (to.getD k 0)) ∧ w = w' := by
  refine calls_of_E (S := sg 8) (sgOk _) (args := [i64 k, .pointer (some ⟨ib, 0, none⟩)]) Tryd.func69 rfl rfl (Nat.le_of_ble_eq_true rfl) rfl ?_
  refine ⟨k, rfl, hk, ?_⟩
  have hg : (idxC n pr to)[2 + k]? = some (.int .u8 (to.getD k 0)) := by
    rw [Nat.add_comm]
    show (to.map (fun x => Value.int .u8 x))[k]? = _
    rw [List.getElem?_map, List.getElem?_eq_getElem (by omega), List.getD_eq_getElem?_getD, List.getElem?_eq_getElem (by omega)]; rfl
  refine ⟨_, by have := cells_at (cells_block hi) hg; rw [Nat.mul_one]; exact (by rw [Nat.zero_add] at this; exact this), ?_⟩
  exact ⟨rfl, rfl⟩
def startN (s bits : Nat) : Nat := (BitVec.ofInt 64 (s : Int) &&& ~~~ BitVec.ofInt 64 ((2 ^ bits - 1 : Nat) : Int)).toNat
def movedN (s bits : Nat) (to : List Int) (k : Nat) : Nat := (List.range k).foldl (fun out k => if s &&& 2 ^ k = 0 then out else out ||| 2 ^ (to.getD k 0).toNat) (startN s bits)
theorem movedN_succ (s bits : Nat) (to : List Int) (k : Nat) : movedN s bits to (k + 1) = if s &&& 2 ^ k = 0 then movedN s bits to k else movedN s bits to k ||| 2 ^ (to.getD k 0).toNat := by
  unfold movedN
  rw [List.range_succ, List.foldl_append]; rfl
theorem shl_one {e : Nat} (he : e < 64) : IntKind.u64.wrap ((1 : Int) * 2 ^ (min e IntKind.u64.bits)) = ((2 ^ e : Nat) : Int) := by
  have h64 : 2 ^ e < 2 ^ 64 := Nat.pow_lt_pow_right (by decide) he
  have e1 : min e IntKind.u64.bits = e := by
    show min e 64 = _
    omega
  rw [e1, Int.one_mul]
  have e2 : (2 : Int) ^ e = ((2 ^ e : Nat) : Int) := by simp
  rw [e2]
  obtain ⟨q, hq⟩ : ∃ q, q = 2 ^ e := ⟨_, rfl⟩
  rw [← hq] at h64 ⊢
  exact wrap_u64 (by omega)
theorem movedN_lt {s bits : Nat} {to : List Int} (h : ∀ k, (to.getD k 0).toNat < 64) : ∀ k, movedN s bits to k < 2 ^ 64
  | 0 => BitVec.isLt _
  | k + 1 => by
    rw [movedN_succ]
    split
    · exact movedN_lt h k
    · exact Nat.or_lt_two_pow (movedN_lt h k) (Nat.pow_lt_pow_right (by decide) (h k))
theorem moved_c {s bits ib n : Nat} {pr : Bool} {to : List Int} {w : World} (hi : w.heap[ib]? = some (.cells (idxC n pr to).toArray 117 (0, 0))) (h4 : to.length = 4) (hs : s < 2 ^ 64) (hbits : bits ≤ 4) (ht : ∀ k, 0 ≤ to.getD k 0 ∧ to.getD k 0 < 64) :
    Calls Tryd.prog 68 #[.int .u64 s, i64 bits, .func (.func 69) #[] #[.pointer (some ⟨ib, 0, none⟩)]] w fun e w' => e = .returned (.int .u64 (movedN s bits to bits)) ∧ w = w' := by
  refine calls_of_E (S := sg 31) (sgOk _) (args := [.int .u64 s, i64 bits, .func (.func 69) #[] #[.pointer (some ⟨ib, 0, none⟩)]]) Tryd.func68 rfl rfl (Nat.le_of_ble_eq_true rfl) rfl ?_
  have h64 : 2 ^ bits ≤ 2 ^ 4 := Nat.pow_le_pow_right (by decide) hbits
  have hpos : 1 ≤ 2 ^ bits := Nat.one_le_two_pow
  have hsub : IntKind.u64.wrap (((2 ^ bits : Nat) : Int) - 1) = ((2 ^ bits - 1 : Nat) : Int) := by
    obtain ⟨q, hq⟩ : ∃ q, q = 2 ^ bits := ⟨_, rfl⟩
    rw [← hq] at h64 hpos ⊢
    exact (wrap_u64 (by omega)).trans (by omega)
  have hst : IntKind.u64.wrap ((startN s bits : Nat) : Int) = ((startN s bits : Nat) : Int) := by
    have : startN s bits < 2 ^ 64 := BitVec.isLt _
    exact wrap_u64 (by omega)
  refine ⟨by omega, ((2 ^ bits : Nat) : Int), shl_one (e := bits) (by omega), ?_⟩
  refine ⟨((2 ^ bits - 1 : Nat) : Int), hsub, ?_⟩
  refine ⟨((startN s bits : Nat) : Int), hst, ?_⟩
  have hlt := movedN_lt (s := s) (bits := bits) (to := to) (fun k => by have := ht k; omega)
  refine ⟨Nat, fun k => ⟨[(0, .int .u64 s), (2, .func (.func 69) #[] #[.pointer (some ⟨ib, 0, none⟩)]), (7, .int .u64 (movedN s bits to k : Nat)), (14, i64 bits), (15, i64 (k : Nat))], []⟩, fun k X => k ≤ bits ∧ w = X, fun k => bits - k, 0,
    ⟨.cons rfl (.cons rfl (.cons rfl (.cons rfl (.cons rfl .nil)))), rfl⟩, ⟨Nat.zero_le _, rfl⟩, ?_⟩
  rintro k _ ⟨hk, rfl⟩
  dsimp only at hk ⊢
  refine And.intro (fun hc => ?_) (fun hc => ?_)
  · have hc : (k : Int) < (bits : Int) := of_decide_eq_true hc
    have hkb : k < bits := by omega
    refine ⟨by omega, ((2 ^ k : Nat) : Int), shl_one (e := k) (by omega), ?_⟩
    have h2k : 2 ^ k < 2 ^ 64 := Nat.pow_lt_pow_right (by decide) (by omega)
    refine ⟨_, u64_and (a := s) (b := 2 ^ k) hs h2k, ?_⟩
    refine And.intro (fun h => ?_) (fun h => ?_)
    · have h : (!decide (((s &&& 2 ^ k : Nat) : Int) = 0)) = true := h
      have h : ¬ ((s &&& 2 ^ k : Nat) : Int) = 0 := by simpa using h
      have hne : ¬ s &&& 2 ^ k = 0 := fun e => h (by rw [e]; rfl)
      refine Calls.mono (view1_c hi (by omega) h4) ?_
      rintro e _ ⟨rfl, rfl⟩
      obtain ⟨t0, t1⟩ := ht k
      refine ⟨t0, _, shl_one (e := (to.getD k 0).toNat) (by omega), ?_⟩
      refine ⟨_, u64_or (a := movedN s bits to k) (b := 2 ^ (to.getD k 0).toNat) (hlt k) (Nat.pow_lt_pow_right (by decide) (by omega)), ?_⟩
      refine ⟨_, (wrap_i64 (by omega)).trans rfl, ?_⟩
      have p7 : some (Value.int .u64 ((movedN s bits to k ||| 2 ^ (to.getD k 0).toNat : Nat) : Int)) = some (.int .u64 (movedN s bits to (k + 1) : Nat)) := by rw [movedN_succ, if_neg hne]
      exact ⟨k + 1, ⟨.cons rfl (.cons rfl (.cons p7 (.cons rfl (.cons rfl .nil)))), rfl⟩, ⟨hkb, rfl⟩, by show bits - (k + 1) < bits - k; omega⟩
    · have h : (!decide (((s &&& 2 ^ k : Nat) : Int) = 0)) = false := h
      have h : ((s &&& 2 ^ k : Nat) : Int) = 0 := by simpa using h
      have he : s &&& 2 ^ k = 0 := Int.natCast_eq_zero.1 h
      refine ⟨_, (wrap_i64 (by omega)).trans rfl, ?_⟩
      have p7 : some (Value.int .u64 (movedN s bits to k : Nat)) = some (.int .u64 (movedN s bits to (k + 1) : Nat)) := by rw [movedN_succ, if_pos he]
      exact ⟨k + 1, ⟨.cons rfl (.cons rfl (.cons p7 (.cons rfl (.cons rfl .nil)))), rfl⟩, ⟨hkb, rfl⟩, by show bits - (k + 1) < bits - k; omega⟩
  · have hc : ¬ (k : Int) < (bits : Int) := of_decide_eq_false hc
    obtain rfl : k = bits := by omega
    exact ⟨rfl, rfl⟩
end Go.Proofs.YthmddpoodknclaaDoor
namespace Go.Proofs.YthmddpoodknclaaDoor
open Go.Vc Go.RowKit Go.Sei
set_option linter.unusedVariables false

def viewC (kind : UInt8) (marks : Nat) (all : Bool) : List Value := [u8 kind, .int .u64 marks, .bool all]
structure VIx (w X : World) (L n : Nat) (pr : Bool) (to : List Int) (v r : List Value) : Prop where
  i : X.heap[L]? = some (.cells (idxC n pr to).toArray 117 (0, 0))
  v : X.heap[L + 1]? = some (.cells v.toArray 63 (0, 0))
  r : X.heap[L + 2]? = some (.cells r.toArray 63 (0, 0))
  b : Below w.heap.size w X
theorem view_c {n s : Nat} {pr all : Bool} {to : List Int} {w : World} (hn : n ≤ 4) (h4 : to.length = 4) (hs : s < 2 ^ 64) (ht : ∀ k, 0 ≤ to.getD k 0 ∧ to.getD k 0 < 64) :
    Calls Tryd.prog 40 #[.agg (idxC n pr to).toArray, .agg (viewC 1 s all).toArray] w fun e w' => e = .returned (.agg (viewC 1 (movedN s n to n) all).toArray) ∧ Below w.heap.size w w' := by
  refine calls_of_M (S := sg 41) (sgOk _) (args := [.agg (idxC n pr to).toArray, .agg (viewC 1 s all).toArray]) (.c .p (.c .p .p)) Tryd.func40 rfl rfl (Nat.le_of_ble_eq_true rfl) rfl ?_
  obtain ⟨L, hL⟩ : ∃ L, L = w.heap.size := ⟨_, rfl⟩
  obtain ⟨W1, hW1⟩ : ∃ W1, W1 = w.alloc (.cells (idxC n pr to).toArray 117) := ⟨_, rfl⟩
  obtain ⟨W2, hW2⟩ : ∃ W2, W2 = W1.alloc (.cells (viewC 1 s all).toArray 63) := ⟨_, rfl⟩
  have s1 : W1.heap.size = L + 1 := by rw [hW1, World.size_alloc, hL]
  have s2 : W2.heap.size = L + 2 := by rw [hW2, World.size_alloc, s1]
  refine ⟨Unit, fun _ => ⟨[(2, .pointer (some ⟨L, 0, none⟩)), (3, .pointer (some ⟨L + 1, 0, none⟩)), (4, .pointer (some ⟨L + 2, 0, none⟩))], []⟩, fun _ X => VIx w X L n pr to (viewC 1 s all) (viewC 0 0 false), ?_, ?_⟩
  · have q1 : some (Value.pointer (some ⟨w.heap.size, 0, none⟩)) = some (Value.pointer (some ⟨L, 0, none⟩)) := by rw [hL]
    have q2 : some (Value.pointer (some ⟨W1.heap.size, 0, none⟩)) = some (Value.pointer (some ⟨L + 1, 0, none⟩)) := by rw [s1]
    have q3 : some (Value.pointer (some ⟨W2.heap.size, 0, none⟩)) = some (Value.pointer (some ⟨L + 2, 0, none⟩)) := by rw [s2]
    rw [hW2, hW1] at q3
    rw [hW1] at q2
    refine ⟨(), ⟨.cons q1 (.cons q2 (.cons q3 .nil)), rfl⟩, ?_⟩
    have hM : VIx w (W2.alloc (.cells (viewC 0 0 false).toArray 63)) L n pr to (viewC 1 s all) (viewC 0 0 false) := by
      refine ⟨hold _ ?_, hold _ ?_, ?_, ?_⟩
      · rw [hW2, hW1, hL]; exact hold _ (hnew w _)
      · rw [hW2, ← s1]; exact hnew W1 _
      · rw [← s2]; exact hnew W2 _
      · rw [hW2, hW1]; exact (((Below.refl _ w).alloc (Nat.le_refl _) _).alloc (by simp) _).alloc (by simp; omega) _
    rw [hW2, hW1] at hM
    exact hM
  have hLw : w.heap.size ≤ L := by omega
  clear s1 s2 hW1 hW2 W1 W2
  rintro _ X hX
  refine ⟨Unit, fun _ => ⟨[(2, .pointer (some ⟨L, 0, none⟩)), (3, .pointer (some ⟨L + 1, 0, none⟩)), (4, .pointer (some ⟨L + 2, 0, none⟩))], []⟩, fun _ X => VIx w X L n pr to (viewC 1 (movedN s n to n) all) (viewC 0 0 false), ?_, ?_⟩
  · refine ⟨_, cells_at (cells_block hX.v) (i := 0) rfl, ?_⟩
    refine brT ?_
    refine brT ?_
    refine ⟨_, cells_at (cells_block hX.v) (i := 1) rfl, ?_⟩
    refine ⟨_, cells_at (cells_block hX.i) (i := 0) rfl, ?_⟩
    refine ⟨(n : Int), wrap_i64 (by omega), ?_⟩
    refine Calls.mono (moved_c hX.i h4 hs hn ht) ?_
    rintro e _ ⟨rfl, rfl⟩
    refine store_one (ttOk.get 61 _ rfl) hX.v (o := 1) (v := .int .u64 (movedN s n to n : Nat)) rfl rfl (by show 1 < 3; decide) rfl fun Y fY gY sY => ?_
    exact ⟨(), ⟨.cons rfl (.cons rfl (.cons rfl .nil)), rfl⟩, (gY.block _ (hlt hX.i) (by simp)).trans hX.i, fY, (gY.block _ (hlt hX.r) (by simp)).trans hX.r, hX.b.trans (below_grown gY hX.b.size (by omega))⟩
  clear hX
  rintro _ X hX
  refine ⟨viewC 1 (movedN s n to n) all, rfl, cells_block hX.v, hlt hX.v, ?_⟩
  refine store_box (v := .agg (viewC 1 (movedN s n to n) all).toArray) (ttOk.get 63 _ rfl) hX.r rfl rfl rfl ?_
  have f3 := setRow_new (cs' := (Value.agg (viewC 1 (movedN s n to n) all).toArray).cells) hX.r
  refine ⟨viewC 1 (movedN s n to n) all, rfl, cells_block f3, ?_⟩
  exact ⟨rfl, below_setRow hX.b (by omega) _⟩
end Go.Proofs.YthmddpoodknclaaDoor
namespace Go.Proofs.YthmddpoodknclaaDoor
open Go.Vc Go.RowKit Go.Sei
set_option linter.unusedVariables false

theorem toN_range64 {l : List Int} : ∀ {k : Nat}, k ≤ 4 → ∀ x ∈ toN l k, 0 ≤ x ∧ x < 64
  | 0, _ => fun x hx => by
    have : x = 0 := by
      unfold toN at hx
      simpa using hx
    omega
  | k + 1, hk => fun x hx => by
    rw [toN_succ] at hx
    rcases List.mem_or_eq_of_mem_set hx with hx | hx
    · exact toN_range64 (by omega) x hx
    · omega
theorem toN_get {l : List Int} (hl : l.length ≤ 4) (k : Nat) : 0 ≤ (toN l l.length).getD k 0 ∧ (toN l l.length).getD k 0 < 64 := by
  by_cases h : k < (toN l l.length).length
  · rw [getD_lt2 h]
    exact toN_range64 hl _ (List.getElem_mem h)
  · rw [List.getD_eq_getElem?_getD, List.getElem?_eq_none (by omega)]
    exact ⟨Int.le_refl _, by decide⟩
theorem View_c {B : Nat} {p : Prg} {g : Geo} {md : UInt8} {vs : List Value} {s : Nat} {all : Bool} {q : Option Addr} {cap : Nat} {l : List Int} {w : World} (hB : B ≤ w.heap.size) (hw : WldV B w vs p g md) (hT : GlobT w) (h1 : vs.all Value.oneCell' = true) (hl : SlR Go.Sei.intE w q l) (hs64 : s < 2 ^ 64) (hf : (turnsL p g && suitsL g md l) = true) :
    Calls Tryd.prog 17 #[.agg vs.toArray, .agg (viewC 1 s all).toArray, .slice q l.length cap] w fun e w' => e = .returned (.tuple #[.agg (viewC 1 (movedN s l.length (toN l l.length) l.length) all).toArray, i64 0]) ∧ Below w.heap.size w w' := by
  refine calls_of_M (S := sg 17) (sgOk _) (args := [.agg vs.toArray, .agg (viewC 1 s all).toArray, .slice q l.length cap]) (.c .p (.s .p .p)) Tryd.func17 rfl rfl (Nat.le_of_ble_eq_true rfl) rfl ?_
  obtain ⟨n, hgc, hn1, hn4, hln, hr⟩ := fits_parts hf
  obtain ⟨L, hL⟩ : ∃ L, L = w.heap.size := ⟨_, rfl⟩
  obtain ⟨W1, hW1⟩ : ∃ W1, W1 = w.alloc (.cells vs.toArray 44) := ⟨_, rfl⟩
  obtain ⟨W2, hW2⟩ : ∃ W2, W2 = W1.alloc (.cells (viewC 1 s all).toArray 63) := ⟨_, rfl⟩
  have s1 : W1.heap.size = L + 1 := by rw [hW1, World.size_alloc, hL]
  have s2 : W2.heap.size = L + 2 := by rw [hW2, World.size_alloc, s1]
  refine ⟨Unit, fun _ => ⟨[(2, .slice q l.length cap), (3, .pointer (some ⟨L, 0, none⟩)), (4, .pointer (some ⟨L + 1, 0, none⟩)), (6, .pointer (some ⟨L + 2, 0, none⟩)), (7, i64 0)], []⟩, fun _ X => X.heap[L]? = some (.cells vs.toArray 44 (0, 0)) ∧
    X.heap[L + 1]? = some (.cells (viewC 1 s all).toArray 63 (0, 0)) ∧ X.heap[L + 2]? = some (.cells (viewC 0 0 false).toArray 63 (0, 0)) ∧ Below w.heap.size w X, ?_, ?_⟩
  · have q1 : some (Value.pointer (some ⟨w.heap.size, 0, none⟩)) = some (Value.pointer (some ⟨L, 0, none⟩)) := by rw [hL]
    have q2 : some (Value.pointer (some ⟨W1.heap.size, 0, none⟩)) = some (Value.pointer (some ⟨L + 1, 0, none⟩)) := by rw [s1]
    have q3 : some (Value.pointer (some ⟨W2.heap.size, 0, none⟩)) = some (Value.pointer (some ⟨L + 2, 0, none⟩)) := by rw [s2]
    rw [hW2, hW1] at q3
    rw [hW1] at q2
    refine ⟨(), ⟨.cons rfl (.cons q1 (.cons q2 (.cons q3 (.cons rfl .nil)))), rfl⟩, ?_⟩
    have hM : (W2.alloc (.cells (viewC 0 0 false).toArray 63)).heap[L]? = some (.cells vs.toArray 44 (0, 0)) ∧ (W2.alloc (.cells (viewC 0 0 false).toArray 63)).heap[L + 1]? = some (.cells (viewC 1 s all).toArray 63 (0, 0)) ∧ (W2.alloc (.cells (viewC 0 0 false).toArray 63)).heap[L + 2]? = some (.cells (viewC 0 0 false).toArray 63 (0, 0)) ∧ Below w.heap.size w (W2.alloc (.cells (viewC 0 0 false).toArray 63)) := by
      refine ⟨hold _ ?_, hold _ ?_, ?_, ?_⟩
      · rw [hW2, hW1, hL]; exact hold _ (hnew w _)
      · rw [hW2, ← s1]; exact hnew W1 _
      · rw [← s2]; exact hnew W2 _
      · rw [hW2, hW1]; exact (((Below.refl _ w).alloc (Nat.le_refl _) _).alloc (by simp) _).alloc (by simp; omega) _
    rw [hW2, hW1] at hM
    exact hM
  clear s1 s2 hW1 hW2 W1 W2
  rintro _ X ⟨f0, f1, f2, hbX⟩
  refine ⟨vs, hw.len, cells_block f0, hlt f0, ?_⟩
  refine Calls.mono (Fits_c (Nat.le_trans hB hbX.size) (hw.below (hbX.mono hB)) (hT.below hbX) h1 (hl.below hbX) (by omega)) ?_
  rintro e V ⟨rfl, hbV⟩
  rw [hf]
  refine brF ?_
  have hbw : Below w.heap.size w V := hbX.trans (hbV.mono hbX.size)
  refine DrawE.ord [4] [0, 2, 1, 3, 4, 5] (by kernel_rfl) ?_
  have hbd : Below V.heap.size V V.drew := (Below.refl _ V).drew
  have hbwd : Below w.heap.size w V.drew := hbw.trans (hbd.mono hbw.size)
  have g0 := block_below hbd (block_below hbV f0)
  have g1 := block_below hbd (block_below hbV f1)
  have g2 := block_below hbd (block_below hbV f2)
  have hC : WldC B V.drew L p g md := ⟨Nat.le_trans hB hbwd.size, ⟨vs, g0, hw.below (hbwd.mono hB)⟩, hT.below hbwd⟩
  refine ⟨(viewC 1 s all), rfl, cells_block g1, hlt g1, ?_⟩
  refine Calls.mono (newIndex_c hC hgc hn4 (hl.below hbwd) hr (by omega)) ?_
  rintro e U ⟨rfl, hbU⟩
  refine ⟨hbU, ?_⟩
  refine Calls.mono (view_c (s := s) (all := all) hn4 (toN_len _ _) hs64 (toN_get (by omega))) ?_
  rintro e Y ⟨rfl, hbY⟩
  refine ⟨hbY, ?_⟩
  have g3 := block_below hbY (block_below hbU g2)
  refine store_box (v := .agg (viewC 1 (movedN s n (toN l l.length) n) all).toArray) (ttOk.get 63 _ rfl) g3 rfl rfl rfl ?_
  have g4 := setRow_new (cs' := (Value.agg (viewC 1 (movedN s n (toN l l.length) n) all).toArray).cells) g3
  refine ⟨(viewC 1 (movedN s n (toN l l.length) n) all), rfl, cells_block g4, ?_⟩
  have hbY2 : Below w.heap.size w Y := (hbwd.trans (hbU.mono hbwd.size)).trans (hbY.mono (Nat.le_trans hbwd.size hbU.size))
  refine ⟨by rw [hln]; rfl, below_setRow hbY2 (by omega) _⟩
end Go.Proofs.YthmddpoodknclaaDoor
namespace Go.Proofs.YthmddpoodknclaaDoor
open Go.Vc Go.RowKit Go.Sei
set_option linter.unusedVariables false

def zeroW : List Value := [.string ByteArray.empty, .slice none 0 0, .slice none 0 0, .slice none 0 0, u8 0, u8 0, u8 0, u8 0, u8 0, .slice none 0 0, i64 0, i64 0, i64 0, i64 0, i64 0, u8 0, u8 0, u8 0, i64 0, .bool false, .string ByteArray.empty] ++ (List.replicate 188 [.int .u8 0, .int .u8 0, .int .u16 0]).flatten
theorem zeroW_len : zeroW.length = 585 := by kernel_rfl
theorem zeroW_one : zeroW.all Value.oneCell' = true := by kernel_rfl
theorem World_no_c {B : Nat} {p : Prg} {g : Geo} {md : UInt8} {vs : List Value} {q : Option Addr} {cap : Nat} {l : List Int} {w : World} (hB : B ≤ w.heap.size) (hw : WldV B w vs p g md) (hT : GlobT w) (h1 : vs.all Value.oneCell' = true) (hl : SlR Go.Sei.intE w q l) (hn : l.length ≤ 1000) (hf : (turnsL p g && suitsL g md l) = false) :
    Calls Tryd.prog 15 #[.agg vs.toArray, .slice q l.length cap] w fun e w' => e = .returned (.tuple #[.agg zeroW.toArray, i64 2]) ∧ Below w.heap.size w w' := by
  refine calls_of_M (S := sg 45) (sgOk _) (args := [.agg vs.toArray, .slice q l.length cap]) (.c .p .p) Tryd.func15 rfl rfl (Nat.le_of_ble_eq_true rfl) rfl ?_
  obtain ⟨L, hL⟩ : ∃ L, L = w.heap.size := ⟨_, rfl⟩
  obtain ⟨W1, hW1⟩ : ∃ W1, W1 = w.alloc (.cells vs.toArray 44) := ⟨_, rfl⟩
  have s1 : W1.heap.size = L + 1 := by rw [hW1, World.size_alloc, hL]
  refine ⟨Unit, fun _ => ⟨[(1, .slice q l.length cap), (2, .pointer (some ⟨L, 0, none⟩)), (4, .pointer (some ⟨L + 1, 0, none⟩))], []⟩, fun _ X => X.heap[L]? = some (.cells vs.toArray 44 (0, 0)) ∧
    (∃ cs : Array Value, X.heap[L + 1]? = some (.cells cs 44 (0, 0)) ∧ cs.size = 585) ∧ Below w.heap.size w X, ?_, ?_⟩
  · have q1 : some (Value.pointer (some ⟨w.heap.size, 0, none⟩)) = some (Value.pointer (some ⟨L, 0, none⟩)) := by rw [hL]
    have q2 : some (Value.pointer (some ⟨W1.heap.size, 0, none⟩)) = some (Value.pointer (some ⟨L + 1, 0, none⟩)) := by rw [s1]
    rw [hW1] at q2
    refine ⟨(), ⟨.cons rfl (.cons q1 (.cons q2 .nil)), rfl⟩, ?_⟩
    have hM : ∀ cs : Array Value, cs.size = 585 → (W1.alloc (.cells cs 44)).heap[L]? = some (.cells vs.toArray 44 (0, 0)) ∧ (∃ cs' : Array Value, (W1.alloc (.cells cs 44)).heap[L + 1]? = some (.cells cs' 44 (0, 0)) ∧ cs'.size = 585) ∧ Below w.heap.size w (W1.alloc (.cells cs 44)) := fun cs hcs => by
      refine ⟨hold _ ?_, ⟨cs, ?_, hcs⟩, ?_⟩
      · rw [hW1, hL]; exact hnew w _
      · rw [← s1]; exact hnew W1 _
      · rw [hW1]; exact ((Below.refl _ w).alloc (Nat.le_refl _) _).alloc (by simp) _
    rw [hW1] at hM
    refine hM _ ?_
    kernel_rfl
  clear s1 hW1 W1
  rintro _ X ⟨f0, ⟨cs, f1, hcs⟩, hbX⟩
  refine ⟨vs, hw.len, cells_block f0, hlt f0, ?_⟩
  refine Calls.mono (Fits_c (Nat.le_trans hB hbX.size) (hw.below (hbX.mono hB)) (hT.below hbX) h1 (hl.below hbX) (by omega)) ?_
  rintro e V ⟨rfl, hbV⟩
  rw [hf]
  refine brT ?_
  have hbw : Below w.heap.size w V := hbX.trans (hbV.mono hbX.size)
  refine ⟨zeroW, by kernel_rfl, ?_⟩
  refine store_box (v := .agg zeroW.toArray) (ttOk.get 44 _ rfl) (block_below hbV f1) zeroW_len hcs zeroW_one ?_
  have f3 := setRow_new (cs' := (Value.agg zeroW.toArray).cells) (block_below hbV f1)
  refine ⟨zeroW, zeroW_len, cells_block f3, ?_⟩
  exact ⟨rfl, below_setRow hbw (by omega) _⟩
end Go.Proofs.YthmddpoodknclaaDoor
namespace Go.Proofs.YthmddpoodknclaaDoor
open Go.Vc Go.RowKit Go.Sei
set_option linter.unusedVariables false

def grpL (n : Nat) (m : Bool) : List (List Int) := (permsL n).filter fun l => permL l n && (!m || pairL l)
def grpN (m : Bool) (n : Nat) : Nat := if m then [1, 1, 2, 2, 8].getD n 0 else [1, 1, 2, 6, 24].getD n 0
def grpOk (n : Nat) (m : Bool) : Bool :=
  decide ((grpL n m).length = grpN m n) && (decide ((grpL n m).head? = some (iotaL n)) &&
    ((grpL n m).all (fun a => (smallL a && decide (a.length = n)) && (decide (backL a ∈ grpL n m) && ((decide (pickL 0 a (backL a) = iotaL n) && decide (pickL 0 (backL a) a = iotaL n)) && ((List.range n).all fun t => decide (a.getD t 0 = t) == decide ((backL a).getD t 0 = t))))) &&
    (grpL n m).all fun a => (grpL n m).all fun b => decide (pickL 0 a b ∈ grpL n m)))
theorem grp_ok1 : (grpOk 1 false && grpOk 1 true) = true := by kernel_rfl
theorem grp_ok2 : (grpOk 2 false && grpOk 2 true) = true := by kernel_rfl
theorem grp_ok3 : (grpOk 3 false && grpOk 3 true) = true := by kernel_rfl
theorem grp_ok4 : (grpOk 4 false && grpOk 4 true) = true := by kernel_rfl
theorem grp_ok {n : Nat} (m : Bool) (h1 : 1 ≤ n) (h4 : n ≤ 4) : grpOk n m = true := by
  have hc : n = 1 ∨ n = 2 ∨ n = 3 ∨ n = 4 := by omega
  have h := grp_ok1
  have h2 := grp_ok2
  have h3 := grp_ok3
  have h5 := grp_ok4
  rw [Bool.and_eq_true] at h h2 h3 h5
  rcases hc with rfl | rfl | rfl | rfl <;> cases m
  · exact h.1
  · exact h.2
  · exact h2.1
  · exact h2.2
  · exact h3.1
  · exact h3.2
  · exact h5.1
  · exact h5.2
structure Grp (n : Nat) (m : Bool) : Prop where
  len : (grpL n m).length = grpN m n
  head : (grpL n m).head? = some (iotaL n)
  small : ∀ a ∈ grpL n m, smallL a = true ∧ a.length = n
  back : ∀ a ∈ grpL n m, backL a ∈ grpL n m ∧ (pickL 0 a (backL a) = iotaL n ∧ pickL 0 (backL a) a = iotaL n) ∧ ∀ t : Nat, t < n → (a.getD t 0 = t ↔ (backL a).getD t 0 = t)
  comp : ∀ a ∈ grpL n m, ∀ b ∈ grpL n m, pickL 0 a b ∈ grpL n m
theorem grp {n : Nat} (m : Bool) (h1 : 1 ≤ n) (h4 : n ≤ 4) : Grp n m := by
  have h := grp_ok m h1 h4
  unfold grpOk at h
  simp only [Bool.and_eq_true, decide_eq_true_eq, List.all_eq_true] at h
  obtain ⟨ha, hb, hc, hd⟩ := h
  refine ⟨ha, hb, fun a h => (hc a h).1, fun a h => ⟨(hc a h).2.1, (hc a h).2.2.1, fun t ht => ?_⟩, hd⟩
  have := (hc a h).2.2.2 t (List.mem_range.2 ht)
  have := beq_iff_eq.1 this
  rwa [decide_eq_decide] at this
theorem allL_grp {p : Prg} {g : Geo} {md : UInt8} {n : Nat} (ht : turnsL p g = true) (hn : g.c = n) : allL p g md = grpL n (decide (md = 3)) := by
  unfold allL grpL
  rw [if_pos ht, hn]
  congr 1
  funext l
  unfold suitsL
  rw [hn]
end Go.Proofs.YthmddpoodknclaaDoor
namespace Go.Proofs.YthmddpoodknclaaDoor
open Go.Vc Go.RowKit Go.Sei
set_option linter.unusedVariables false
set_option linter.unusedSectionVars false

theorem getD_pickL {α : Type} (d e : α) (a : List α) (l : List Int) (t : Nat) (ht : t < l.length) : (pickL d a l).getD t e = a.getD l[t].toNat d := by
  unfold pickL
  rw [List.getD_eq_getElem?_getD, List.getElem?_map, List.getElem?_eq_getElem ht]; rfl
theorem getD_lt {l : List Int} {t : Nat} (ht : t < l.length) (d : Int) : l.getD t d = l[t] := by rw [List.getD_eq_getElem?_getD, List.getElem?_eq_getElem ht]; rfl
/-- Threads kept, one by one. -/
theorem pick_same {α : Type} {d : α} {xs : List α} {l : List Int} (hl : l.length = xs.length) : pickL d xs l = xs ↔ ∀ t (ht : t < l.length), xs.getD l[t].toNat d = xs.getD t d := by
  constructor
  · intro h t ht
    have := getD_pickL d d xs l t ht
    rw [h] at this
    exact this.symm
  · intro h
    apply List.ext_getElem
    · unfold pickL; rw [List.length_map, hl]
    · intro t h1 h2
      have ht : t < l.length := by unfold pickL at h1; rwa [List.length_map] at h1
      have e := h t ht
      have e1 : xs.getD t d = xs[t] := by rw [List.getD_eq_getElem?_getD, List.getElem?_eq_getElem h2]; rfl
      rw [e1] at e
      rw [← e]
      exact List.getElem_map _
mutual
theorem still_mono {l l' : List Int} (h : ∀ t : Nat, (t < l.length ∧ l.getD t 0 = t) → (t < l'.length ∧ l'.getD t 0 = t)) : ∀ c : Cnd, stillL l c = true → stillL l' c = true
  | .mk k t n v kids => fun hs => by
    rw [stillL] at hs ⊢
    by_cases hk : k = 1
    · rw [if_pos hk, Bool.and_eq_true, decide_eq_true_eq, decide_eq_true_eq] at hs
      rw [if_pos hk, Bool.and_eq_true, decide_eq_true_eq, decide_eq_true_eq]
      exact h _ hs
    · rw [if_neg hk] at hs ⊢
      exact stills_mono h kids hs
theorem stills_mono {l l' : List Int} (h : ∀ t : Nat, (t < l.length ∧ l.getD t 0 = t) → (t < l'.length ∧ l'.getD t 0 = t)) : ∀ kids : List Cnd, stillLs l kids = true → stillLs l' kids = true
  | [], _ => by rw [stillLs]
  | c :: r, hs => by
    rw [stillLs, Bool.and_eq_true] at hs ⊢
    exact ⟨still_mono h c hs.1, stills_mono h r hs.2⟩
end
mutual
theorem still_and {a b l' : List Int} (h : ∀ t : Nat, (t < a.length ∧ a.getD t 0 = t) → (t < b.length ∧ b.getD t 0 = t) → (t < l'.length ∧ l'.getD t 0 = t)) : ∀ c : Cnd, stillL a c = true → stillL b c = true → stillL l' c = true
  | .mk k t n v kids => fun hs hs2 => by
    rw [stillL] at hs hs2 ⊢
    by_cases hk : k = 1
    · rw [if_pos hk, Bool.and_eq_true, decide_eq_true_eq, decide_eq_true_eq] at hs hs2
      rw [if_pos hk, Bool.and_eq_true, decide_eq_true_eq, decide_eq_true_eq]
      exact h _ hs hs2
    · rw [if_neg hk] at hs hs2 ⊢
      exact stills_and h kids hs hs2
theorem stills_and {a b l' : List Int} (h : ∀ t : Nat, (t < a.length ∧ a.getD t 0 = t) → (t < b.length ∧ b.getD t 0 = t) → (t < l'.length ∧ l'.getD t 0 = t)) : ∀ kids : List Cnd, stillLs a kids = true → stillLs b kids = true → stillLs l' kids = true
  | [], _, _ => by rw [stillLs]
  | c :: r, hs, hs2 => by
    rw [stillLs, Bool.and_eq_true] at hs hs2 ⊢
    exact ⟨still_and h c hs.1 hs2.1, stills_and h r hs.2 hs2.2⟩
end
theorem iota_get {n t : Nat} (h : t < n) : (iotaL n).getD t 0 = (t : Int) := by
  unfold iotaL
  rw [List.getD_eq_getElem?_getD, List.getElem?_map, List.getElem?_range h]; rfl
theorem iota_length (n : Nat) : (iotaL n).length = n := by unfold iotaL; simp
/-- What a valid condition asks stays where it is. -/
theorem still_iota {th lo : Nat} : ∀ (d : Nat) (c : Cnd), condB th lo d c = true → stillL (iotaL th) c = true := by
  intro d
  induction d with
  | zero => intro c h; cases c; cases h
  | succ d ih =>
    intro c h
    rw [condB_succ] at h
    rw [stillL_eq]
    have nil : c.kids.length = 0 → c.kids.all (stillL (iotaL th)) = true := fun h => by rw [List.eq_nil_of_length_eq_zero h]; rfl
    have kids : c.kids.all (condB th lo d) = true → c.kids.all (stillL (iotaL th)) = true := fun h => by
      rw [List.all_eq_true] at h ⊢
      exact fun x hx => ih x (h x hx)
    by_cases h1 : c.kind = 1
    · rw [if_neg (by rw [h1]; decide), if_pos h1, Bool.and_eq_true, decide_eq_true_eq] at h
      rw [if_pos h1, Bool.and_eq_true, decide_eq_true_eq, decide_eq_true_eq, iota_length]
      exact ⟨h.1, iota_get h.1⟩
    · rw [if_neg h1]
      by_cases h0 : c.kind = 0
      · rw [if_pos h0, Bool.and_eq_true, decide_eq_true_eq] at h
        exact nil h.2
      rw [if_neg h0, if_neg h1] at h
      by_cases h2 : c.kind = 2
      · rw [if_pos h2, Bool.and_eq_true, Bool.and_eq_true, decide_eq_true_eq (p := c.kids.length = 0)] at h
        exact nil h.2.2
      rw [if_neg h2] at h
      by_cases h3 : c.kind = 3 ∨ c.kind = 4
      · rw [if_pos h3, Bool.and_eq_true, Bool.and_eq_true] at h
        exact kids h.2.2
      rw [if_neg h3] at h
      by_cases h5 : c.kind = 5
      · rw [if_pos h5, Bool.and_eq_true, Bool.and_eq_true] at h
        exact kids h.2.2
      rw [if_neg h5] at h
      cases h
section
variable {p : Prg} {n : Nat} {m : Bool} (hn : p.threads.length = n) (G : Grp n m)
include hn G
theorem keeps_iota (hok : okPrg p = true) : keepsL p (iotaL n) = true := by
  unfold keepsL
  rw [Bool.and_eq_true, decide_eq_true_eq]
  constructor
  · rw [pick_same (by rw [iota_length, hn])]
    intro t ht
    have ht' : t < n := by rwa [iota_length] at ht
    have e := iota_get ht'
    rw [getD_lt ht] at e
    rw [e]; rfl
  · unfold okPrg at hok
    simp only [Bool.and_eq_true] at hok
    have := still_iota 20 p.cond hok.2.2.2.2.2
    rwa [hn] at this
theorem grp_range {a : List Int} (ha : a ∈ grpL n m) : a.length = n ∧ ∀ t (ht : t < a.length), 0 ≤ a[t] ∧ a[t] < n := by
  obtain ⟨h1, h2⟩ := G.small a ha
  have := (small_perm h1).2
  exact ⟨h2, fun t ht => by have := this _ (List.getElem_mem ht); omega⟩
theorem keeps_comp {a b : List Int} (ha : a ∈ grpL n m) (hb : b ∈ grpL n m) (ka : keepsL p a = true) (kb : keepsL p b = true) : keepsL p (pickL 0 a b) = true := by
  obtain ⟨la, ra⟩ := grp_range hn G ha
  obtain ⟨lb, rb'⟩ := grp_range hn G hb
  have lab : (pickL 0 a b).length = n := by unfold pickL; rw [List.length_map, lb]
  unfold keepsL at ka kb ⊢
  rw [Bool.and_eq_true, decide_eq_true_eq] at ka kb ⊢
  have pa := (pick_same (by omega)).1 ka.1
  have pb := (pick_same (by omega)).1 kb.1
  refine ⟨(pick_same (by omega)).2 fun t ht => ?_, still_and (fun t h1 h2 => ?_) p.cond ka.2 kb.2⟩
  · have htb : t < b.length := by omega
    have e1 : (pickL 0 a b)[t] = a.getD b[t].toNat 0 := by rw [← getD_lt ht 0]; exact getD_pickL 0 0 a b t htb
    have hbt := rb' t htb
    have hba : b[t].toNat < a.length := by omega
    rw [e1, getD_lt hba, pa _ hba, pb t htb]
  · have htb : t < b.length := by omega
    refine ⟨by omega, ?_⟩
    rw [getD_pickL 0 0 a b t htb]
    have : b[t] = (t : Int) := by rw [← getD_lt htb 0]; exact h2.2
    rw [this]; exact h1.2
theorem keeps_back1 {a b : List Int} (ha : a ∈ grpL n m) (hb : b ∈ grpL n m) (hab : pickL 0 a b = iotaL n) (hs : ∀ t : Nat, t < n → (a.getD t 0 = t → b.getD t 0 = t)) (ka : keepsL p a = true) : keepsL p b = true := by
  obtain ⟨la, ra⟩ := grp_range hn G ha
  obtain ⟨lb, rb'⟩ := grp_range hn G hb
  unfold keepsL at ka ⊢
  rw [Bool.and_eq_true, decide_eq_true_eq] at ka ⊢
  have pa := (pick_same (by omega)).1 ka.1
  refine ⟨(pick_same (by omega)).2 fun t ht => ?_, still_mono (fun t h => ⟨by omega, hs t (by omega) h.2⟩) p.cond ka.2⟩
  have hbt := rb' t ht
  have hba : b[t].toNat < a.length := by omega
  have e1 : a[b[t].toNat] = (t : Int) := by
    have h1 := getD_pickL 0 0 a b t ht
    rw [hab, iota_get (by omega), getD_lt hba] at h1
    exact h1.symm
  have h2 := pa _ hba
  rw [e1] at h2
  exact h2.symm
theorem keeps_back {a : List Int} (ha : a ∈ grpL n m) : keepsL p (backL a) = keepsL p a := by
  obtain ⟨h1, ⟨h2, h3⟩, h4⟩ := G.back a ha
  rw [Bool.eq_iff_iff]
  exact ⟨fun h => keeps_back1 hn G h1 ha h3 (fun t ht h => (h4 t ht).2 h) h, fun h => keeps_back1 hn G ha h1 h2 (fun t ht h => (h4 t ht).1 h) h⟩
end
end Go.Proofs.YthmddpoodknclaaDoor
namespace Go.Proofs.YthmddpoodknclaaDoor
open Go.Vc Go.RowKit Go.Sei
set_option linter.unusedVariables false

theorem turnsW2 : turnsL (prgW 2) (geoW 2) = true := by kernel_rfl
theorem turnsW3 : turnsL (prgW 3) (geoW 3) = true := by kernel_rfl
theorem turnsW4 : turnsL (prgW 4) (geoW 4) = true := by kernel_rfl
theorem suitsW : suitsL (geoW 2) 1 [1, 0] = true := by kernel_rfl
theorem suitsW0 : suitsL (geoW 2) 1 [0, 0] = false := by kernel_rfl
theorem allW3 : allL (prgW 3) (geoW 3) 3 = [[0, 1, 2], [1, 0, 2]] := by kernel_rfl
theorem allW4 : (allL (prgW 4) (geoW 4) 1).length = 24 := by kernel_rfl
theorem allW43 : (allL (prgW 4) (geoW 4) 3).length = 8 := by kernel_rfl
theorem msgW1 : turnM 2 (toN [1, 0] 2) ⟨10, 0, 1, 0, 0, 0, false, 0, 0, 0, 0⟩ = ⟨10, 1, 0, 0, 0, 0, false, 0, 0, 0, 0⟩ := by kernel_rfl
theorem msgW2 : turnM 2 (toN [1, 0] 2) ⟨8, 2, 0, 0, 1, 0, false, 0, 0, 0, 0⟩ = ⟨8, 2, 1, 0, 0, 0, false, 0, 0, 0, 0⟩ := by kernel_rfl
theorem viewW : movedN 1 2 (toN [1, 0] 2) 2 = 2 := by kernel_rfl
theorem thenW : pickL 0 [1, 2, 0] [1, 0, 2] = [2, 1, 0] := by kernel_rfl
theorem thenW1 : smallL [1, 2, 0] = true ∧ permL [1, 0, 2] 3 = true := ⟨by kernel_rfl, by kernel_rfl⟩
theorem backW : backL [1, 2, 0] = [2, 0, 1] := by kernel_rfl
end Go.Proofs.YthmddpoodknclaaDoor
namespace Go.Proofs.YthmddpoodknclaaDoor
open Go.Vc Go.RowKit Go.Sei

theorem eq_u8 (d : Nat) (x y : UInt8) (w : World) : (Op.equalIn (d + 1) 5 (u8 x) (u8 y)).run Tryd.prog w = .ok (decide (x = y)) w := by
  simp only [Op.equalIn, Sem.run_bind, run_underlying Tryd.underlying5, Result.andThen_ok, u8, if_true, Sem.run_pure]
  congr 1
  by_cases h : x = y
  · simp [h]
  · simp [h, u8_eq]
theorem eq_bool' (d : Nat) (a b : Bool) (w : World) : (Op.equalIn (d + 1) 4 (.bool a) (.bool b)).run Tryd.prog w = .ok (decide (a = b)) w := by
  simp only [Op.equalIn, Sem.run_bind, run_underlying Tryd.underlying4, Result.andThen_ok, Sem.run_pure]
  cases a <;> cases b <;> rfl
theorem part_u8 {cs : List Value} {i : Nat} {v : UInt8} (w : World) (h : cs[i]? = some (u8 v)) : (part 5 cs.toArray i).run Tryd.prog w = .ok (u8 v) w := by
  simp only [part, Sem.run_bind, Tryd.isAgg5, Result.andThen_ok, Bool.false_eq_true, if_false]
  have : cs.toArray[i]? = some (u8 v) := by simpa using h
  rw [this]; rfl
theorem part_bool {cs : List Value} {i : Nat} {v : Bool} (w : World) (h : cs[i]? = some (.bool v)) : (part 4 cs.toArray i).run Tryd.prog w = .ok (.bool v) w := by
  simp only [part, Sem.run_bind, Tryd.isAgg4, Result.andThen_ok, Bool.false_eq_true, if_false]
  have : cs.toArray[i]? = some (.bool v) := by simpa using h
  rw [this]; rfl
def dcells (a b c d : UInt8) : List Value := [u8 a, u8 b, u8 c, u8 d]
theorem eq_data (d : Nat) (a b c e a' b' c' e' : UInt8) (w : World) : (Op.equalIn (d + 2) 65 (.agg (dcells a b c e).toArray) (.agg (dcells a' b' c' e').toArray)).run Tryd.prog w = .ok (decide (a = a') && decide (b = b') && decide (c = c') && decide (e = e')) w := by
  have hc : Tryd.prog.cellsOf 5 = 1 := by kernel_rfl
  obtain ⟨⟨inf, hi⟩, _⟩ : Known Tryd.prog 5 := known_of (by kernel_rfl) (by kernel_rfl)
  have hp := fun (a b c e : UInt8) (w : World) => part_u8 (cs := dcells a b c e) (i := 0) (v := a) w rfl
  have hp1 := fun (a b c e : UInt8) (w : World) => part_u8 (cs := dcells a b c e) (i := 1) (v := b) w rfl
  have hp2 := fun (a b c e : UInt8) (w : World) => part_u8 (cs := dcells a b c e) (i := 2) (v := c) w rfl
  have hp3 := fun (a b c e : UInt8) (w : World) => part_u8 (cs := dcells a b c e) (i := 3) (v := e) w rfl
  rw [run_equalIn_array w (d + 1) _ _ Tryd.underlying65 hi, hc]
  simp only [List.range, List.range.loop, Op.eqItems, Sem.run_bind, Sem.run_ite, Nat.mul_one, hp, hp1, hp2, hp3, Result.andThen_ok, eq_u8]
  by_cases h1 : a = a' <;> by_cases h2 : b = b' <;> by_cases h3 : c = c' <;> by_cases h4 : e = e' <;> simp [h1, h2, h3, h4]
theorem part_data (m : Msg) (w : World) : (part 65 m.enc.toArray 7).run Tryd.prog w = .ok (.agg (dcells m.d0 m.d1 m.d2 m.d3).toArray) w := by
  have hs : (sizeOf 65).run Tryd.prog w = .ok 4 w := by
    have h : (Tryd.prog.info? 65).map (·.size) = some 4 := by kernel_rfl
    cases hi : Tryd.prog.info? 65 with
    | none => rw [hi] at h; cases h
    | some inf =>
      rw [hi] at h
      have h : inf.size = 4 := Option.some.inj h
      simp [sizeOf, typeInfo, hi, h]
  simp only [part, Sem.run_bind, Tryd.isAgg65, Result.andThen_ok, if_true, hs]
  rfl
theorem eq_msg (d : Nat) (m n : Msg) (w : World) : (Op.equalIn (d + 3) 73 m.val n.val).run Tryd.prog w = .ok (decide (m = n)) w := by
  have hf : Tryd.prog.underlying 73 = some (.struct (Tryd.prog.fieldsOf 73)) := by
    unfold Program.fieldsOf; rw [Tryd.underlying73]
  have hs : Tryd.prog.stoodInHeld 73 = false := by kernel_rfl
  rw [Msg.val, Msg.val, run_equalIn_struct w (d + 2) _ _ _ hf hs]
  unfold Program.fieldsOf; rw [Tryd.underlying73]
  have p0 := fun (m : Msg) (w : World) => part_u8 (cs := m.enc) (i := 0) (v := m.kind) w rfl
  have p1 := fun (m : Msg) (w : World) => part_u8 (cs := m.enc) (i := 1) (v := m.from_) w rfl
  have p2 := fun (m : Msg) (w : World) => part_u8 (cs := m.enc) (i := 2) (v := m.to) w rfl
  have p3 := fun (m : Msg) (w : World) => part_u8 (cs := m.enc) (i := 3) (v := m.line) w rfl
  have p4 := fun (m : Msg) (w : World) => part_u8 (cs := m.enc) (i := 4) (v := m.asker) w rfl
  have p5 := fun (m : Msg) (w : World) => part_u8 (cs := m.enc) (i := 5) (v := m.acks) w rfl
  have p6 := fun (m : Msg) (w : World) => part_bool (cs := m.enc) (i := 6) (v := m.alone) w rfl
  obtain ⟨e, he⟩ : ∃ e, e = d + 1 := ⟨_, rfl⟩
  have q0 := fun x y w => eq_u8 (d + 1) x y w
  have q1 := fun x y w => eq_bool' (d + 1) x y w
  have q2 := fun a b c f a' b' c' f' w => eq_data d a b c f a' b' c' f' w
  simp only [Op.eqFields, ne_eq, String.reduceEq, not_false_eq_true, if_true, Sem.run_bind, Sem.run_ite, p0, p1, p2, p3, p4, p5, p6, part_data, Result.andThen_ok, q0, q1, q2, Sem.run_pure]
  obtain ⟨a0, a1, a2, a3, a4, a5, a6, a7, a8, a9, a10⟩ := m
  obtain ⟨b0, b1, b2, b3, b4, b5, b6, b7, b8, b9, b10⟩ := n
  simp only [Msg.mk.injEq]
  by_cases h0 : a0 = b0
  · by_cases h1 : a1 = b1
    · by_cases h2 : a2 = b2
      · by_cases h3 : a3 = b3
        · by_cases h4 : a4 = b4
          · by_cases h5 : a5 = b5
            · by_cases h6 : a6 = b6
              · simp [h0, h1, h2, h3, h4, h5, h6]
                by_cases h7 : a7 = b7 <;> by_cases h8 : a8 = b8 <;> by_cases h9 : a9 = b9 <;> by_cases h10 : a10 = b10 <;> simp [h7, h8, h9, h10]
              · simp [h0, h1, h2, h3, h4, h5, h6]
            · simp [h0, h1, h2, h3, h4, h5]
          · simp [h0, h1, h2, h3, h4]
        · simp [h0, h1, h2, h3]
      · simp [h0, h1, h2]
    · simp [h0, h1]
  · simp [h0]
theorem neq_msg (x y : Operand) (m n : Msg) (w : World) : (do eqGuard .neq 73 x y m.val n.val; binOp .neq 73 m.val n.val).run Tryd.prog w = .ok (.bool (!decide (m = n))) w := by
  have h : (Op.equal 73 m.val n.val).run Tryd.prog w = .ok (decide (m = n)) w := eq_msg 9997 m n w
  have hg : Tryd.prog.eqGuardType Tryd.prog.depth 73 = false := by kernel_rfl
  have h1 : (eqGuard .neq 73 x y m.val n.val).run Tryd.prog w = .ok () w := by
    simp only [eqGuard, Msg.val, Bool.not_true, Bool.false_eq_true, if_false, Sem.run_bind, run_program, Result.andThen_ok, hg, Bool.not_false, if_true, Sem.run_pure]
  rw [Sem.run_bind, h1]
  rw [Msg.val, Msg.val] at h
  simp only [Result.andThen_ok, binOp, Msg.val, Sem.run_bind, h, Sem.run_pure]
end Go.Proofs.YthmddpoodknclaaDoor
namespace Go.Proofs.YthmddpoodknclaaDoor
open Go.Vc Go.RowKit Go.Sei
set_option linter.unusedVariables false

theorem eql_same (x y : Operand) (m : Msg) (w : World) : (do eqGuard .eql 73 x y m.val m.val; binOp .eql 73 m.val m.val).run Tryd.prog w = .ok (.bool true) w := by
  have h : (Op.equal 73 m.val m.val).run Tryd.prog w = .ok true w := by rw [← decide_eq_true (rfl : m = m)]; exact eq_msg 9997 m m w
  have hg : Tryd.prog.eqGuardType Tryd.prog.depth 73 = false := by kernel_rfl
  have h1 : (eqGuard .eql 73 x y m.val m.val).run Tryd.prog w = .ok () w := by
    simp only [eqGuard, Msg.val, Bool.not_true, Bool.false_eq_true, if_false, Sem.run_bind, run_program, Result.andThen_ok, hg, Bool.not_false, if_true, Sem.run_pure]
  rw [Sem.run_bind, h1]
  rw [Msg.val] at h
  simp only [Result.andThen_ok, binOp, Msg.val, Sem.run_bind, h, Sem.run_pure]
theorem two_of {α : Type} : ∀ {l : List α}, l.length = 2 → ∃ a b, l = [a, b]
  | [a, b], _ => ⟨a, b, rfl⟩
  | [], h => nomatch h
  | [_], h => nomatch h
  | _ :: _ :: _ :: _, h => nomatch h
/-- The law's world of two, in its box. -/
structure Aw (w X : World) (L : Nat) : Prop where
  c : ∃ (vs : List Value) (B : Nat), X.heap[L]? = some (.cells vs.toArray 44 (0, 0)) ∧ B ≤ X.heap.size ∧ WldV B X vs (prgW 2) (geoW 2) 1 ∧ vs.all Value.oneCell' = true
  T : GlobT X
  b : Below w.heap.size w X
theorem Aw.below {w X Y : World} {L : Nat} (h : Aw w X L) (hb : Below X.heap.size X Y) : Aw w Y L := by
  obtain ⟨vs, B, h1, h2, h3, h4⟩ := h.c
  exact ⟨⟨vs, B, block_below hb h1, Nat.le_trans h2 hb.size, h3.below (hb.mono h2), h4⟩, h.T.below hb, h.b.trans (hb.mono h.b.size)⟩
theorem awake_c {w : World} (hT : GlobT w) : Calls Tryd.prog 8 #[] w fun e w' => e = .returned (.bool true) ∧ Below w.heap.size w w' := by
  refine calls_of_M (S := sg 134) (sgOk _) (args := []) (.s .p (.c .p (.c .p (.c .p (.c .p (.c .p (.c .p (.c .p (.c .p .p))))))))) Tryd.func8 rfl rfl (Nat.le_of_ble_eq_true rfl) rfl ?_
  refine ⟨Nat, fun L => ⟨[(1, .pointer (some ⟨L, 0, none⟩))], []⟩, fun L X => Aw w X L, ?_, ?_⟩
  · refine Calls.mono (world_c (n := 2) (v := 1) (by omega)) ?_
    rintro e V ⟨vs, rfl, hw, hone, hb⟩
    refine store_new (X := V) (v := .agg vs.toArray) (ttOk.get 44 _ rfl) hw.len (by kernel_rfl) hone fun Y hbY fY sY => ?_
    exact ⟨V.heap.size, ⟨.cons rfl .nil, rfl⟩, ⟨vs, V.heap.size, fY, hbY.size, hw.below hbY, hone⟩, (hT.below hb).below hbY, hb.trans (hbY.mono hb.size)⟩
  rintro L X hX
  refine ⟨Nat × Nat, fun q => ⟨[(1, .pointer (some ⟨q.1, 0, none⟩)), (2, .pointer (some ⟨q.2, 0, none⟩)), (3, i64 0)], []⟩, fun q X => Aw w X q.1 ∧ X.heap[q.2]? = some (.cells (⟨10, 1, 0, 0, 0, 0, false, 0, 0, 0, 0⟩ : Msg).enc.toArray 73 (0, 0)), ?_, ?_⟩
  · obtain ⟨vs, B, h1, h2, h3, h4⟩ := hX.c
    refine ⟨vs, h3.len, cells_block h1, hlt h1, ?_⟩
    refine ⟨(⟨10, 0, 1, 0, 0, 0, false, 0, 0, 0, 0⟩ : Msg).enc, rfl, ?_⟩
    refine ⟨⟨by decide, by decide, rfl⟩, [i64 1, i64 0], rfl, ?_⟩
    have hb : Below X.heap.size X (X.alloc (.cells [i64 1, i64 0].toArray 3)) := (Below.refl _ X).alloc (Nat.le_refl _) _
    have hn := hnew X (.cells [i64 1, i64 0].toArray 3)
    have hX1 := hX.below hb
    refine Calls.mono (Msg_c (m := ⟨10, 0, 1, 0, 0, 0, false, 0, 0, 0, 0⟩) (l := [1, 0]) (Nat.le_trans h2 hb.size) (h3.below (hb.mono h2)) hX1.T h4 (SlR.of_cells (hlt hn) (cells_block hn)) (by rw [turnsW2, suitsW]; rfl)) ?_
    rintro e V ⟨rfl, hbV⟩
    have e1 : turnM ([1, 0] : List Int).length (toN [1, 0] ([1, 0] : List Int).length) ⟨10, 0, 1, 0, 0, 0, false, 0, 0, 0, 0⟩ = ⟨10, 1, 0, 0, 0, 0, false, 0, 0, 0, 0⟩ := msgW1
    rw [e1]
    refine store_new (X := V) (v := .agg (⟨10, 1, 0, 0, 0, 0, false, 0, 0, 0, 0⟩ : Msg).enc.toArray) (ttOk.get 73 _ rfl) rfl rfl rfl fun Y hbY fY sY => ?_
    exact ⟨(L, V.heap.size), ⟨.cons rfl (.cons rfl (.cons rfl .nil)), rfl⟩, (hX1.below hbV).below hbY, fY⟩
  clear hX
  rintro ⟨L, b2⟩ X ⟨hX, f2⟩
  refine ⟨Nat × Nat × Nat, fun q => ⟨[(1, .pointer (some ⟨q.1, 0, none⟩)), (2, .pointer (some ⟨q.2.1, 0, none⟩)), (3, i64 0), (4, .pointer (some ⟨q.2.2, 0, none⟩)), (5, i64 0)], []⟩, fun q X => Aw w X q.1 ∧ X.heap[q.2.1]? = some (.cells (⟨10, 1, 0, 0, 0, 0, false, 0, 0, 0, 0⟩ : Msg).enc.toArray 73 (0, 0)) ∧
    X.heap[q.2.2]? = some (.cells (⟨8, 2, 1, 0, 0, 0, false, 0, 0, 0, 0⟩ : Msg).enc.toArray 73 (0, 0)), ?_, ?_⟩
  · obtain ⟨vs, B, h1, h2, h3, h4⟩ := hX.c
    refine ⟨vs, h3.len, cells_block h1, hlt h1, ?_⟩
    refine ⟨(⟨8, 2, 0, 0, 1, 0, false, 0, 0, 0, 0⟩ : Msg).enc, rfl, ?_⟩
    refine ⟨⟨by decide, by decide, rfl⟩, [i64 1, i64 0], rfl, ?_⟩
    have hb : Below X.heap.size X (X.alloc (.cells [i64 1, i64 0].toArray 3)) := (Below.refl _ X).alloc (Nat.le_refl _) _
    have hn := hnew X (.cells [i64 1, i64 0].toArray 3)
    have hX1 := hX.below hb
    refine Calls.mono (Msg_c (m := ⟨8, 2, 0, 0, 1, 0, false, 0, 0, 0, 0⟩) (l := [1, 0]) (Nat.le_trans h2 hb.size) (h3.below (hb.mono h2)) hX1.T h4 (SlR.of_cells (hlt hn) (cells_block hn)) (by rw [turnsW2, suitsW]; rfl)) ?_
    rintro e V ⟨rfl, hbV⟩
    have e1 : turnM ([1, 0] : List Int).length (toN [1, 0] ([1, 0] : List Int).length) ⟨8, 2, 0, 0, 1, 0, false, 0, 0, 0, 0⟩ = ⟨8, 2, 1, 0, 0, 0, false, 0, 0, 0, 0⟩ := msgW2
    rw [e1]
    refine store_new (X := V) (v := .agg (⟨8, 2, 1, 0, 0, 0, false, 0, 0, 0, 0⟩ : Msg).enc.toArray) (ttOk.get 73 _ rfl) rfl rfl rfl fun Y hbY fY sY => ?_
    exact ⟨(L, b2, V.heap.size), ⟨.cons rfl (.cons rfl (.cons rfl (.cons rfl (.cons rfl .nil)))), rfl⟩, (hX1.below hbV).below hbY, block_below hbY (block_below hbV (block_below hb f2)), fY⟩
  clear hX f2
  rintro ⟨L, b2, b4⟩ X ⟨hX, f2, f4⟩
  refine ⟨Nat × Nat × Nat × Nat, fun q => ⟨[(1, .pointer (some ⟨q.1, 0, none⟩)), (2, .pointer (some ⟨q.2.1, 0, none⟩)), (3, i64 0), (4, .pointer (some ⟨q.2.2.1, 0, none⟩)), (5, i64 0), (6, .pointer (some ⟨q.2.2.2, 0, none⟩)), (7, i64 0)], []⟩, fun q X => Aw w X q.1 ∧ X.heap[q.2.1]? = some (.cells (⟨10, 1, 0, 0, 0, 0, false, 0, 0, 0, 0⟩ : Msg).enc.toArray 73 (0, 0)) ∧
    X.heap[q.2.2.1]? = some (.cells (⟨8, 2, 1, 0, 0, 0, false, 0, 0, 0, 0⟩ : Msg).enc.toArray 73 (0, 0)) ∧ X.heap[q.2.2.2]? = some (.cells (viewC 1 2 false).toArray 63 (0, 0)), ?_, ?_⟩
  · obtain ⟨vs, B, h1, h2, h3, h4⟩ := hX.c
    refine ⟨vs, h3.len, cells_block h1, hlt h1, ?_⟩
    refine ⟨viewC 1 1 false, rfl, ?_⟩
    refine ⟨⟨by decide, by decide, rfl⟩, [i64 1, i64 0], rfl, ?_⟩
    have hb : Below X.heap.size X (X.alloc (.cells [i64 1, i64 0].toArray 3)) := (Below.refl _ X).alloc (Nat.le_refl _) _
    have hn := hnew X (.cells [i64 1, i64 0].toArray 3)
    have hX1 := hX.below hb
    refine Calls.mono (View_c (s := 1) (all := false) (l := [1, 0]) (Nat.le_trans h2 hb.size) (h3.below (hb.mono h2)) hX1.T h4 (SlR.of_cells (hlt hn) (cells_block hn)) (by decide) (by rw [turnsW2, suitsW]; rfl)) ?_
    rintro e V ⟨rfl, hbV⟩
    have e1 : movedN 1 ([1, 0] : List Int).length (toN [1, 0] ([1, 0] : List Int).length) ([1, 0] : List Int).length = 2 := viewW
    rw [e1]
    refine store_new (X := V) (v := .agg (viewC 1 2 false).toArray) (ttOk.get 63 _ rfl) rfl rfl rfl fun Y hbY fY sY => ?_
    exact ⟨(L, b2, b4, V.heap.size), ⟨.cons rfl (.cons rfl (.cons rfl (.cons rfl (.cons rfl (.cons rfl (.cons rfl .nil)))))), rfl⟩, (hX1.below hbV).below hbY, block_below hbY (block_below hbV (block_below hb f2)), block_below hbY (block_below hbV (block_below hb f4)), fY⟩
  clear hX f2 f4
  rintro ⟨L, b2, b4, b6⟩ X ⟨hX, f2, f4, f6⟩
  refine ⟨Nat × Nat × Nat × Nat × Nat, fun q => ⟨[(1, .pointer (some ⟨q.1, 0, none⟩)), (2, .pointer (some ⟨q.2.1, 0, none⟩)), (3, i64 0), (4, .pointer (some ⟨q.2.2.1, 0, none⟩)), (5, i64 0), (6, .pointer (some ⟨q.2.2.2.1, 0, none⟩)), (7, i64 0), (8, .slice (some ⟨q.2.2.2.2, 0, none⟩) 3 3), (9, i64 0)], []⟩, fun q X => Aw w X q.1 ∧ X.heap[q.2.1]? = some (.cells (⟨10, 1, 0, 0, 0, 0, false, 0, 0, 0, 0⟩ : Msg).enc.toArray 73 (0, 0)) ∧
    X.heap[q.2.2.1]? = some (.cells (⟨8, 2, 1, 0, 0, 0, false, 0, 0, 0, 0⟩ : Msg).enc.toArray 73 (0, 0)) ∧ X.heap[q.2.2.2.1]? = some (.cells (viewC 1 2 false).toArray 63 (0, 0)) ∧ SlR Go.Sei.intE X (some ⟨q.2.2.2.2, 0, none⟩) [2, 1, 0], ?_, ?_⟩
  · refine ⟨⟨by decide, by decide, rfl⟩, [i64 1, i64 2, i64 0], rfl, ?_⟩
    have hb := (Below.refl X.heap.size X).alloc (Nat.le_refl _) (.cells [i64 1, i64 2, i64 0].toArray 3)
    have hn := hnew X (.cells [i64 1, i64 2, i64 0].toArray 3)
    refine ⟨⟨by decide, by decide, rfl⟩, [i64 1, i64 0, i64 2], rfl, ?_⟩
    have hb2 := (Below.refl (X.alloc (.cells [i64 1, i64 2, i64 0].toArray 3)).heap.size (X.alloc (.cells [i64 1, i64 2, i64 0].toArray 3))).alloc (Nat.le_refl _) (.cells [i64 1, i64 0, i64 2].toArray 3)
    have hn2 := hnew (X.alloc (.cells [i64 1, i64 2, i64 0].toArray 3)) (.cells [i64 1, i64 0, i64 2].toArray 3)
    have hn1 := block_below hb2 hn
    refine Calls.mono (Then_c (a := [1, 2, 0]) (b := [1, 0, 2]) (SlR.of_cells (hlt hn1) (cells_block hn1)) (SlR.of_cells (hlt hn2) (cells_block hn2)) thenW1.1 thenW1.2) ?_
    rintro e V ⟨k, rfl, hk, hk1, hk2, hbV⟩
    have e2 : pickL (0 : Int) [1, 2, 0] [1, 0, 2] = [2, 1, 0] := by kernel_rfl
    rw [e2] at hk
    exact ⟨(L, b2, b4, b6, k), ⟨.cons rfl (.cons rfl (.cons rfl (.cons rfl (.cons rfl (.cons rfl (.cons rfl (.cons rfl (.cons rfl .nil)))))))), rfl⟩, ((hX.below hb).below hb2).below hbV, block_below hbV (block_below hb2 (block_below hb f2)), block_below hbV (block_below hb2 (block_below hb f4)), block_below hbV (block_below hb2 (block_below hb f6)), SlR.of_cells hk2 hk⟩
  clear hX f2 f4 f6
  rintro ⟨L, b2, b4, b6, b8⟩ X ⟨hX, f2, f4, f6, f8⟩
  refine ⟨Nat × Nat × Nat × Nat × Nat × Nat, fun q => ⟨[(1, .pointer (some ⟨q.1, 0, none⟩)), (2, .pointer (some ⟨q.2.1, 0, none⟩)), (3, i64 0), (4, .pointer (some ⟨q.2.2.1, 0, none⟩)), (5, i64 0), (6, .pointer (some ⟨q.2.2.2.1, 0, none⟩)), (7, i64 0), (8, .slice (some ⟨q.2.2.2.2.1, 0, none⟩) 3 3), (9, i64 0), (10, .slice (some ⟨q.2.2.2.2.2, 0, none⟩) 3 3), (11, i64 0)], []⟩, fun q X => Aw w X q.1 ∧ X.heap[q.2.1]? = some (.cells (⟨10, 1, 0, 0, 0, 0, false, 0, 0, 0, 0⟩ : Msg).enc.toArray 73 (0, 0)) ∧
    X.heap[q.2.2.1]? = some (.cells (⟨8, 2, 1, 0, 0, 0, false, 0, 0, 0, 0⟩ : Msg).enc.toArray 73 (0, 0)) ∧ X.heap[q.2.2.2.1]? = some (.cells (viewC 1 2 false).toArray 63 (0, 0)) ∧ SlR Go.Sei.intE X (some ⟨q.2.2.2.2.1, 0, none⟩) [2, 1, 0] ∧ SlR Go.Sei.intE X (some ⟨q.2.2.2.2.2, 0, none⟩) [2, 0, 1], ?_, ?_⟩
  · refine ⟨⟨by decide, by decide, rfl⟩, [i64 1, i64 2, i64 0], rfl, ?_⟩
    have hb := (Below.refl X.heap.size X).alloc (Nat.le_refl _) (.cells [i64 1, i64 2, i64 0].toArray 3)
    have hn := hnew X (.cells [i64 1, i64 2, i64 0].toArray 3)
    refine Calls.mono (Back_c (a := [1, 2, 0]) (SlR.of_cells (hlt hn) (cells_block hn)) thenW1.1) ?_
    rintro e V ⟨k, rfl, hk, hk1, hk2, hbV⟩
    rw [backW] at hk
    exact ⟨(L, b2, b4, b6, b8, k), ⟨.cons rfl (.cons rfl (.cons rfl (.cons rfl (.cons rfl (.cons rfl (.cons rfl (.cons rfl (.cons rfl (.cons rfl (.cons rfl .nil)))))))))), rfl⟩, (hX.below hb).below hbV, block_below hbV (block_below hb f2), block_below hbV (block_below hb f4), block_below hbV (block_below hb f6), (f8.below hb).below hbV, SlR.of_cells hk2 hk⟩
  clear hX f2 f4 f6 f8
  rintro ⟨L, b2, b4, b6, b8, b10⟩ X ⟨hX, f2, f4, f6, f8, f10⟩
  refine ⟨Nat × Nat × Nat × Nat × Nat, fun q => ⟨[(2, .pointer (some ⟨q.1, 0, none⟩)), (3, i64 0), (4, .pointer (some ⟨q.2.1, 0, none⟩)), (5, i64 0), (6, .pointer (some ⟨q.2.2.1, 0, none⟩)), (7, i64 0), (8, .slice (some ⟨q.2.2.2.1, 0, none⟩) 3 3), (9, i64 0), (10, .slice (some ⟨q.2.2.2.2, 0, none⟩) 3 3), (11, i64 0), (13, i64 2)], []⟩, fun q X => (GlobT X ∧ Below w.heap.size w X) ∧ X.heap[q.1]? = some (.cells (⟨10, 1, 0, 0, 0, 0, false, 0, 0, 0, 0⟩ : Msg).enc.toArray 73 (0, 0)) ∧
    X.heap[q.2.1]? = some (.cells (⟨8, 2, 1, 0, 0, 0, false, 0, 0, 0, 0⟩ : Msg).enc.toArray 73 (0, 0)) ∧ X.heap[q.2.2.1]? = some (.cells (viewC 1 2 false).toArray 63 (0, 0)) ∧ SlR Go.Sei.intE X (some ⟨q.2.2.2.1, 0, none⟩) [2, 1, 0] ∧ SlR Go.Sei.intE X (some ⟨q.2.2.2.2, 0, none⟩) [2, 0, 1], ?_, ?_⟩
  · obtain ⟨vs, B, h1, h2, h3, h4⟩ := hX.c
    refine ⟨vs, h3.len, cells_block h1, hlt h1, ?_⟩
    refine ⟨⟨by decide, by decide, rfl⟩, [i64 0, i64 0], rfl, ?_⟩
    have hb : Below X.heap.size X (X.alloc (.cells [i64 0, i64 0].toArray 3)) := (Below.refl _ X).alloc (Nat.le_refl _) _
    have hn := hnew X (.cells [i64 0, i64 0].toArray 3)
    have hX1 := hX.below hb
    refine Calls.mono (World_no_c (l := [0, 0]) (Nat.le_trans h2 hb.size) (h3.below (hb.mono h2)) hX1.T h4 (SlR.of_cells (hlt hn) (cells_block hn)) (by decide) (by rw [suitsW0]; exact Bool.and_false _)) ?_
    rintro e V ⟨rfl, hbV⟩
    refine store_new (X := V) (v := .agg zeroW.toArray) (ttOk.get 44 _ rfl) zeroW_len (by kernel_rfl) zeroW_one fun Y hbY fY sY => ?_
    have hXY := (hX1.below hbV).below hbY
    exact ⟨(b2, b4, b6, b8, b10), ⟨.cons rfl (.cons rfl (.cons rfl (.cons rfl (.cons rfl (.cons rfl (.cons rfl (.cons rfl (.cons rfl (.cons rfl (.cons rfl .nil)))))))))), rfl⟩, ⟨hXY.T, hXY.b⟩, block_below hbY (block_below hbV (block_below hb f2)), block_below hbY (block_below hbV (block_below hb f4)), block_below hbY (block_below hbV (block_below hb f6)), ((f8.below hb).below hbV).below hbY, ((f10.below hb).below hbV).below hbY⟩
  clear hX f2 f4 f6 f8 f10
  rintro ⟨b2, b4, b6, b8, b10⟩ X ⟨⟨hT, hbX⟩, f2, f4, f6, f8, f10⟩
  refine ⟨(Nat × Nat × Nat × Nat × Nat) × (Option Addr × Nat × PrmR × PrmR), fun q => ⟨[(2, .pointer (some ⟨q.1.1, 0, none⟩)), (3, i64 0), (4, .pointer (some ⟨q.1.2.1, 0, none⟩)), (5, i64 0), (6, .pointer (some ⟨q.1.2.2.1, 0, none⟩)), (7, i64 0), (8, .slice (some ⟨q.1.2.2.2.1, 0, none⟩) 3 3), (9, i64 0), (10, .slice (some ⟨q.1.2.2.2.2, 0, none⟩) 3 3), (11, i64 0), (13, i64 2), (14, .slice q.2.1 2 q.2.2.1)], []⟩, fun q X => (GlobT X ∧ Below w.heap.size w X) ∧ X.heap[q.1.1]? = some (.cells (⟨10, 1, 0, 0, 0, 0, false, 0, 0, 0, 0⟩ : Msg).enc.toArray 73 (0, 0)) ∧
    X.heap[q.1.2.1]? = some (.cells (⟨8, 2, 1, 0, 0, 0, false, 0, 0, 0, 0⟩ : Msg).enc.toArray 73 (0, 0)) ∧ X.heap[q.1.2.2.1]? = some (.cells (viewC 1 2 false).toArray 63 (0, 0)) ∧ SlR Go.Sei.intE X (some ⟨q.1.2.2.2.1, 0, none⟩) [2, 1, 0] ∧ SlR Go.Sei.intE X (some ⟨q.1.2.2.2.2, 0, none⟩) [2, 0, 1] ∧
    SlR prmE X q.2.1 [q.2.2.2.1, q.2.2.2.2] ∧ (q.2.2.2.1.1 = [0, 1, 2] ∧ q.2.2.2.2.1 = [1, 0, 2]) ∧ SlR Go.Sei.intE X q.2.2.2.1.2.1 q.2.2.2.1.1 ∧ SlR Go.Sei.intE X q.2.2.2.2.2.1 q.2.2.2.2.1, ?_, ?_⟩
  · refine Calls.mono (world_c (n := 3) (v := 3) (by omega)) ?_
    rintro e V ⟨vs, rfl, hw, hone, hbV⟩
    refine Calls.mono (All_c (Nat.le_refl _) hw (hT.below hbV)) ?_
    rintro e U ⟨q, cap, xs, rfl, hxs, hr, he, hbU⟩
    have hxs : xs.map (·.1) = [[0, 1, 2], [1, 0, 2]] := hxs.trans allW3
    obtain ⟨x0, x1, rfl⟩ : ∃ x0 x1, xs = [x0, x1] := two_of (by have := congrArg List.length hxs; rw [List.length_map] at this; exact this)
    have hxs : x0.1 = [0, 1, 2] ∧ x1.1 = [1, 0, 2] := by
      simp only [List.map_cons, List.map_nil, List.cons.injEq, and_true] at hxs
      exact hxs
    have hbXU : Below X.heap.size X U := hbV.trans (hbU.mono hbV.size)
    exact ⟨((b2, b4, b6, b8, b10), (q, cap, x0, x1)), ⟨.cons rfl (.cons rfl (.cons rfl (.cons rfl (.cons rfl (.cons rfl (.cons rfl (.cons rfl (.cons rfl (.cons rfl (.cons rfl (.cons rfl .nil))))))))))), rfl⟩, ⟨(hT.below hbV).below hbU, hbX.trans (hbXU.mono hbX.size)⟩, block_below hbXU f2, block_below hbXU f4, block_below hbXU f6, f8.below hbXU, f10.below hbXU, hr, hxs, he x0 (by simp), he x1 (by simp)⟩
  clear hT hbX f2 f4 f6 f8 f10
  rintro ⟨⟨b2, b4, b6, b8, b10⟩, ⟨q, cap, ⟨x0, p0, c0⟩, ⟨x1, p1, c1⟩⟩⟩ X ⟨⟨hT, hbX⟩, f2, f4, f6, f8, f10, hr, ⟨h0, h1⟩, k0, k1⟩
  dsimp only at f2 f4 f6 f8 f10 hr h0 h1 k0 k1 ⊢
  subst h0 h1
  refine brT ?_
  refine ⟨_, rfl, cells_block f2, hlt f2, ?_⟩
  refine ⟨(⟨10, 1, 0, 0, 0, 0, false, 0, 0, 0, 0⟩ : Msg).enc, rfl, ?_⟩
  refine ⟨_, fun w => eql_same _ _ (⟨10, 1, 0, 0, 0, 0, false, 0, 0, 0, 0⟩ : Msg) w, ?_⟩
  refine brT ?_
  refine brT ?_
  refine ⟨_, rfl, cells_block f4, hlt f4, ?_⟩
  refine ⟨(⟨8, 2, 1, 0, 0, 0, false, 0, 0, 0, 0⟩ : Msg).enc, rfl, ?_⟩
  refine ⟨_, fun w => eql_same _ _ (⟨8, 2, 1, 0, 0, 0, false, 0, 0, 0, 0⟩ : Msg) w, ?_⟩
  refine brT ?_
  refine brT ?_
  refine ⟨_, cells_at (cells_block f6) (i := 1) rfl, ?_⟩
  refine brT ?_
  refine brT ?_
  have go : ∀ {X : World} {l m : List Int} {p : Option Addr} (hl : SlR Go.Sei.intE X p l), Below X.heap.size X (X.alloc (.cells (m.map i64).toArray 3)) ∧ SlR Go.Sei.intE (X.alloc (.cells (m.map i64).toArray 3)) p l ∧ SlR Go.Sei.intE (X.alloc (.cells (m.map i64).toArray 3)) (some ⟨X.heap.size, 0, none⟩) m := by
    intro X l m p hl
    have hb := (Below.refl X.heap.size X).alloc (Nat.le_refl _) (.cells (m.map i64).toArray 3)
    have hn := hnew X (.cells (m.map i64).toArray 3)
    exact ⟨hb, hl.below hb, SlR.of_cells (hlt hn) (by rw [ints_map]; exact cells_block hn)⟩
  refine ⟨⟨by decide, by decide, rfl⟩, [i64 2, i64 1, i64 0], rfl, ?_⟩
  obtain ⟨g1, g2, g3⟩ := go (m := [2, 1, 0]) f8
  refine Calls.mono (Ints_c (a := [2, 1, 0]) (b := [2, 1, 0]) g2 g3 (by decide)) ?_
  rintro e X1 ⟨rfl, hb1⟩
  have hbX1 : Below X.heap.size X X1 := g1.trans (hb1.mono g1.size)
  clear g1 g2 g3 hb1
  refine brT ?_
  refine brT ?_
  refine ⟨⟨by decide, by decide, rfl⟩, [i64 2, i64 0, i64 1], rfl, ?_⟩
  obtain ⟨g1, g2, g3⟩ := go (m := [2, 0, 1]) (f10.below hbX1)
  refine Calls.mono (Ints_c (a := [2, 0, 1]) (b := [2, 0, 1]) g2 g3 (by decide)) ?_
  rintro e X2 ⟨rfl, hb2⟩
  have hbX2 : Below X.heap.size X X2 := hbX1.trans ((g1.trans (hb2.mono g1.size)).mono hbX1.size)
  clear g1 g2 g3 hb2 hbX1
  refine brT ?_
  refine brT ?_
  refine Calls.mono (world_c (n := 4) (v := 1) (by omega)) ?_
  rintro e V ⟨vs, rfl, hw, hone, hbV⟩
  refine Calls.mono (All_c (Nat.le_refl _) hw ((hT.below hbX2).below hbV)) ?_
  rintro e U ⟨q2, cap2, xs, rfl, hxs, hr2, he2, hbU⟩
  have hl : xs.length = 24 := by rw [← allW4, ← hxs, List.length_map]
  rw [hl]
  have hbX3 : Below X.heap.size X U := hbX2.trans ((hbV.trans (hbU.mono hbV.size)).mono hbX2.size)
  clear hw hxs hr2 he2 hbU hbV hbX2 hl
  refine brT ?_
  refine Calls.mono (world_c (n := 4) (v := 3) (by omega)) ?_
  rintro e V3 ⟨vs3, rfl, hw, hone3, hbV⟩
  refine Calls.mono (All_c (Nat.le_refl _) hw ((hT.below hbX3).below hbV)) ?_
  rintro e U3 ⟨q3, cap3, xs3, rfl, hxs, hr2, he2, hbU⟩
  have hl : xs3.length = 8 := by rw [← allW43, ← hxs, List.length_map]
  rw [hl]
  have hbX4 : Below X.heap.size X U3 := hbX3.trans ((hbV.trans (hbU.mono hbV.size)).mono hbX3.size)
  clear hw hxs hr2 he2 hbU hbV hbX3 hl
  refine brT ?_
  refine brT ?_
  obtain ⟨bq, oq, rfl, hbq, hat⟩ := hr.at (i := 0) (by show 0 < 2; decide)
  refine ⟨0, rfl, (by show 0 < 2; decide), ?_⟩
  refine ⟨_, cells_at (cells_below hbX4 (hat 0 (by show 0 < 2; decide))) (i := 0) rfl, ?_⟩
  refine ⟨⟨by decide, by decide, rfl⟩, [i64 0, i64 1, i64 2], rfl, ?_⟩
  obtain ⟨g1, g2, g3⟩ := go (m := [0, 1, 2]) (k0.below hbX4)
  refine Calls.mono (Ints_c (a := [0, 1, 2]) (b := [0, 1, 2]) g2 g3 (by decide)) ?_
  rintro e X5 ⟨rfl, hb5⟩
  have hbX5 : Below X.heap.size X X5 := hbX4.trans ((g1.trans (hb5.mono g1.size)).mono hbX4.size)
  clear g1 g2 g3 hb5 hbX4
  refine brT ?_
  refine ⟨1, rfl, (by show 1 < 2; decide), ?_⟩
  refine ⟨_, cells_at (cells_below hbX5 (hat 1 (by show 1 < 2; decide))) (i := 0) rfl, ?_⟩
  refine ⟨⟨by decide, by decide, rfl⟩, [i64 1, i64 0, i64 2], rfl, ?_⟩
  obtain ⟨g1, g2, g3⟩ := go (m := [1, 0, 2]) (k1.below hbX5)
  refine Calls.mono (Ints_c (a := [1, 0, 2]) (b := [1, 0, 2]) g2 g3 (by decide)) ?_
  rintro e X6 ⟨rfl, hb6⟩
  exact ⟨rfl, hbX.trans ((hbX5.trans ((g1.trans (hb6.mono g1.size)).mono hbX5.size)).mono hbX.size)⟩
end Go.Proofs.YthmddpoodknclaaDoor
namespace Go.Proofs.YthmddpoodknclaaDoor
open Go.Vc Go.RowKit Go.Sei
set_option linter.unusedVariables false

theorem max_run {x y : Int} {T : Array TypeId} {t : TypeId} {w : World} {K : Value → World → Prop} (k : K (.int .i64 (if x < y then y else x)) w) : SatR ((Builtin.max_ T t [Value.int .i64 x, .int .i64 y].toArray).run Tryd.prog w) K :=
  SatR.mk (v := .int .i64 (if x < y then y else x)) (w' := w) (by simp [Builtin.max_, Builtin.max2]) k

/-- The law's world in its box. -/
structure Wb (w : World) (vs : List Value) (p : Prg) (g : Geo) (md : UInt8) (L : Nat) (X : World) : Prop where
  c : X.heap[L]? = some (.cells vs.toArray 44 (0, 0))
  v : WldV w.heap.size X vs p g md
  T : GlobT X
  b : Below w.heap.size w X
section
variable {w X Y : World} {vs : List Value} {p : Prg} {g : Geo} {md : UInt8} {L : Nat}
theorem Wb.below (h : Wb w vs p g md L X) (hb : Below X.heap.size X Y) : Wb w vs p g md L Y :=
  ⟨block_below hb h.c, h.v.below (hb.mono h.b.size), h.T.below hb, h.b.trans (hb.mono h.b.size)⟩
theorem Wb.wc (h : Wb w vs p g md L X) : WldC w.heap.size X L p g md := ⟨h.b.size, ⟨vs, h.c, h.v⟩, h.T⟩
end
/-- What pick yields, out of a list. -/
def PickI (al : List (List Int)) (s : PrmR × Bool) (X : World) : Prop := (s.2 = true ∧ s.1.1 ∈ al ∧ SlR Go.Sei.intE X s.1.2.1 s.1.1) ∨ (s.2 = false ∧ al = [])
theorem PickI.below {al : List (List Int)} {s : PrmR × Bool} {X Y : World} (h : PickI al s X) (hb : Below X.heap.size X Y) : PickI al s Y := by
  rcases h with ⟨h1, h2, h3⟩ | h
  · exact .inl ⟨h1, h2, h3.below hb⟩
  · exact .inr h
theorem turns_parts {p : Prg} {g : Geo} (h : turnsL p g = true) : ∃ n : Nat, g.c = n ∧ 1 ≤ n ∧ n ≤ 4 ∧ p.threads.length = n ∧ okPrg p = true := by
  simp only [turnsL, Bool.and_eq_true, decide_eq_true_eq] at h
  have := (geoR_spec h.1).1
  exact ⟨g.c.toNat, by omega, by omega, by omega, by omega, h.2.2⟩
theorem allL_none {p : Prg} {g : Geo} {md : UInt8} (h : allL p g md = []) : turnsL p g = false := by
  cases ht : turnsL p g with
  | false => rfl
  | true =>
    obtain ⟨n, hn, h1, h4, _, _⟩ := turns_parts ht
    have G := grp (decide (md = 3)) h1 h4
    have := G.head
    rw [← allL_grp (md := md) ht hn, h] at this
    cases this
theorem allL_some {p : Prg} {g : Geo} {md : UInt8} (h : ¬ allL p g md = []) : turnsL p g = true := by
  cases ht : turnsL p g with
  | true => rfl
  | false =>
    refine absurd ?_ h
    unfold allL
    rw [ht]; rfl
theorem grp_suits {g : Geo} {md : UInt8} {n : Nat} {l : List Int} (hn : g.c = n) (h : l ∈ grpL n (decide (md = 3))) : suitsL g md l = true := by
  unfold grpL at h
  have := (List.mem_filter.1 h).2
  unfold suitsL
  rw [hn]; exact this
theorem pickL_len {a l : List Int} : (pickL 0 a l).length = l.length := by unfold pickL; rw [List.length_map]
theorem backL_len (a : List Int) : (backL a).length = a.length := backN_len a a.length
theorem i64s_get {l : List Nat} {n : Nat} (h : n < l.length) : (l.map fun x => i64 (x : Nat))[n]? = some (i64 ((l.getD n 0 : Nat) : Int)) := by
  rw [List.getElem?_map, List.getElem?_eq_getElem h, List.getD_eq_getElem?_getD, List.getElem?_eq_getElem h]; rfl

section
variable {p : Prg} {g : Geo} {md : UInt8} {vs : List Value} {w : World}
theorem turnGroup_c {n k : UInt8} (hw : WldV w.heap.size w vs p g md) (h1 : vs.all Value.oneCell' = true) (hT : GlobT w) :
    Calls Tryd.prog 3 #[.agg vs.toArray, u8 n, u8 k] w fun e w' => e = .returned (.bool true) ∧ Below w.heap.size w w' := by
  refine calls_of_M (S := sg 169) (sgOk _) (args := [.agg vs.toArray, u8 n, u8 k]) (.s .p (.c .p (.c .p (.s .p (.s .p (.s .p (.c .p (.c .p (.c .p (.c .p (.c .p (.c .p .p)))))))))))) Tryd.func3 rfl rfl (Nat.le_of_ble_eq_true rfl) rfl ?_
  obtain ⟨L, hL⟩ : ∃ L, L = w.heap.size := ⟨_, rfl⟩
  have q3 : some (Value.pointer (some ⟨w.heap.size, 0, none⟩)) = some (Value.pointer (some ⟨L, 0, none⟩)) := by rw [hL]
  have hb0 : Below w.heap.size w (w.alloc (.cells vs.toArray 44)) := (Below.refl _ w).alloc (Nat.le_refl _) _
  have hW0 : Wb w vs p g md L (w.alloc (.cells vs.toArray 44)) := ⟨by rw [hL]; exact hnew w _, hw.below hb0, hT.below hb0, hb0⟩
  -- pick, twice
  refine ⟨PrmR × Bool, fun s => ⟨[(2, u8 k), (3, .pointer (some ⟨L, 0, none⟩)), (7, .slice s.1.2.1 s.1.1.length s.1.2.2), (8, .bool s.2)], []⟩, fun s X => Wb w vs p g md L X ∧ PickI (allL p g md) s X, ?_, ?_⟩
  · have hc : Cells (w.alloc (.cells vs.toArray 44)) ⟨w.heap.size, 0, none⟩ vs := cells_block (hnew w _)
    refine ⟨vs, hw.len, hc, hlt (hnew w _), ?_⟩
    refine Calls.mono (pick_c hW0.b.size hW0.v hW0.T) ?_
    rintro e V ⟨hbV, ⟨h0, rfl⟩ | ⟨l, q, c, hl, rfl, hs⟩⟩
    · exact ⟨(([], none, 0), false), ⟨.cons rfl (.cons q3 (.cons rfl (.cons rfl .nil))), rfl⟩, hW0.below hbV, .inr ⟨rfl, h0⟩⟩
    · exact ⟨((l, q, c), true), ⟨.cons rfl (.cons q3 (.cons rfl (.cons rfl .nil))), rfl⟩, hW0.below hbV, .inl ⟨rfl, List.mem_of_getElem? hl, hs⟩⟩
  clear hb0 hW0 q3
  rintro sa X ⟨hX, hA⟩
  refine ⟨PrmR × Bool, fun s => ⟨[(3, .pointer (some ⟨L, 0, none⟩)), (7, .slice sa.1.2.1 sa.1.1.length sa.1.2.2), (8, .bool sa.2), (9, .slice s.1.2.1 s.1.1.length s.1.2.2), (10, .bool s.2)], []⟩, fun s X => Wb w vs p g md L X ∧ PickI (allL p g md) sa X ∧ PickI (allL p g md) s X, ?_, ?_⟩
  · refine ⟨vs, hw.len, cells_block hX.c, hlt hX.c, ?_⟩
    refine Calls.mono (pick_c hX.b.size hX.v hX.T) ?_
    rintro e V ⟨hbV, ⟨h0, rfl⟩ | ⟨l, q, c, hl, rfl, hs⟩⟩
    · exact ⟨(([], none, 0), false), ⟨.cons rfl (.cons rfl (.cons rfl (.cons rfl (.cons rfl .nil)))), rfl⟩, hX.below hbV, hA.below hbV, .inr ⟨rfl, h0⟩⟩
    · exact ⟨((l, q, c), true), ⟨.cons rfl (.cons rfl (.cons rfl (.cons rfl (.cons rfl .nil)))), rfl⟩, hX.below hbV, hA.below hbV, .inl ⟨rfl, List.mem_of_getElem? hl, hs⟩⟩
  clear hX hA
  rintro sb X ⟨hX, hA, hB⟩
  obtain ⟨⟨a, qa, ca⟩, oa⟩ := sa
  obtain ⟨⟨b, qb, cb⟩, ob⟩ := sb
  by_cases hno : allL p g md = []
  · -- no permutation suits
    have hoa : oa = false := by
      rcases hA with ⟨_, h, _⟩ | ⟨h, _⟩
      · rw [hno] at h; cases h
      · exact h
    subst hoa
    refine brT ?_
    refine brT ?_
    have hbd : Below X.heap.size X X.drew := (Below.refl _ X).drew
    have hD := hX.below hbd
    obtain ⟨pc, rest, hp, c1, c2, c3, hm, hlw⟩ := hD.wc.cells
    obtain ⟨j, hj4, hjv⟩ : ∃ j : Nat, j ≤ 4 ∧ (j : Int) = (if (if (4 : Int) < g.c then 4 else g.c) < 0 then 0 else (if (4 : Int) < g.c then 4 else g.c)) := by
      refine ⟨(if (if (4 : Int) < g.c then 4 else g.c) < 0 then 0 else (if (4 : Int) < g.c then 4 else g.c)).toNat, ?_, ?_⟩ <;> (split <;> split <;> omega)
    refine DrawE.treeQ [] (.op 0 (.op 2 (.op 3 (.op 4 (.alt (.op 1 (.op 5 (.op 6 (.op 7 (.op 8 (.op 9 (.op 10 (.op 11 (.op 12 (.op 13 .nil)))))))))) (.op 5 (.alt (.op 1 (.op 6 (.op 7 (.op 8 (.op 9 (.op 10 (.op 11 (.op 12 (.op 13 .nil))))))))) (.op 6 (.op 1 (.op 7 (.op 8 (.op 9 (.op 10 (.op 11 (.op 12 (.op 13 .nil)))))))))))))))) (by kernel_rfl) ?_
    refine ⟨vs, hw.len, cells_block hD.c, hlt hD.c, ?_⟩
    refine ⟨_, cells_at c2 (i := 0) rfl, ?_⟩
    have hbn : Below X.drew.heap.size X.drew (X.drew.alloc (.cells [i64 0, i64 1, i64 2, i64 3].toArray 3)) := (Below.refl _ _).alloc (Nat.le_refl _) _
    have hn := hnew X.drew (.cells [i64 0, i64 1, i64 2, i64 3].toArray 3)
    have hN := hD.below hbn
    have hsl : ∀ l m : List Int, l.map i64 ++ m.map i64 = [i64 0, i64 1, i64 2, i64 3] → SlR Go.Sei.intE (X.drew.alloc (.cells [i64 0, i64 1, i64 2, i64 3].toArray 3)) (some ⟨X.drew.heap.size, 0, none⟩) l := fun l m e => SlR.of_cells (hlt hn) (by
      rw [ints_map]
      have h2 : Cells (X.drew.alloc (.cells [i64 0, i64 1, i64 2, i64 3].toArray 3)) ⟨X.drew.heap.size, 0, none⟩ (l.map i64 ++ m.map i64) := by rw [e]; exact cells_block hn
      exact (cells_app.1 h2).1)
    have hF : ∀ (l : List Int), l.length = j → (∃ m : List Int, l.map i64 ++ m.map i64 = [i64 0, i64 1, i64 2, i64 3]) → Calls Tryd.prog 7 #[.agg vs.toArray, .slice (cutBase (some ⟨X.drew.heap.size, 0, none⟩) 4 0 1) (j - 0) (4 - 0)] (X.drew.alloc (.cells [i64 0, i64 1, i64 2, i64 3].toArray 3)) fun e w' => e = .returned (.bool false) ∧ Below (X.drew.alloc (.cells [i64 0, i64 1, i64 2, i64 3].toArray 3)).heap.size (X.drew.alloc (.cells [i64 0, i64 1, i64 2, i64 3].toArray 3)) w' := by
      rintro l hl ⟨m, hm⟩
      subst hl
      refine Calls.mono (Fits_c (md := md) (l := l) (q := some ⟨X.drew.heap.size, 0, none⟩) (cap := 4) hN.b.size hN.v hN.T h1 (hsl l m hm) (by omega)) ?_
      rintro e V ⟨rfl, hbV⟩
      exact ⟨rb (by rw [allL_none hno]; rfl), hbV⟩
    have hF : Calls Tryd.prog 7 #[.agg vs.toArray, .slice (cutBase (some ⟨X.drew.heap.size, 0, none⟩) 4 0 1) (j - 0) (4 - 0)] (X.drew.alloc (.cells [i64 0, i64 1, i64 2, i64 3].toArray 3)) fun e w' => e = .returned (.bool false) ∧ Below (X.drew.alloc (.cells [i64 0, i64 1, i64 2, i64 3].toArray 3)).heap.size (X.drew.alloc (.cells [i64 0, i64 1, i64 2, i64 3].toArray 3)) w' := by
      have hj : j = 0 ∨ j = 1 ∨ j = 2 ∨ j = 3 ∨ j = 4 := by omega
      rcases hj with hj | hj | hj | hj | hj
      · exact hF [] hj.symm ⟨[0, 1, 2, 3], rfl⟩
      · exact hF [0] hj.symm ⟨[1, 2, 3], rfl⟩
      · exact hF [0, 1] hj.symm ⟨[2, 3], rfl⟩
      · exact hF [0, 1, 2] hj.symm ⟨[3], rfl⟩
      · exact hF [0, 1, 2, 3] hj.symm ⟨[], rfl⟩
    refine And.intro ?_ ?_
    · refine ⟨⟨by decide, by decide, rfl⟩, [i64 0, i64 1, i64 2, i64 3], rfl, ?_⟩
      refine ⟨hbn, ?_⟩
      refine min_run ?_
      refine ⟨Below.refl _ _, ?_⟩
      refine max_run ?_
      refine ⟨Below.refl _ _, ?_⟩
      refine ⟨j, hjv, hj4, ?_⟩
      refine Calls.mono hF ?_
      rintro e V ⟨rfl, hbV⟩
      refine ⟨hbV, ?_⟩
      refine brT ?_
      refine Calls.mono (awake_c (hN.T.below hbV)) ?_
      rintro e U ⟨rfl, hbU⟩
      exact ⟨hbU, rfl, ((hN.below hbV).below hbU).b⟩
    refine min_run ?_
    refine ⟨Below.refl _ _, ?_⟩
    refine And.intro ?_ ?_
    · refine ⟨⟨by decide, by decide, rfl⟩, [i64 0, i64 1, i64 2, i64 3], rfl, ?_⟩
      refine ⟨hbn, ?_⟩
      refine max_run ?_
      refine ⟨Below.refl _ _, ?_⟩
      refine ⟨j, hjv, hj4, ?_⟩
      refine Calls.mono hF ?_
      rintro e V ⟨rfl, hbV⟩
      refine ⟨hbV, ?_⟩
      refine brT ?_
      refine Calls.mono (awake_c (hN.T.below hbV)) ?_
      rintro e U ⟨rfl, hbU⟩
      exact ⟨hbU, rfl, ((hN.below hbV).below hbU).b⟩
    · refine max_run ?_
      refine ⟨Below.refl _ _, ?_⟩
      refine ⟨⟨by decide, by decide, rfl⟩, [i64 0, i64 1, i64 2, i64 3], rfl, ?_⟩
      refine ⟨hbn, ?_⟩
      refine ⟨j, hjv, hj4, ?_⟩
      refine Calls.mono hF ?_
      rintro e V ⟨rfl, hbV⟩
      refine ⟨hbV, ?_⟩
      refine brT ?_
      refine Calls.mono (awake_c (hN.T.below hbV)) ?_
      rintro e U ⟨rfl, hbU⟩
      exact ⟨hbU, rfl, ((hN.below hbV).below hbU).b⟩
  -- two permutations that suit
  have hA : oa = true ∧ a ∈ allL p g md ∧ SlR Go.Sei.intE X qa a := by
    rcases hA with h | ⟨_, h⟩
    · exact h
    · exact absurd h hno
  have hB : ob = true ∧ b ∈ allL p g md ∧ SlR Go.Sei.intE X qb b := by
    rcases hB with h | ⟨_, h⟩
    · exact h
    · exact absurd h hno
  obtain ⟨rfl, ha, sa⟩ := hA
  obtain ⟨rfl, hb, sb⟩ := hB
  have ht := allL_some hno
  obtain ⟨N, hN, hN1, hN4, hNt, hok⟩ := turns_parts ht
  have G := grp (decide (md = 3)) hN1 hN4
  have hal := allL_grp (md := md) ht hN
  rw [hal] at ha hb
  refine brF ?_
  refine brF ?_
  -- All
  refine ⟨vs, hw.len, cells_block hX.c, hlt hX.c, ?_⟩
  refine Calls.mono (All_c hX.b.size hX.v hX.T) ?_
  rintro e V ⟨q5, c5, xs, rfl, hxs, hr, he, hbV⟩
  rw [hal] at hxs
  have hV := hX.below hbV
  replace sa := sa.below hbV
  replace sb := sb.below hbV
  clear hX hbV
  -- count
  refine ⟨⟨by decide, by decide, rfl⟩, [i64 1, i64 1, i64 2, i64 6, i64 24], rfl, ?_⟩
  have hbn : Below V.heap.size V (V.alloc (.cells [i64 1, i64 1, i64 2, i64 6, i64 24].toArray 3)) := (Below.refl _ _).alloc (Nat.le_refl _) _
  have hn := hnew V (.cells [i64 1, i64 1, i64 2, i64 6, i64 24].toArray 3)
  have hV1 := hV.below hbn
  obtain ⟨pc, rest, hp, c1, c2, c3, hm, hlw⟩ := hV1.wc.cells
  refine ⟨_, cells_at c2 (i := 0) rfl, ?_⟩
  refine ⟨N, hN.symm, (by omega), ?_⟩
  have k1 : ([1, 1, 2, 6, 24].map fun x => i64 (x : Nat))[N]? = some (i64 (([1, 1, 2, 6, 24].getD N 0 : Nat) : Int)) := i64s_get (by simp; omega)
  refine ⟨i64 (([1, 1, 2, 6, 24].getD N 0 : Nat) : Int), ?_, ?_⟩
  · have := cells_at (cells_block hn) (i := N) (v := i64 (([1, 1, 2, 6, 24].getD N 0 : Nat) : Int)) k1
    rw [Nat.mul_one]; exact this
  refine ⟨Unit, fun _ => ⟨[(3, .pointer (some ⟨L, 0, none⟩)), (7, .slice qa a.length ca), (9, .slice qb b.length cb), (11, .slice q5 xs.length c5), (12, i64 ((grpN (decide (md = 3)) N : Nat) : Int))], []⟩, fun _ Y => Wb w vs p g md L Y ∧ Below V.heap.size V Y, ?_, ?_⟩
  · refine ⟨_, cells_at c3 (i := 1) hm, ?_⟩
    refine And.intro (fun h => ?_) (fun h => ?_)
    · have h : decide (md = 3) = true := (u8d md 3).symm.trans h
      refine ⟨⟨by decide, by decide, rfl⟩, [i64 1, i64 1, i64 2, i64 2, i64 8], rfl, ?_⟩
      have hbn2 : Below (V.alloc (.cells [i64 1, i64 1, i64 2, i64 6, i64 24].toArray 3)).heap.size (V.alloc (.cells [i64 1, i64 1, i64 2, i64 6, i64 24].toArray 3)) ((V.alloc (.cells [i64 1, i64 1, i64 2, i64 6, i64 24].toArray 3)).alloc (.cells [i64 1, i64 1, i64 2, i64 2, i64 8].toArray 3)) := (Below.refl _ _).alloc (Nat.le_refl _) _
      have hn2 := hnew (V.alloc (.cells [i64 1, i64 1, i64 2, i64 6, i64 24].toArray 3)) (.cells [i64 1, i64 1, i64 2, i64 2, i64 8].toArray 3)
      refine ⟨_, cells_at (cells_below hbn2 c2) (i := 0) rfl, ?_⟩
      refine ⟨N, hN.symm, (by omega), ?_⟩
      have k2 : ([1, 1, 2, 2, 8].map fun x => i64 (x : Nat))[N]? = some (i64 (([1, 1, 2, 2, 8].getD N 0 : Nat) : Int)) := i64s_get (by simp; omega)
      refine ⟨i64 (([1, 1, 2, 2, 8].getD N 0 : Nat) : Int), ?_, ?_⟩
      · have := cells_at (cells_block hn2) (i := N) (v := i64 (([1, 1, 2, 2, 8].getD N 0 : Nat) : Int)) k2
        rw [Nat.mul_one]; exact this
      refine ⟨(), ⟨.cons rfl (.cons rfl (.cons rfl (.cons rfl (.cons ?_ .nil)))), rfl⟩, hV1.below hbn2, hbn.trans (hbn2.mono hbn.size)⟩
      rw [h]; rfl
    · have h : decide (md = 3) = false := (u8d md 3).symm.trans h
      refine ⟨(), ⟨.cons rfl (.cons rfl (.cons rfl (.cons rfl (.cons ?_ .nil)))), rfl⟩, hV1, hbn⟩
      rw [h]; rfl
  clear hbn hn hV1 hp c1 c2 c3 hm hlw k1
  rintro _ Y ⟨hY, hbY⟩
  replace sa := sa.below hbY
  replace sb := sb.below hbY
  replace hr := hr.below hbY
  replace he : ∀ x ∈ xs, SlR Go.Sei.intE Y x.2.1 x.1 := fun x hx => (he x hx).below hbY
  clear hbY hV
  obtain ⟨sm, hla⟩ := G.small a ha
  obtain ⟨smb, hlb⟩ := G.small b hb
  obtain ⟨gb1, ⟨gb2, gb3⟩, gb4⟩ := G.back a ha
  have gc := G.comp a ha b hb
  -- product
  refine ⟨PrmR, fun s => ⟨[(3, .pointer (some ⟨L, 0, none⟩)), (7, .slice qa a.length ca), (9, .slice qb b.length cb), (11, .slice q5 xs.length c5), (12, i64 ((grpN (decide (md = 3)) N : Nat) : Int)), (13, .slice s.2.1 s.1.length s.2.2), (14, i64 0)], []⟩, fun s Z => Wb w vs p g md L Z ∧ Below Y.heap.size Y Z ∧ s.1 = pickL 0 a b ∧ SlR Go.Sei.intE Z s.2.1 s.1, ?_, ?_⟩
  · have hpb : permL b a.length = true := by
      have := grp_suits hN hb
      unfold suitsL at this
      rw [Bool.and_eq_true] at this
      rw [hla, ← hN]; exact this.1
    refine Calls.mono (Then_c sa sb sm hpb) ?_
    rintro e Z ⟨k, rfl, hk, hk1, hk2, hbZ⟩
    exact ⟨(pickL 0 a b, some ⟨k, 0, none⟩, b.length), ⟨.cons rfl (.cons rfl (.cons rfl (.cons rfl (.cons rfl (.cons (by rw [pickL_len]; rfl) (.cons rfl .nil)))))), rfl⟩, hY.below hbZ, hbZ, rfl, SlR.of_cells hk2 hk⟩
  rintro ⟨pr, qp, cp⟩ Z ⟨hZ, hbZ, hpr, sp⟩
  dsimp only at hpr sp ⊢
  replace sa := sa.below hbZ
  replace sb := sb.below hbZ
  replace hr := hr.below hbZ
  replace he : ∀ x ∈ xs, SlR Go.Sei.intE Z x.2.1 x.1 := fun x hx => (he x hx).below hbZ
  clear hbZ hY
  -- back
  refine ⟨PrmR, fun s => ⟨[(3, .pointer (some ⟨L, 0, none⟩)), (7, .slice qa a.length ca), (9, .slice qb b.length cb), (11, .slice q5 xs.length c5), (12, i64 ((grpN (decide (md = 3)) N : Nat) : Int)), (13, .slice qp pr.length cp), (14, i64 0), (15, .slice s.2.1 s.1.length s.2.2), (16, i64 0)], []⟩, fun s U => Wb w vs p g md L U ∧ Below Z.heap.size Z U ∧ s.1 = backL a ∧ SlR Go.Sei.intE U s.2.1 s.1, ?_, ?_⟩
  · refine Calls.mono (Back_c sa sm) ?_
    rintro e U ⟨k, rfl, hk, hk1, hk2, hbU⟩
    exact ⟨(backL a, some ⟨k, 0, none⟩, a.length), ⟨.cons rfl (.cons rfl (.cons rfl (.cons rfl (.cons rfl (.cons rfl (.cons rfl (.cons (by rw [backL_len]; rfl) (.cons rfl .nil)))))))), rfl⟩, hZ.below hbU, hbU, rfl, SlR.of_cells hk2 hk⟩
  rintro ⟨bk, qk, ck⟩ U ⟨hU, hbU, hbk, sk⟩
  dsimp only at hbk sk ⊢
  replace sa := sa.below hbU
  replace sb := sb.below hbU
  replace sp := sp.below hbU
  replace hr := hr.below hbU
  replace he : ∀ x ∈ xs, SlR Go.Sei.intE U x.2.1 x.1 := fun x hx => (he x hx).below hbU
  clear hbU hZ
  -- one
  refine ⟨PrmR, fun s => ⟨[(3, .pointer (some ⟨L, 0, none⟩)), (7, .slice qa a.length ca), (9, .slice qb b.length cb), (11, .slice q5 xs.length c5), (12, i64 ((grpN (decide (md = 3)) N : Nat) : Int)), (13, .slice qp pr.length cp), (14, i64 0), (15, .slice qk bk.length ck), (16, i64 0), (17, .slice s.2.1 s.1.length s.2.2), (18, i64 0)], []⟩, fun s T => Wb w vs p g md L T ∧ Below U.heap.size U T ∧ s.1 = iotaL N ∧ SlR Go.Sei.intE T s.2.1 s.1, ?_, ?_⟩
  · have hpb : permL bk a.length = true := by
      have := grp_suits hN gb1
      unfold suitsL at this
      rw [Bool.and_eq_true] at this
      rw [hbk, hla, ← hN]; exact this.1
    refine Calls.mono (Then_c sa sk sm hpb) ?_
    rintro e T ⟨k, rfl, hk, hk1, hk2, hbT⟩
    refine ⟨(pickL 0 a bk, some ⟨k, 0, none⟩, bk.length), ⟨.cons rfl (.cons rfl (.cons rfl (.cons rfl (.cons rfl (.cons rfl (.cons rfl (.cons rfl (.cons rfl (.cons (by rw [pickL_len]; rfl) (.cons rfl .nil)))))))))), rfl⟩, hU.below hbT, hbT, ?_, SlR.of_cells hk2 hk⟩
    rw [hbk]; exact gb2
  rintro ⟨on, qo, co⟩ T ⟨hT', hbT, hon, so⟩
  dsimp only at hon so ⊢
  replace sa := sa.below hbT
  replace sb := sb.below hbT
  replace sp := sp.below hbT
  replace sk := sk.below hbT
  replace hr := hr.below hbT
  replace he : ∀ x ∈ xs, SlR Go.Sei.intE T x.2.1 x.1 := fun x hx => (he x hx).below hbT
  clear hbT hU
  have hlen : xs.length = grpN (decide (md = 3)) N := by rw [← G.len, ← hxs, List.length_map]
  obtain ⟨⟨x0, q0, c0⟩, xr, rfl⟩ : ∃ x r, xs = x :: r := by
    cases xs with
    | nil =>
      have := G.head
      rw [← hxs] at this
      cases this
    | cons x r => exact ⟨x, r, rfl⟩
  have hx0 : x0 = iotaL N := by
    have := G.head
    rw [← hxs] at this
    simpa using this
  have s0 := he _ List.mem_cons_self
  dsimp only at s0
  have hlx : x0.length = N := by rw [hx0, iota_length]
  have hin0 : iotaL N ∈ grpL N (decide (md = 3)) := by
    rw [← hx0, ← hxs]; exact List.mem_cons_self
  have fit : ∀ l, l ∈ grpL N (decide (md = 3)) → (turnsL p g && suitsL g md l) = true := fun l hl => by rw [ht, grp_suits hN hl]; rfl
  have kpi : keepsL p (iotaL N) = true := keeps_iota hNt G hok
  obtain ⟨b5, o5, rfl, hb5, hat5⟩ := hr.at (i := 0) (Nat.succ_pos _)
  have hl0 := hat5 0 (Nat.succ_pos _)
  clear hat5
  have h24 : grpN (decide (md = 3)) N ≤ 24 := by rw [← G.len, ← hal]; exact allL_len
  -- the long condition
  refine ⟨Unit, fun _ => ⟨[(3, .pointer (some ⟨L, 0, none⟩)), (7, .slice qa a.length ca), (9, .slice qb b.length cb), (11, .slice (some ⟨b5, o5, none⟩) (((x0, q0, c0) : PrmR) :: xr).length c5), (13, .slice qp pr.length cp), (15, .slice qk bk.length ck)], []⟩, fun _ V => Wb w vs p g md L V ∧ Below T.heap.size T V, ?_, ?_⟩
  · refine DrawE.ord [] [0, 1, 2, 3, 4, 5, 6, 7, 8, 9, 10, 11, 12, 13, 14, 15, 16, 17, 18, 19, 20, 21, 22, 23, 24, 25, 26, 27, 28, 29, 30, 31, 32, 33, 34, 35, 36, 37, 38, 39, 40, 41, 42, 43] (by kernel_rfl) ?_
    have hbd : Below T.heap.size T T.drew := (Below.refl _ T).drew
    have hD := hT'.below hbd
    refine brF ?_
    refine brF ?_
    refine brF ?_
    refine brN (b := !decide (((((x0, q0, c0) : PrmR) :: xr).length : Int) = ((grpN (decide (md = 3)) N : Nat) : Int))) (by rw [hlen]; simp) ?_
    refine ⟨vs, hw.len, cells_block hD.c, hlt hD.c, ?_⟩
    refine Calls.mono (Fits_c (md := md) (l := pr) hD.b.size hD.v hD.T h1 (sp.below hbd) (by rw [hpr, pickL_len, hlb]; omega)) ?_
    rintro e V ⟨rfl, hbV⟩
    rw [show (turnsL p g && suitsL g md pr) = true by rw [hpr]; exact fit _ gc]
    refine ⟨hbV, ?_⟩
    have hbTV := hbd.trans (hbV.mono hbd.size)
    have hV := hT'.below hbTV
    clear hbV hD hbd
    refine brF ?_
    refine ⟨vs, hw.len, cells_block hV.c, hlt hV.c, ?_⟩
    refine Calls.mono (Fits_c (md := md) (l := bk) hV.b.size hV.v hV.T h1 (sk.below hbTV) (by rw [hbk, backL_len, hla]; omega)) ?_
    rintro e V2 ⟨rfl, hbV⟩
    rw [show (turnsL p g && suitsL g md bk) = true by rw [hbk]; exact fit _ gb1]
    refine ⟨hbV, ?_⟩
    have hbT2 := hbTV.trans (hbV.mono hbTV.size)
    have hV2 := hT'.below hbT2
    clear hbV hV hbTV
    refine brF ?_
    refine ⟨0, rfl, Nat.succ_pos _, ?_⟩
    refine ⟨_, cells_at (cells_below hbT2 hl0) (i := 0) rfl, ?_⟩
    refine Calls.mono (Ints_c (a := on) (b := x0) (so.below hbT2) (s0.below hbT2) (by rw [hon, iota_length]; omega)) ?_
    rintro e V3 ⟨rfl, hbV⟩
    rw [show decide (on = x0) = true by rw [hon, hx0]; exact decide_eq_true rfl]
    refine ⟨hbV, ?_⟩
    have hbT3 := hbT2.trans (hbV.mono hbT2.size)
    have hV3 := hT'.below hbT3
    clear hbV hV2 hbT2
    refine brF ?_
    refine ⟨vs, hw.len, cells_block hV3.c, hlt hV3.c, ?_⟩
    refine ⟨0, rfl, Nat.succ_pos _, ?_⟩
    refine ⟨_, cells_at (cells_below hbT3 hl0) (i := 0) rfl, ?_⟩
    refine Calls.mono (Keeps_c (md := md) (l := x0) hV3.b.size hV3.v hV3.T h1 (s0.below hbT3) (by rw [hlx]; omega)) ?_
    rintro e V4 ⟨rfl, hbV⟩
    rw [show ((turnsL p g && suitsL g md x0) && keepsL p x0) = true by rw [hx0, fit _ hin0, kpi]; rfl]
    refine ⟨hbV, ?_⟩
    have hbT4 := hbT3.trans (hbV.mono hbT3.size)
    refine brF ?_
    exact ⟨(), ⟨.cons rfl (.cons rfl (.cons rfl (.cons rfl (.cons rfl (.cons rfl .nil))))), rfl⟩, hT'.below hbT4, hbT4⟩
  rintro _ V ⟨hV, hbV⟩
  replace sa := sa.below hbV
  replace sb := sb.below hbV
  replace sp := sp.below hbV
  replace sk := sk.below hbV
  replace s0 := s0.below hbV
  have hl0 := cells_below hbV hl0
  clear hbV hT'
  -- the first one, place by place
  refine ⟨Unit, fun _ => ⟨[(3, .pointer (some ⟨L, 0, none⟩)), (7, .slice qa a.length ca), (9, .slice qb b.length cb), (13, .slice qp pr.length cp), (15, .slice qk bk.length ck)], []⟩, fun _ U => Wb w vs p g md L U ∧ Below V.heap.size V U, ?_, ?_⟩
  · refine ⟨0, rfl, Nat.succ_pos _, ?_⟩
    refine ⟨_, cells_at hl0 (i := 0) rfl, ?_⟩
    refine ⟨Nat, fun i => ⟨[(3, .pointer (some ⟨L, 0, none⟩)), (7, .slice qa a.length ca), (9, .slice qb b.length cb), (13, .slice qp pr.length cp), (15, .slice qk bk.length ck), (133, .slice q0 x0.length c0), (134, i64 x0.length), (135, i64 (i : Nat))], []⟩, fun i U => i ≤ x0.length ∧ V = U, fun i => x0.length - i, 0,
      ⟨.cons rfl (.cons rfl (.cons rfl (.cons rfl (.cons rfl (.cons rfl (.cons rfl (.cons rfl .nil))))))), rfl⟩, ⟨Nat.zero_le _, rfl⟩, ?_⟩
    rintro i _ ⟨hi, rfl⟩
    dsimp only at hi ⊢
    refine And.intro (fun hc => ?_) (fun hc => ?_)
    · have hc : (i : Int) < (x0.length : Int) := of_decide_eq_true hc
      have hil : i < x0.length := by omega
      obtain ⟨b2, o2, rfl, hb2, hat⟩ := s0.at hil
      refine ⟨i, rfl, hil, ?_⟩
      refine ⟨_, cells_at (hat i hil) (i := 0) rfl, ?_⟩
      have hv : x0[i] = (i : Int) := by
        have := iota_get (n := N) (t := i) (by omega)
        rw [← hx0, getD_lt hil] at this
        exact this
      refine brN (b := !decide ((i : Int) = x0[i])) (by rw [hv]; simp) ?_
      refine ⟨_, (wrap_i64 (by omega)).trans rfl, ?_⟩
      exact ⟨i + 1, ⟨.cons rfl (.cons rfl (.cons rfl (.cons rfl (.cons rfl (.cons rfl (.cons rfl (.cons rfl .nil))))))), rfl⟩, ⟨hil, rfl⟩, by show x0.length - (i + 1) < x0.length - i; omega⟩
    · exact ⟨(), ⟨.cons rfl (.cons rfl (.cons rfl (.cons rfl (.cons rfl .nil)))), rfl⟩, hV, Below.refl _ _⟩
  rintro _ U ⟨hU, hbU⟩
  replace sa := sa.below hbU
  replace sb := sb.below hbU
  replace sp := sp.below hbU
  replace sk := sk.below hbU
  clear hbU hV
  -- what keeps the program
  have kb := keeps_back hNt G ha
  have kp : keepsL p a = true → keepsL p b = true → keepsL p pr = true := fun h1 h2 => by rw [hpr]; exact keeps_comp hNt G ha hb h1 h2
  have fa := fit _ ha
  have fb := fit _ hb
  have fk : (turnsL p g && suitsL g md bk) = true := by rw [hbk]; exact fit _ gb1
  have fp : (turnsL p g && suitsL g md pr) = true := by rw [hpr]; exact fit _ gc
  rw [← hbk] at kb
  refine DrawE.ord [] [0, 1, 3, 4, 2, 5, 6] (by kernel_rfl) ?_
  have hbd : Below U.heap.size U U.drew := (Below.refl _ U).drew
  have hD := hU.below hbd
  refine ⟨vs, hw.len, cells_block hD.c, hlt hD.c, ?_⟩
  refine ⟨vs, hw.len, cells_block hD.c, hlt hD.c, ?_⟩
  refine Calls.mono (Keeps_c (md := md) (l := a) hD.b.size hD.v hD.T h1 (sa.below hbd) (by omega)) ?_
  rintro e V1 ⟨rfl, hbV⟩
  rw [fa, Bool.true_and]
  refine ⟨hbV, ?_⟩
  have hb1 := hbd.trans (hbV.mono hbd.size)
  have hV1 := hU.below hb1
  clear hbV hD hbd
  refine Calls.mono (Keeps_c (md := md) (l := bk) hV1.b.size hV1.v hV1.T h1 (sk.below hb1) (by rw [hbk, backL_len]; omega)) ?_
  rintro e V2 ⟨rfl, hbV⟩
  rw [fk, Bool.true_and]
  refine ⟨hbV, ?_⟩
  have hb2 := hb1.trans (hbV.mono hb1.size)
  have hV2 := hU.below hb2
  clear hbV hV1 hb1
  refine ⟨_, fun w => neq_bool _ _ (keepsL p a) (keepsL p bk) w, ?_⟩
  refine brN (b := !decide (keepsL p a = keepsL p bk)) (by rw [kb]; simp) ?_
  refine ⟨vs, hw.len, cells_block hV2.c, hlt hV2.c, ?_⟩
  refine Calls.mono (Keeps_c (md := md) (l := a) hV2.b.size hV2.v hV2.T h1 (sa.below hb2) (by omega)) ?_
  rintro e V3 ⟨rfl, hbV⟩
  rw [fa, Bool.true_and]
  have hb3 := hb2.trans (hbV.mono hb2.size)
  have hV3 := hU.below hb3
  clear hbV hV2 hb2
  refine And.intro (fun ka => ?_) (fun ka => ?_)
  · refine brT ?_
    refine brT ?_
    refine Calls.mono (awake_c hV3.T) ?_
    rintro e Z ⟨rfl, hbZ⟩
    exact ⟨rfl, (hV3.below hbZ).b⟩
  have ka : keepsL p a = true := by
    have ka : (!keepsL p a) = false := ka
    simpa using ka
  refine ⟨vs, hw.len, cells_block hV3.c, hlt hV3.c, ?_⟩
  refine Calls.mono (Keeps_c (md := md) (l := b) hV3.b.size hV3.v hV3.T h1 (sb.below hb3) (by omega)) ?_
  rintro e V4 ⟨rfl, hbV⟩
  rw [fb, Bool.true_and]
  have hb4 := hb3.trans (hbV.mono hb3.size)
  have hV4 := hU.below hb4
  clear hbV hV3 hb3
  refine And.intro (fun kb' => ?_) (fun kb' => ?_)
  · refine brT ?_
    refine Calls.mono (awake_c hV4.T) ?_
    rintro e Z ⟨rfl, hbZ⟩
    exact ⟨rfl, (hV4.below hbZ).b⟩
  have kb' : keepsL p b = true := by
    have kb' : (!keepsL p b) = false := kb'
    simpa using kb'
  refine ⟨vs, hw.len, cells_block hV4.c, hlt hV4.c, ?_⟩
  refine Calls.mono (Keeps_c (md := md) (l := pr) hV4.b.size hV4.v hV4.T h1 (sp.below hb4) (by rw [hpr, pickL_len]; omega)) ?_
  rintro e V5 ⟨rfl, hbV⟩
  rw [show ((turnsL p g && suitsL g md pr) && keepsL p pr) = true by rw [fp, kp ka kb']; rfl]
  have hb5 := hb4.trans (hbV.mono hb4.size)
  have hV5 := hU.below hb5
  refine brT ?_
  refine Calls.mono (awake_c hV5.T) ?_
  rintro e Z ⟨rfl, hbZ⟩
  exact ⟨rfl, (hV5.below hbZ).b⟩
end
end Go.Proofs.YthmddpoodknclaaDoor
namespace Go.Proofs.YthmddpoodknclaaDoor
open Go.Vc Go.RowKit Go.Sei
open Go.ChangeShapes Go.WideShapes Go.ChangeAt
set_option linter.unusedVariables false

section
variable {H : Type} {enc : TypeId × Value → H} {P : Program} {w : World} {base : Nat} {spare : Nat → Bool} {held : Bool} {fuel : Nat} {t : TypeId} {cs : List Value} {x : DataW H × List MemPlace}
theorem open_u8 (ht : P.underlying t = some (.int .u8)) (h : DataW.trod enc P w base spare held fuel t cs = some x) : ∃ b : UInt8, cs = [u8 b] ∧ x.1 = .lit (.int .u8 b.toNat) := by
  obtain ⟨n, rfl, rfl, hw⟩ := DataW.trod_int ht h
  have hb := bounds_u8 hw
  have e : ((UInt8.ofNat n.toNat).toNat : Int) = n := by
    rw [UInt8.toNat_ofNat']; omega
  exact ⟨UInt8.ofNat n.toNat, by rw [u8, e], by rw [e]⟩

theorem open_u8s {n : Nat} {e : TypeId} (ht : P.underlying t = some (.array n e)) (he : P.underlying e = some (.int .u8)) (hc : P.cellsOf e = 1) (hn : P.cellsOf t = n)
    (h : DataW.trod enc P w base spare held fuel t cs = some x) : ∃ bs : List UInt8, bs.length = n ∧ cs = bs.map u8 ∧ x.1 = .agg (bs.map fun b => .lit (.int .u8 b.toNat)) := by
  obtain ⟨xs, m, rfl, rfl, hl, hx, hel⟩ := DataW.trod_array ht h
  rw [hn] at hl
  have each : ∀ i (h : i < n), ∃ b : UInt8, cs[i]? = some (u8 b) ∧ xs[i]?.map (·.1) = some (.lit (.int .u8 b.toNat)) := fun i hi => by
    have h1 := hel i hi
    rw [hc, List.getElem?_eq_getElem (by omega)] at h1
    obtain ⟨b, h2, h3⟩ := open_u8 he h1
    refine ⟨b, ?_, by rw [List.getElem?_eq_getElem (by omega), Option.map_some, h3]⟩
    have : ((cs.drop (i * 1)).take 1)[0]? = some (u8 b) := by rw [h2]; rfl
    simpa using this
  have : ∀ k, k ≤ n → ∃ bs : List UInt8, bs.length = k ∧ cs.take k = bs.map u8 ∧ (xs.take k).map (·.1) = bs.map fun b => .lit (.int .u8 b.toNat) := by
    intro k
    induction k with
    | zero => exact fun _ => ⟨[], rfl, by simp, by simp⟩
    | succ k ih =>
      intro hk
      obtain ⟨bs, h1, h2, h3⟩ := ih (by omega)
      obtain ⟨b, h4, h5⟩ := each k (by omega)
      have hk1 : k < cs.length := by omega
      have hk2 : k < xs.length := by omega
      rw [List.getElem?_eq_getElem hk1] at h4
      rw [List.getElem?_eq_getElem hk2] at h5
      refine ⟨bs ++ [b], by simp [h1], ?_, ?_⟩
      · rw [List.take_succ_eq_append_getElem hk1, h2, Option.some.inj h4]; simp
      · rw [List.take_succ_eq_append_getElem hk2, List.map_append, h3]
        simp at h5
        simp [h5]
  obtain ⟨bs, h1, h2, h3⟩ := this n (Nat.le_refl _)
  rw [List.take_of_length_le (by omega)] at h2 h3
  exact ⟨bs, h1, h2, by rw [← h3]⟩

theorem open_i (ht : P.underlying t = some (.int .i64)) (h : DataW.trod enc P w base spare held fuel t cs = some x) : ∃ b : Int, cs = [i64 b] ∧ x.1 = .lit (.int .i64 b) := by
  obtain ⟨n, rfl, rfl, _⟩ := DataW.trod_int ht h
  exact ⟨n, rfl, rfl⟩
theorem open_is {n : Nat} {e : TypeId} (ht : P.underlying t = some (.array n e)) (he : P.underlying e = some (.int .i64)) (hc : P.cellsOf e = 1) (hn : P.cellsOf t = n)
    (h : DataW.trod enc P w base spare held fuel t cs = some x) : ∃ bs : List Int, bs.length = n ∧ cs = bs.map i64 ∧ x.1 = .agg (bs.map fun b => .lit (.int .i64 b)) := by
  obtain ⟨xs, m, rfl, rfl, hl, hx, hel⟩ := DataW.trod_array ht h
  rw [hn] at hl
  have each : ∀ i (h : i < n), ∃ b : Int, cs[i]? = some (i64 b) ∧ xs[i]?.map (·.1) = some (.lit (.int .i64 b)) := fun i hi => by
    have h1 := hel i hi
    rw [hc, List.getElem?_eq_getElem (by omega)] at h1
    obtain ⟨b, h2, h3⟩ := open_i he h1
    refine ⟨b, ?_, by rw [List.getElem?_eq_getElem (by omega), Option.map_some, h3]⟩
    have : ((cs.drop (i * 1)).take 1)[0]? = some (i64 b) := by rw [h2]; rfl
    simpa using this
  have : ∀ k, k ≤ n → ∃ bs : List Int, bs.length = k ∧ cs.take k = bs.map i64 ∧ (xs.take k).map (·.1) = bs.map fun b => .lit (.int .i64 b) := by
    intro k
    induction k with
    | zero => exact fun _ => ⟨[], rfl, by simp, by simp⟩
    | succ k ih =>
      intro hk
      obtain ⟨bs, h1, h2, h3⟩ := ih (by omega)
      obtain ⟨b, h4, h5⟩ := each k (by omega)
      have hk1 : k < cs.length := by omega
      have hk2 : k < xs.length := by omega
      rw [List.getElem?_eq_getElem hk1] at h4
      rw [List.getElem?_eq_getElem hk2] at h5
      refine ⟨bs ++ [b], by simp [h1], ?_, ?_⟩
      · rw [List.take_succ_eq_append_getElem hk1, h2, Option.some.inj h4]; simp
      · rw [List.take_succ_eq_append_getElem hk2, List.map_append, h3]
        simp at h5
        simp [h5]
  obtain ⟨bs, h1, h2, h3⟩ := this n (Nat.le_refl _)
  rw [List.take_of_length_le (by omega)] at h2 h3
  exact ⟨bs, h1, h2, by rw [← h3]⟩

end
theorem cells5 : Tryd.prog.cellsOf 5 = 1 := by kernel_rfl
theorem cells4 : Tryd.prog.cellsOf 4 = 1 := by kernel_rfl
theorem add_none (b o i : Nat) : (⟨b, o, none⟩ : Addr).add i = ⟨b, o + i, none⟩ := by
  unfold Addr.add
  by_cases h : i = 0
  · simp [h]
  · simp [h]

section
variable {w : World} {base : Nat} {cs : List Value}
theorem cells_of_run {a : Addr} {n : Nat} (hn : 0 < n) (h : w.cells? base a n = some cs) : a.spot = none ∧ a.block < w.heap.size ∧ Cells w ⟨a.block, a.off, none⟩ cs := by
  obtain ⟨_, hl, hc⟩ := World.cells?_some h
  have h0 := hc 0 hn
  rw [List.getElem?_eq_getElem (by omega)] at h0
  have hs : a.spot = none := by simpa [Addr.add] using World.cell?_spot h0
  obtain ⟨b, o, s⟩ := a
  dsimp only at hs
  subst hs
  refine ⟨rfl, World.block_lt_of_cell? _ _ h0, cells_mk fun i v hv => ?_⟩
  have hi : i < n := by have := (List.getElem?_eq_some_iff.1 hv).1; omega
  have := (hc i hi).trans hv
  rw [add_none] at this
  exact this

end
theorem ok_slice {P : Program} {w : World} {r : Reach} {base : Nat} {t e : TypeId} {v : Value} (ht : P.underlying t = some (.slice e)) (h : Value.okWide P w r base t v) :
    ∃ a len cap, v = .slice a len cap ∧ len ≤ cap ∧ (a = none → cap = 0) := by
  simp only [Value.okWide, ht, Cell.okWide] at h
  cases v with
  | slice a len cap =>
    cases a with
    | none =>
      refine ⟨none, len, cap, rfl, ?_⟩
      unfold Cell.ok at h
      rw [ht] at h
      split at h <;> simp_all
    | some a =>
      refine ⟨some a, len, cap, rfl, ?_, fun h => by cases h⟩
      unfold Cell.ok at h
      rw [ht] at h
      split at h <;> simp_all
  | _ => simp_all [Cell.ok]

theorem seat_own : ownKnob Tryd.prog.godebug = none := by kernel_rfl
theorem seat_laidOut : laidOutB Tryd.prog = true := by kernel_rfl
section
variable {H : Type} {enc : TypeId × Value → H} {P : Program} {w : World} {base : Nat} {spare : Nat → Bool} {held : Bool} {fuel : Nat} {t e : TypeId} {cs : List Value} {x : DataW H × List MemPlace}
/-- What every reading of a type's cells comes to. -/
def Opens (enc : TypeId × Value → H) (P : Program) (w : World) (base : Nat) (spare : Nat → Bool) (held : Bool) (t : TypeId) (R : List Value → Prop) : Prop :=
  ∀ fuel cs x, DataW.trod enc P w base spare held fuel t cs = some x → R cs
theorem Opens.field {fs : Array Field} {R : List Value → Prop} {i : Nat} {f : Field} {n : Nat} {xs : List (DataW H × List MemPlace)} {m : Nat} (hel : ∀ (i : Nat) (f : Field), fs[i]? = some f → DataW.trod enc P w base spare held m f.type ((cs.drop f.offset).take (P.cellsOf f.type)) = xs[i]?)
    (hl : xs.length = fs.size) (hi : fs[i]? = some f) {o : Nat} (hoo : f.offset = o) (hn : P.cellsOf f.type = n) (ho : Opens enc P w base spare held f.type R) : R ((cs.drop o).take n) := by
  subst hoo
  have h1 := hel i f hi
  have : i < fs.size := (Array.getElem?_eq_some_iff.1 hi).1
  rw [List.getElem?_eq_getElem (by omega), hn] at h1
  exact ho _ _ _ h1
theorem opens_u8 (ht : P.underlying t = some (.int .u8)) : Opens enc P w base spare held t fun cs => ∃ b : UInt8, cs = [u8 b] := fun fuel cs x h => by
  obtain ⟨b, h, _⟩ := open_u8 ht h
  exact ⟨b, h⟩
theorem opens_bool (ht : P.underlying t = some .bool) : Opens enc P w base spare held t fun cs => ∃ b : Bool, cs = [.bool b] := fun fuel cs x h => by
  obtain ⟨b, h, _⟩ := DataW.trod_bool ht h
  exact ⟨b, h⟩
theorem opens_int (ht : P.underlying t = some (.int .i64)) : Opens enc P w base spare held t fun cs => ∃ b : Int, cs = [.int .i64 b] := fun fuel cs x h => by
  obtain ⟨n, h, _, _⟩ := DataW.trod_int ht h
  exact ⟨n, h⟩
theorem opens_u64 (ht : P.underlying t = some (.int .u64)) : Opens enc P w base spare held t fun cs => ∃ n : Nat, n < 18446744073709551616 ∧ cs = [.int .u64 (n : Int)] := fun fuel cs x h => by
  obtain ⟨n, rfl, _, hw⟩ := DataW.trod_int ht h
  have hb : 0 ≤ n ∧ n ≤ 18446744073709551615 := by
    simp only [Lit.wf, decide_eq_true_eq, Bool.and_eq_true] at hw
    first
      | exact ⟨by simpa [IntKind.min, IntKind.signed, IntKind.bits] using hw.1, by simpa [IntKind.max, IntKind.signed, IntKind.bits] using hw.2⟩
      | (simp [IntKind.min, IntKind.max, IntKind.signed, IntKind.bits] at hw; omega)
  exact ⟨n.toNat, by omega, by congr 2; omega⟩
theorem opens_u8s {n : Nat} (ht : P.underlying t = some (.array n e)) (he : P.underlying e = some (.int .u8)) (hc : P.cellsOf e = 1) (hn : P.cellsOf t = n) : Opens enc P w base spare held t fun cs => ∃ bs : List UInt8, bs.length = n ∧ cs = bs.map u8 := fun fuel cs x h => by
  obtain ⟨bs, h1, h2, _⟩ := open_u8s ht he hc hn h
  exact ⟨bs, h1, h2⟩

theorem list_of {β : Type} {n : Nat} (i0 : β) {Q : Nat → β → Prop} (h : ∀ i, i < n → ∃ b, Q i b) : ∃ bs : List β, bs.length = n ∧ ∀ i (hi : i < bs.length), Q i bs[i] := by
  have h2 : ∀ i, ∃ b, i < n → Q i b := fun i => by
    by_cases hi : i < n
    · obtain ⟨b, hb⟩ := h i hi; exact ⟨b, fun _ => hb⟩
    · exact ⟨i0, fun h => absurd h hi⟩
  obtain ⟨g, hg⟩ := Classical.axiomOfChoice h2
  refine ⟨(List.range n).map g, by simp, fun i hi => ?_⟩
  simp only [List.getElem_map, List.getElem_range]
  exact hg i (by simpa using hi)
theorem flat_of {β : Type} {f : β → List Value} {sz : Nat} : ∀ (bs : List β) (cs : List Value), cs.length = bs.length * sz → (∀ i (h : i < bs.length), (cs.drop (i * sz)).take sz = f bs[i]) → cs = bs.flatMap f
  | [], cs, hl, _ => by simpa using hl
  | b :: r, cs, hl, h => by
    have h0 := h 0 (by simp)
    simp only [Nat.zero_mul, List.drop_zero, List.getElem_cons_zero] at h0
    rw [List.flatMap_cons, ← h0]
    conv => lhs; rw [← List.take_append_drop sz cs]
    congr 1
    refine flat_of (sz := sz) r (cs.drop sz) (by rw [List.length_drop, hl, List.length_cons, Nat.add_mul]; omega) fun i hi => ?_
    have h1 := h (i + 1) (by simpa using hi)
    rw [List.drop_drop]
    simpa [Nat.add_mul, Nat.add_comm] using h1
theorem opens_arr {β : Type} (i0 : β) {f : β → List Value} {Q : β → Prop} {n sz : Nat} (ht : P.underlying t = some (.array n e)) (hc : P.cellsOf e = sz) (hn : P.cellsOf t = n * sz) (ho : Opens enc P w base spare held e fun cs => ∃ b, Q b ∧ cs = f b) :
    Opens enc P w base spare held t fun cs => ∃ bs : List β, bs.length = n ∧ (∀ b ∈ bs, Q b) ∧ cs = bs.flatMap f := fun fuel cs x h => by
  obtain ⟨xs, m, rfl, rfl, hl, hx, hel⟩ := DataW.trod_array ht h
  rw [hn] at hl
  have each : ∀ i, i < n → ∃ b : β, Q b ∧ (cs.drop (i * sz)).take sz = f b := fun i hi => by
    have h1 := hel i hi
    rw [hc, List.getElem?_eq_getElem (by omega)] at h1
    exact ho _ _ _ h1
  obtain ⟨bs, h1, h2⟩ := list_of i0 each
  refine ⟨bs, h1, fun b hb => ?_, flat_of bs cs (by rw [hl, h1]) fun i hi => (h2 i hi).2⟩
  obtain ⟨i, hi, rfl⟩ := List.getElem_of_mem hb
  exact (h2 i hi).1
theorem opens_sl {β : Type} (i0 : β) {f : β → List Value} {Q : β → Prop} {sz : Nat} (hp : 0 < sz) (ht : P.underlying t = some (.slice e)) (hc : P.cellsOf e = sz) (ho : Opens enc P w base spare held e fun cs => ∃ b, Q b ∧ cs = f b) :
    Opens enc P w base spare held t fun cs => ∃ (p : Option Addr) (cap : Nat) (l : List β), cs = [.slice p l.length cap] ∧ l.length ≤ 9223372036854775807 ∧ (p = none → cap = 0) ∧ (∀ b ∈ l, Q b) ∧ ∃ b o, (l.length = 0 ∨ p = some ⟨b, o, none⟩) ∧ ∀ i (hi : i < l.length), b < w.heap.size ∧ Cells w ⟨b, o + i * sz, none⟩ (f l[i]) := fun fuel cs x h => by
  rcases DataW.trod_slice ht h with ⟨rfl, _⟩ | ⟨a, len, cap, elems, rest, n, _, rfl, _, _, hlc, hcm, hlen, hel, _, _⟩
  · exact ⟨none, 0, [], rfl, by simp, fun _ => rfl, by simp, 0, 0, .inl rfl, fun i hi => by simp at hi⟩
  · have each : ∀ i, i < len → ∃ m : β, Q m ∧ (a.add (i * sz)).spot = none ∧ (a.add (i * sz)).block < w.heap.size ∧ Cells w ⟨(a.add (i * sz)).block, (a.add (i * sz)).off, none⟩ (f m) := fun i hi => by
      have h1 := hel i hi
      rw [hc, List.getElem?_eq_getElem (by omega), Option.bind_eq_some_iff] at h1
      obtain ⟨cs, h2, h3⟩ := h1
      obtain ⟨m, hq, rfl⟩ := ho _ _ _ h3
      exact ⟨m, hq, cells_of_run hp h2⟩
    obtain ⟨l, h1, h2⟩ := list_of i0 each
    have hm : maxLen = 9223372036854775807 := rfl
    refine ⟨some a, cap, l, by rw [h1], by omega, (fun h => by cases h), fun b hb => ?_, a.block, a.off, ?_, fun i hi => ?_⟩
    · obtain ⟨i, hi, rfl⟩ := List.getElem_of_mem hb
      exact (h2 i hi).1
    · by_cases h00 : l.length = 0
      · exact .inl h00
      · right
        have hsp : a.spot = none := by
          have := (h2 0 (by omega)).2.1
          simpa [Addr.add] using this
        obtain ⟨b, o, s⟩ := a
        dsimp only at hsp
        subst hsp
        rfl
    · have hsp : a.spot = none := by
        have := (h2 0 (by omega)).2.1
        simpa [Addr.add] using this
      obtain ⟨b, o, s⟩ := a
      dsimp only at hsp
      subst hsp
      have := (h2 i hi).2.2
      rw [add_none] at this
      exact this
theorem cut (cs : List Value) (o n o' : Nat) (h : o + n = o') : cs.drop o = (cs.drop o).take n ++ cs.drop o' := by
  rw [← h, ← List.drop_drop, List.take_append_drop]
end
theorem cC (t n : Nat) (h : Tryd.prog.cellsOf t = n) : Tryd.prog.cellsOf t = n := h
theorem returns_and_sized {H : Type} {enc : TypeId × Value → H} {a : Assume} {C : Checked} {os : Os} {f : FuncId} {fn : Func} {s : ChangeSpec} {conds : List PathCond} {apart fresh handsOn again : Bool} {X : World → Array Value → Prop}
    (hX : ∀ (w w' : World) (args : Array Value), w.heap = w'.heap → X w args → X w' args)
    (own : ownKnob C.prog.godebug = none) (started : os.Started) (noInit : C.prog.inits.idxOf? f = none) (hfn : C.prog.funcs[f]? = some fn)
    (witness : ∃ (w : World) (tape : Tape) (i : Input), w.os = os ∧ (w.forCall tape i).Shaped C.prog ∧ i.vars = [] ∧ Input.okWide C.prog (w.forCall tape i) .any w.heap.size f i ∧
      ((s.pre enc C.prog fn conds apart (w.forCall tape i).memory i.args ∧ X (w.forCall tape i).memory i.args) ∧ sizedMet enc C.prog fn (OpenSpec.ofChange s) apart (w.forCall tape i).memory i.args) ∧ a.holds C.prog (lone (Frame.enter C.prog f i.args .normal) [] (w.forCall tape i)))
    (contract : ∀ (W : World) (base : Nat) (args : Array Value) (ds gs : List (DataW H)) (before : List MemPlace),
      (∀ (j : Nat) t v, fn.params[j]? = some t → args[j]? = some v → Value.okWide C.prog W .any base t v) →
      DataW.Whole enc C.prog fn.params.toList s.vars apart W args.toList ds gs before → X W args → W.ShapedOpen C.prog →
      (∃ ds gs before, DataW.Whole enc C.prog fn.params.toList (OpenSpec.ofChange s).vars apart W args.toList ds gs before ∧ ∀ n ∈ DataW.weightsEach C.prog (fn.params.toList ++ (OpenSpec.ofChange s).bare.plain.varTypes C.prog) (ds ++ gs), n ≤ reachBytes) →
      Calls C.prog f args W fun e W' => ∃ v, e = .returned v ∧ s.post enc C.prog fn apart fresh handsOn again W args v W') :
    ReturnsInHanded a C os f .any (fun w args => (s.pre enc C.prog fn conds apart w args ∧ X w args) ∧ sizedMet enc C.prog fn (OpenSpec.ofChange s) apart w args) (s.post enc C.prog fn apart fresh handsOn again) := by
  refine returnsInHanded_of_calls own started noInit witness ?_
  intro w tape i _ hsh _ hok hpre hholds
  obtain ⟨_, _, _, fn', hfn', _, _, _, _, hval⟩ := hok
  have e : fn' = fn := Option.some.inj (hfn'.symm.trans hfn)
  subst e
  obtain ⟨⟨⟨ds, gs, before, hw, hc⟩, hx⟩, hz⟩ := hpre
  have hw' := DataW.Whole.of_heap (w' := w.forCall tape i) (by rfl) hw
  obtain ⟨_, ds2, gs2, before2, hw2, hall⟩ := hz
  refine (contract (w.forCall tape i) w.heap.size i.args ds gs before hval hw' (hX _ _ _ (by rfl) hx) hsh ⟨ds2, gs2, before2, DataW.Whole.of_heap (w' := w.forCall tape i) (by rfl) hw2, fun n hn => of_decide_eq_true (List.all_eq_true.1 hall n hn)⟩).mono fun e W' ⟨v, he, hp⟩ => ?_
  subst he
  exact ChangeSpec.post_blind hp

section
variable {H : Type} {enc : TypeId × Value → H} {P : Program} {w : World} {base : Nat} {spare : Nat → Bool} {held : Bool} {fuel : Nat} {t : TypeId} {cs : List Value} {x : DataW H × List MemPlace}
/-- All weights of a reading lie within the reach. -/
def Wgt (P : Program) (t : TypeId) (d : DataW H) : Prop := ∀ n ∈ d.weights P t, n ≤ reachBytes
theorem wgt_mem {ds : List (DataW H)} {e : TypeId} (h : ∀ n ∈ DataW.weightsAll P e ds, n ≤ reachBytes) : ∀ d ∈ ds, Wgt P e d := by
  induction ds with
  | nil => intro d hd; cases hd
  | cons a r ih =>
    intro d hd
    simp only [DataW.weightsAll, List.mem_append] at h
    rcases List.mem_cons.1 hd with rfl | hd
    · exact fun n hn => h n (.inl hn)
    · exact ih (fun n hn => h n (.inr hn)) d hd
theorem wgt_slice {e : TypeId} (ht : P.underlying t = some (.slice e)) {a : Option Addr} {len cap : Nat} (h : DataW.trod enc P w base spare held fuel t [.slice a len cap] = some x) (hw : Wgt P t x.1) (hb : Nat.ble 1 (P.bytesOf e) = true) :
    len ≤ reachBytes ∧ ∀ i, i < len → ∃ aa cs n y, a = some aa ∧ w.cells? base (aa.add (i * P.cellsOf e)) (P.cellsOf e) = some cs ∧ DataW.trod enc P w base spare held n e cs = some y ∧ Wgt P e y.1 := by
  rcases DataW.trod_slice ht h with ⟨hcs, hx⟩ | ⟨aa, l, c, elems, rest, n, _, hcs, hx, _, _, _, hlen, hel, _, _⟩
  · simp only [List.cons.injEq, Value.slice.injEq, and_true] at hcs
    obtain ⟨rfl, rfl, rfl⟩ := hcs
    exact ⟨Nat.zero_le _, fun i hi => absurd hi (Nat.not_lt_zero _)⟩
  · simp only [List.cons.injEq, Value.slice.injEq, and_true] at hcs
    obtain ⟨rfl, rfl, rfl⟩ := hcs
    subst hx
    have hw' : ∀ m, m ∈ ((elems.map (·.1)).length + (rest.map (·.1)).length) * P.bytesOf e :: (DataW.weightsAll P e (elems.map (·.1)) ++ DataW.weightsAll P e (rest.map (·.1))) → m ≤ reachBytes := fun m hm => by
      refine hw m ?_
      simp only [DataW.weights, ht]
      exact hm
    have hb := Nat.le_of_ble_eq_true hb
    constructor
    · have h1 := hw' _ List.mem_cons_self
      simp only [List.length_map] at h1
      have : elems.length * 1 ≤ (elems.length + rest.length) * P.bytesOf e := Nat.mul_le_mul (Nat.le_add_right _ _) hb
      omega
    · intro i hi
      have h1 := hel i hi
      rw [List.getElem?_eq_getElem (by omega), Option.bind_eq_some_iff] at h1
      obtain ⟨cs, h2, h3⟩ := h1
      refine ⟨aa, cs, n, _, rfl, h2, h3, ?_⟩
      refine wgt_mem (ds := elems.map (·.1)) (fun m hm => hw' m (List.mem_cons_of_mem _ (List.mem_append_left _ hm))) _ ?_
      exact List.mem_map_of_mem (List.getElem_mem _)
theorem wgt_field {fs : Array Field} (ht : P.underlying t = some (.struct fs)) (h : DataW.trod enc P w base spare held fuel t cs = some x) (hw : Wgt P t x.1) {i : Nat} {f : Field} (hf : fs[i]? = some f) {T o k : Nat} {vs : List Value} (hT : f.type = T) (hO : f.offset = o) (hk : P.cellsOf T = k) (hv : (cs.drop o).take k = vs) :
    ∃ n y, DataW.trod enc P w base spare held n T vs = some y ∧ Wgt P T y.1 := by
  subst hT hO hk hv
  obtain ⟨xs, n, rfl, rfl, hl, hx, hel⟩ := DataW.trod_struct ht h
  have h1 := hel i f hf
  have hi : i < xs.length := by rw [hx]; exact (Array.getElem?_eq_some_iff.1 hf).1
  rw [List.getElem?_eq_getElem hi] at h1
  refine ⟨n, _, h1, fun m hm => hw m ?_⟩
  simp only [DataW.weights, ht]
  refine DataW.weights_mem_each (j := i) (t := f.type) (d := xs[i].1) ?_ ?_ m hm
  · rw [List.getElem?_map]
    have : fs.toList[i]? = some f := by simpa using hf
    rw [this]; rfl
  · rw [List.getElem?_map, List.getElem?_eq_getElem hi]; rfl
end

end Go.Proofs.YthmddpoodknclaaDoor
namespace Go.Proofs.YthmddpoodknclaaDoor
open Go.Vc Go.RowKit Go.Sei
open Go.ChangeShapes Go.WideShapes Go.ChangeAt
set_option linter.unusedVariables false

theorem cell_one {P : Program} {w : World} {r : Reach} {base : Nat} {u : TypeId} {v : Value} (h : Cell.okWide P w r base u v) : v.oneCell' = true := by
  cases v with
  | agg cs =>
    exfalso
    unfold Cell.okWide at h
    split at h <;> rename_i h1 <;> first | cases h1 | skip
    all_goals
      unfold Cell.ok at h
      split at h <;> rename_i h2 <;> first | cases h2 | exact h
  | tuple cs =>
    exfalso
    unfold Cell.okWide at h
    split at h <;> rename_i h1 <;> first | cases h1 | skip
    all_goals
      unfold Cell.ok at h
      split at h <;> rename_i h2 <;> first | cases h2 | exact h
  | _ => rfl
theorem okWide_one {P : Program} {w : World} {r : Reach} {base : Nat} {t : TypeId} {a : Array Value} {fs : Array Field} (ht : P.underlying t = some (.struct fs)) (h : Value.okWide P w r base t (.agg a)) : a.toList.all Value.oneCell' = true := by
  unfold Value.okWide at h
  rw [ht] at h
  obtain ⟨cs, h0, _, ts, _, _, h1⟩ := h
  simp only [Value.agg.injEq] at h0
  subst h0
  rw [List.all_eq_true]
  intro v hv
  obtain ⟨i, hi, rfl⟩ := List.getElem_of_mem hv
  obtain ⟨u, _, h2⟩ := h1 i a.toList[i] (by simp)
  exact cell_one h2

section
variable {H : Type} {enc : TypeId × Value → H} {P : Program} {w : World} {base : Nat} {spare : Nat → Bool} {held : Bool} {fuel F : Nat} {t e : TypeId} {cs : List Value} {x : DataW H × List MemPlace}
/-- What every small enough reading of a type's cells comes to. -/
def OpensW (enc : TypeId × Value → H) (P : Program) (w : World) (base : Nat) (spare : Nat → Bool) (held : Bool) (F : Nat) (t : TypeId) (R : List Value → Prop) : Prop :=
  ∀ n, n < F → ∀ cs x, DataW.trod enc P w base spare held n t cs = some x → Wgt P t x.1 → R cs
theorem opensW_of {R : List Value → Prop} (h : Opens enc P w base spare held t R) : OpensW enc P w base spare held F t R := fun n _ cs x h1 _ => h n cs x h1
theorem OpensW.field {fs : Array Field} {R : List Value → Prop} (ht : P.underlying t = some (.struct fs)) (h : DataW.trod enc P w base spare held fuel t cs = some x) (hw : Wgt P t x.1) (hF : fuel ≤ F) {i : Nat} {f : Field} (hf : fs[i]? = some f) {T o k : Nat} (hT : f.type = T) (hO : f.offset = o) (hk : P.cellsOf T = k)
    (ho : OpensW enc P w base spare held F T R) : R ((cs.drop o).take k) := by
  subst hT hO hk
  obtain ⟨xs, n, rfl, rfl, hl, hx, hel⟩ := DataW.trod_struct ht h
  have h1 := hel i f hf
  have hi : i < xs.length := by rw [hx]; exact (Array.getElem?_eq_some_iff.1 hf).1
  rw [List.getElem?_eq_getElem hi] at h1
  refine ho n (by omega) _ _ h1 fun m hm => hw m ?_
  simp only [DataW.weights, ht]
  refine DataW.weights_mem_each (j := i) (t := f.type) (d := xs[i].1) ?_ ?_ m hm
  · rw [List.getElem?_map]
    have : fs.toList[i]? = some f := by simpa using hf
    rw [this]; rfl
  · rw [List.getElem?_map, List.getElem?_eq_getElem hi]; rfl
theorem opensW_str (ht : P.underlying t = some .string) : OpensW enc P w base spare held F t fun cs => ∃ s : List UInt8, s.length ≤ 140737488351232 ∧ cs = [strV s] := fun n _ cs x h hw => by
  obtain ⟨s, rfl, rfl, _⟩ := DataW.trod_string ht h
  refine ⟨s.data.toList, hw _ (by simp [DataW.weights]), ?_⟩
  unfold strV bs
  rw [Array.toArray_toList]
theorem opensW_sl {β : Type} (i0 : β) {f : β → List Value} {Q : β → Prop} {sz : Nat} (hp : 0 < sz) (ht : P.underlying t = some (.slice e)) (hc : P.cellsOf e = sz) (hb : Nat.ble 1 (P.bytesOf e) = true) (ho : OpensW enc P w base spare held F e fun cs => ∃ b, Q b ∧ cs = f b) :
    OpensW enc P w base spare held (F + 1) t fun cs => ∃ (p : Option Addr) (cap : Nat) (l : List β), cs = [.slice p l.length cap] ∧ l.length ≤ 140737488351232 ∧ l.length ≤ cap ∧ (∀ b ∈ l, Q b) ∧ ∃ b o, (l.length = 0 ∨ p = some ⟨b, o, none⟩) ∧ ∀ i (hi : i < l.length), b < w.heap.size ∧ Cells w ⟨b, o + i * sz, none⟩ (f l[i]) := fun n hn cs x h hw => by
  rcases DataW.trod_slice ht h with ⟨rfl, _⟩ | ⟨a, len, cap, elems, rest, n, rfl, rfl, hx, _, hlc, hcm, hlen, hel, _, _⟩
  · exact ⟨none, 0, [], rfl, by simp, by simp, by simp, 0, 0, .inl rfl, fun i hi => by simp at hi⟩
  · subst hx
    have hw' : ∀ m, m ∈ ((elems.map (·.1)).length + (rest.map (·.1)).length) * P.bytesOf e :: (DataW.weightsAll P e (elems.map (·.1)) ++ DataW.weightsAll P e (rest.map (·.1))) → m ≤ reachBytes := fun m hm => by
      refine hw m ?_
      simp only [DataW.weights, ht]
      exact hm
    have hb := Nat.le_of_ble_eq_true hb
    have hlb : len ≤ 140737488351232 := by
      have h1 := hw' _ List.mem_cons_self
      simp only [List.length_map] at h1
      have : elems.length * 1 ≤ (elems.length + rest.length) * P.bytesOf e := Nat.mul_le_mul (Nat.le_add_right _ _) hb
      have hr : reachBytes = 140737488351232 := rfl
      omega
    have each : ∀ i, i < len → ∃ m : β, Q m ∧ (a.add (i * sz)).spot = none ∧ (a.add (i * sz)).block < w.heap.size ∧ Cells w ⟨(a.add (i * sz)).block, (a.add (i * sz)).off, none⟩ (f m) := fun i hi => by
      have h1 := hel i hi
      rw [hc, List.getElem?_eq_getElem (by omega), Option.bind_eq_some_iff] at h1
      obtain ⟨cs, h2, h3⟩ := h1
      obtain ⟨m, hq, rfl⟩ := ho n (by omega) _ _ h3 (wgt_mem (ds := elems.map (·.1)) (fun m hm => hw' m (List.mem_cons_of_mem _ (List.mem_append_left _ hm))) _ (List.mem_map_of_mem (List.getElem_mem _)))
      exact ⟨m, hq, cells_of_run hp h2⟩
    obtain ⟨l, h1, h2⟩ := list_of i0 each
    refine ⟨some a, cap, l, by rw [h1], by omega, by omega, fun b hb => ?_, a.block, a.off, ?_, fun i hi => ?_⟩
    · obtain ⟨i, hi, rfl⟩ := List.getElem_of_mem hb
      exact (h2 i hi).1
    · by_cases h00 : l.length = 0
      · exact .inl h00
      · right
        have hsp : a.spot = none := by
          have := (h2 0 (by omega)).2.1
          simpa [Addr.add] using this
        obtain ⟨b, o, s⟩ := a
        dsimp only at hsp
        subst hsp
        rfl
    · have hsp : a.spot = none := by
        have := (h2 0 (by omega)).2.1
        simpa [Addr.add] using this
      obtain ⟨b, o, s⟩ := a
      dsimp only at hsp
      subst hsp
      have := (h2 i hi).2.2
      rw [add_none] at this
      exact this
theorem row_of {α : Type} {E : Enc α} {p : Option Addr} {l : List α} (h : ∃ b o, (l.length = 0 ∨ p = some ⟨b, o, none⟩) ∧ ∀ i (hi : i < l.length), b < w.heap.size ∧ Cells w ⟨b, o + i * E.sz, none⟩ (E.enc l[i])) : RowB E w.heap.size w p l := by
  obtain ⟨b, o, hp, hc⟩ := h
  by_cases h0 : l = []
  · exact .inl h0
  · have hl0 : 0 < l.length := List.length_pos_iff.2 h0
    rcases hp with hp | rfl
    · omega
    · exact RowB.of_slr (.inr ⟨b, o, rfl, (hc 0 hl0).1, fun i hi => (hc i hi).2⟩)
end
section
variable {H : Type} {enc : TypeId × Value → H} {w : World} {base : Nat} {spare : Nat → Bool} {held : Bool} {F : Nat}
theorem opens_arg : Opens enc Tryd.prog w base spare held 123 fun cs => ∃ (r : Bool) (n : UInt8), cs = [.bool r, u8 n] := fun fuel cs x h => by
  obtain ⟨xs, m, rfl, rfl, hl, hx, hel⟩ := DataW.trod_struct Tryd.underlying123 h
  rw [cC 123 2 (by kernel_rfl)] at hl
  obtain ⟨b0, e0⟩ := Opens.field (o := 0) (i := 0) hel hx rfl rfl cells4 (opens_bool Tryd.underlying4)
  obtain ⟨b1, e1⟩ := Opens.field (o := 1) (i := 1) hel hx rfl rfl cells5 (opens_u8 Tryd.underlying5)
  refine ⟨b0, b1, ?_⟩
  have h0 : cs = cs.drop 0 := rfl
  have h9 : cs.drop 2 = [] := List.drop_of_length_le (by omega)
  rw [h0, cut cs 0 1 1 rfl, cut cs 1 1 2 rfl, e0, e1, h9]
  rfl
theorem opens_ins : Opens enc Tryd.prog w base spare held 125 fun cs => ∃ x : InsD, True ∧ cs = insE.enc x := fun fuel cs x h => by
  obtain ⟨xs, m, rfl, rfl, hl, hx, hel⟩ := DataW.trod_struct Tryd.underlying125 h
  rw [cC 125 10 (by kernel_rfl)] at hl
  obtain ⟨b0, e0⟩ := Opens.field (o := 0) (i := 0) hel hx rfl rfl cells5 (opens_u8 Tryd.underlying5)
  obtain ⟨b1, e1⟩ := Opens.field (o := 1) (i := 1) hel hx rfl rfl cells5 (opens_u8 Tryd.underlying5)
  obtain ⟨b2, e2⟩ := Opens.field (o := 2) (i := 2) hel hx rfl rfl cells5 (opens_u8 Tryd.underlying5)
  obtain ⟨r3, n3, e3⟩ := Opens.field (o := 3) (i := 3) hel hx rfl rfl (cC 123 2 (by kernel_rfl)) opens_arg
  obtain ⟨r4, n4, e4⟩ := Opens.field (o := 5) (i := 4) hel hx rfl rfl (cC 123 2 (by kernel_rfl)) opens_arg
  obtain ⟨b5, e5⟩ := Opens.field (o := 7) (i := 5) hel hx rfl rfl cells5 (opens_u8 Tryd.underlying5)
  obtain ⟨b6, e6⟩ := Opens.field (o := 8) (i := 6) hel hx rfl rfl cells5 (opens_u8 Tryd.underlying5)
  obtain ⟨b7, e7⟩ := Opens.field (o := 9) (i := 7) hel hx rfl rfl cells5 (opens_u8 Tryd.underlying5)
  refine ⟨⟨b0, b1, b2, r3, n3, r4, n4, b5, b6, b7⟩, trivial, ?_⟩
  have h0 : cs = cs.drop 0 := rfl
  have h9 : cs.drop 10 = [] := List.drop_of_length_le (by omega)
  rw [h0, cut cs 0 1 1 rfl, cut cs 1 1 2 rfl, cut cs 2 1 3 rfl, cut cs 3 2 5 rfl, cut cs 5 2 7 rfl, cut cs 7 1 8 rfl, cut cs 8 1 9 rfl, cut cs 9 1 10 rfl, e0, e1, e2, e3, e4, e5, e6, e7, h9]
  rfl
theorem opensW_thr : OpensW enc Tryd.prog w base spare held F 121 fun cs => ∃ x : ThrR, (x.1.length ≤ 140737488351232 ∧ RowB insE w.heap.size w x.2.1 x.1) ∧ cs = thrE.enc x := fun n hn cs x h hw => by
  obtain ⟨p, cap, l, h1, h2, _, _, h3⟩ := opensW_sl (F := n) (⟨0, 0, 0, false, 0, false, 0, 0, 0, 0⟩ : InsD) (f := insE.enc) (Q := fun _ => True) (sz := 10) (by decide) Tryd.underlying121 (by kernel_rfl) (by kernel_rfl) (opensW_of opens_ins) n (Nat.lt_succ_self n) cs x h hw
  exact ⟨(l, p, cap), ⟨h2, row_of h3⟩, h1⟩
/-- A condition's reading, of any depth. -/
theorem opensW_cnd : ∀ F, OpensW enc Tryd.prog w base spare held F 27 fun cs => ∃ x : Cnd × Option Addr × Nat, KidsV w.heap.size w x.2.1 x.1.kids ∧ cs = cndCells x.1 x.2.1 x.2.2
  | 0 => fun n hn => absurd hn (Nat.not_lt_zero _)
  | F + 1 => fun n hn cs x h hw => by
    have ih := opensW_cnd F
    have hF : n ≤ F + 1 := by omega
    have hl : cs.length = 5 := by
      obtain ⟨xs, m, _, _, hl, _, _⟩ := DataW.trod_struct Tryd.underlying27 h
      rw [cC 27 5 (by kernel_rfl)] at hl
      exact hl
    obtain ⟨b0, e0⟩ := OpensW.field (F := F + 1) (o := 0) (i := 0) Tryd.underlying27 h hw hF rfl rfl rfl cells5 (opensW_of (opens_u8 Tryd.underlying5))
    obtain ⟨b1, e1⟩ := OpensW.field (F := F + 1) (o := 1) (i := 1) Tryd.underlying27 h hw hF rfl rfl rfl cells5 (opensW_of (opens_u8 Tryd.underlying5))
    obtain ⟨b2, e2⟩ := OpensW.field (F := F + 1) (o := 2) (i := 2) Tryd.underlying27 h hw hF rfl rfl rfl cells5 (opensW_of (opens_u8 Tryd.underlying5))
    obtain ⟨b3, e3⟩ := OpensW.field (F := F + 1) (o := 3) (i := 3) Tryd.underlying27 h hw hF rfl rfl rfl cells5 (opensW_of (opens_u8 Tryd.underlying5))
    obtain ⟨p, cap, l, e4, hll, _, hQ, b, o, hp, hc⟩ := OpensW.field (F := F + 1) (o := 4) (i := 4) Tryd.underlying27 h hw hF rfl rfl rfl (cC 25 1 (by kernel_rfl))
      (opensW_sl (F := F) ((.mk 0 0 0 0 [], none, 0) : Cnd × Option Addr × Nat) (f := fun x => cndCells x.1 x.2.1 x.2.2) (Q := fun x => KidsV w.heap.size w x.2.1 x.1.kids) (sz := 5) (by decide) Tryd.underlying25 (by kernel_rfl) (by kernel_rfl) ih)
    refine ⟨(.mk b0 b1 b2 b3 (l.map (·.1)), p, cap), ?_, ?_⟩
    · refine .mk p (l.map (·.1)) (by rw [List.length_map]; exact hll) b o (by rw [List.length_map]; exact hp) (fun i => (l.getD i (.mk 0 0 0 0 [], none, 0)).2.1) (fun i => (l.getD i (.mk 0 0 0 0 [], none, 0)).2.2) (fun i hi => ?_) (fun i hi => ?_)
      · have hi' : i < l.length := by rw [List.length_map] at hi; exact hi
        have e : l.getD i (.mk 0 0 0 0 [], none, 0) = l[i] := by rw [List.getD_eq_getElem?_getD, List.getElem?_eq_getElem hi']; rfl
        rw [e, List.getElem_map]
        exact hc i hi'
      · have hi' : i < l.length := by rw [List.length_map] at hi; exact hi
        have e : l.getD i (.mk 0 0 0 0 [], none, 0) = l[i] := by rw [List.getD_eq_getElem?_getD, List.getElem?_eq_getElem hi']; rfl
        rw [e, List.getElem_map]
        exact hQ _ (List.getElem_mem hi')
    · have h0 : cs = cs.drop 0 := rfl
      have h9 : cs.drop 5 = [] := List.drop_of_length_le (by omega)
      rw [h0, cut cs 0 1 1 rfl, cut cs 1 1 2 rfl, cut cs 2 1 3 rfl, cut cs 3 1 4 rfl, cut cs 4 1 5 rfl, e0, e1, e2, e3, e4, h9]
      simp [cndCells, Cnd.kind, Cnd.thread, Cnd.n, Cnd.val, Cnd.kids]
theorem opensW_prg : OpensW enc Tryd.prog w base spare held F 29 fun cs => ∃ p : Prg, PrgV w.heap.size w cs p := fun n hn cs x h hw => by
  have hF : n ≤ n + 1 := Nat.le_succ n
  have hl : cs.length = 10 := by
    obtain ⟨xs, m, _, _, hl, _, _⟩ := DataW.trod_struct Tryd.underlying29 h
    rw [cC 29 10 (by kernel_rfl)] at hl
    exact hl
  obtain ⟨nm, k0, e0⟩ := OpensW.field (F := n + 1) (o := 0) (i := 0) Tryd.underlying29 h hw hF rfl rfl rfl (cC 9 1 (by kernel_rfl)) (opensW_str Tryd.underlying9)
  obtain ⟨p1, c1, l1, e1, k1, kc1, q1, r1⟩ := OpensW.field (F := n + 1) (o := 1) (i := 1) Tryd.underlying29 h hw hF rfl rfl rfl (cC 22 1 (by kernel_rfl))
    (opensW_sl (F := n) ([] : List UInt8) (f := namE.enc) (Q := fun s => s.length ≤ 140737488351232) (sz := 1) (by decide) Tryd.underlying22 (by kernel_rfl) (by kernel_rfl) (opensW_str Tryd.underlying9))
  obtain ⟨p2, c2, l2, e2, k2, kc2, q2, r2⟩ := OpensW.field (F := n + 1) (o := 2) (i := 2) Tryd.underlying29 h hw hF rfl rfl rfl (cC 23 1 (by kernel_rfl))
    (opensW_sl (F := n) (0 : UInt8) (f := byteE.enc) (Q := fun _ => True) (sz := 1) (by decide) Tryd.underlying23 cells5 (by kernel_rfl) (opensW_of (fun fuel cs x h => by
      obtain ⟨b, hb⟩ := opens_u8 Tryd.underlying5 fuel cs x h
      exact ⟨b, trivial, hb⟩)))
  obtain ⟨p3, c3, l3, e3, k3, kc3, q3, r3⟩ := OpensW.field (F := n + 1) (o := 3) (i := 3) Tryd.underlying29 h hw hF rfl rfl rfl (cC 24 1 (by kernel_rfl))
    (opensW_sl (F := n) (([], none, 0) : ThrR) (f := thrE.enc) (Q := fun x => x.1.length ≤ 140737488351232 ∧ RowB insE w.heap.size w x.2.1 x.1) (sz := 1) (by decide) Tryd.underlying24 (by kernel_rfl) (by kernel_rfl) opensW_thr)
  obtain ⟨b4, e4⟩ := OpensW.field (F := n + 1) (o := 4) (i := 4) Tryd.underlying29 h hw hF rfl rfl rfl cells5 (opensW_of (opens_u8 Tryd.underlying5))
  obtain ⟨⟨c, p4, c4⟩, hk, e5⟩ := OpensW.field (F := n + 1) (o := 5) (i := 5) Tryd.underlying29 h hw hF rfl rfl rfl (cC 27 5 (by kernel_rfl)) (opensW_cnd (n + 1))
  refine ⟨⟨nm, l1, l2, l3.map (·.1), b4, c⟩, ⟨k0, k1, q1, k2, by rw [List.length_map]; exact k3, fun l hl => ?_⟩, p1, c1, p2, c2, p3, c3, p4, c4, ?_, row_of r1, row_of r2, ⟨l3, rfl, row_of r3, fun x hx => (q3 x hx).2⟩, hk, kc1⟩
  · obtain ⟨x, hx, rfl⟩ := List.mem_map.1 hl
    exact (q3 x hx).1
  · have h0 : cs = cs.drop 0 := rfl
    have h9 : cs.drop 10 = [] := List.drop_of_length_le (by omega)
    rw [h0, cut cs 0 1 1 rfl, cut cs 1 1 2 rfl, cut cs 2 1 3 rfl, cut cs 3 1 4 rfl, cut cs 4 1 5 rfl, cut cs 5 5 10 rfl, e0, e1, e2, e3, e4, e5, h9]
    simp [prgCells, cndCells]
theorem opens_geo : Opens enc Tryd.prog w base spare held 31 fun cs => ∃ g : Geo, cs = g.enc := fun fuel cs x h => by
  obtain ⟨xs, m, rfl, rfl, hl, hx, hel⟩ := DataW.trod_struct Tryd.underlying31 h
  rw [cC 31 5 (by kernel_rfl)] at hl
  obtain ⟨b0, e0⟩ := Opens.field (o := 0) (i := 0) hel hx rfl rfl (cC 3 1 (by kernel_rfl)) (opens_int Tryd.underlying3)
  obtain ⟨b1, e1⟩ := Opens.field (o := 1) (i := 1) hel hx rfl rfl (cC 3 1 (by kernel_rfl)) (opens_int Tryd.underlying3)
  obtain ⟨b2, e2⟩ := Opens.field (o := 2) (i := 2) hel hx rfl rfl (cC 3 1 (by kernel_rfl)) (opens_int Tryd.underlying3)
  obtain ⟨b3, e3⟩ := Opens.field (o := 3) (i := 3) hel hx rfl rfl (cC 3 1 (by kernel_rfl)) (opens_int Tryd.underlying3)
  obtain ⟨b4, e4⟩ := Opens.field (o := 4) (i := 4) hel hx rfl rfl (cC 3 1 (by kernel_rfl)) (opens_int Tryd.underlying3)
  refine ⟨⟨b0, b1, b2, b3, b4⟩, ?_⟩
  have h0 : cs = cs.drop 0 := rfl
  have h9 : cs.drop 5 = [] := List.drop_of_length_le (by omega)
  rw [h0, cut cs 0 1 1 rfl, cut cs 1 1 2 rfl, cut cs 2 1 3 rfl, cut cs 3 1 4 rfl, cut cs 4 1 5 rfl, e0, e1, e2, e3, e4, h9]
  rfl
theorem opens_rules : Opens enc Tryd.prog w base spare held 33 fun cs => ∃ m v : UInt8, cs[0]? = some (u8 m) ∧ cs[1]? = some (u8 v) := fun fuel cs x h => by
  obtain ⟨xs, m, rfl, rfl, hl, hx, hel⟩ := DataW.trod_struct Tryd.underlying33 h
  obtain ⟨b0, e0⟩ := Opens.field (o := 0) (i := 0) hel hx rfl rfl cells5 (opens_u8 Tryd.underlying5)
  obtain ⟨b1, e1⟩ := Opens.field (o := 1) (i := 1) hel hx rfl rfl cells5 (opens_u8 Tryd.underlying5)
  refine ⟨b0, b1, ?_, ?_⟩
  · have := congrArg (fun l => l[0]?) e0
    simpa using this
  · have := congrArg (fun l => l[0]?) e1
    simpa using this
theorem opensW_wld : OpensW enc Tryd.prog w base spare held F 44 fun cs => ∃ (p : Prg) (g : Geo) (md : UInt8), WldV w.heap.size w cs p g md := fun n hn cs x h hw => by
  have hF : n ≤ n + 1 := Nat.le_succ n
  have hl : cs.length = 585 := by
    obtain ⟨xs, m, _, _, hl, _, _⟩ := DataW.trod_struct Tryd.underlying44 h
    rw [cC 44 585 (by kernel_rfl)] at hl
    exact hl
  obtain ⟨p, hp⟩ := OpensW.field (F := n + 1) (o := 0) (i := 0) Tryd.underlying44 h hw hF rfl rfl rfl (cC 29 10 (by kernel_rfl)) opensW_prg
  obtain ⟨g, e1⟩ := OpensW.field (F := n + 1) (o := 10) (i := 1) Tryd.underlying44 h hw hF rfl rfl rfl (cC 31 5 (by kernel_rfl)) (opensW_of opens_geo)
  obtain ⟨mode, v, _, e2⟩ := OpensW.field (F := n + 1) (o := 15) (i := 2) Tryd.underlying44 h hw hF rfl rfl rfl (cC 33 5 (by kernel_rfl)) (opensW_of opens_rules)
  refine ⟨p, g, v, (cs.drop 0).take 10, cs.drop 15, ?_, hp, ?_, by rw [List.length_drop]; omega⟩
  · rw [← e1, ← cut cs 10 5 15 rfl, ← cut cs 0 10 10 rfl]; rfl
  · rw [List.getElem?_take, if_pos (by decide)] at e2
    exact e2
theorem open_wldv {a : Array Value} {d : DataW H} {p : List MemPlace} (h : DataW.Trod enc Tryd.prog w base spare held 44 (.agg a) d p) (hw : Wgt Tryd.prog 44 d) : ∃ (p : Prg) (g : Geo) (md : UInt8), WldV w.heap.size w a.toList p g md := by
  obtain ⟨fuel, h⟩ := h
  exact opensW_wld (F := fuel + 1) fuel (Nat.lt_succ_self _) _ _ h hw
end
end Go.Proofs.YthmddpoodknclaaDoor
namespace Go.Proofs.YthmddpoodknclaaDoor
open Go.Vc Go.RowKit Go.Sei
open Go.ChangeShapes Go.WideShapes Go.ChangeAt
set_option linter.unusedVariables false

theorem open_byte {P : Program} {w : World} {r : Reach} {base : Nat} {t : TypeId} {v : Value} (ht : P.underlying t = some (.int .u8)) (h : Value.okWide P w r base t v) : ∃ b : UInt8, v = u8 b := by
  unfold Value.okWide at h
  rw [ht] at h
  cases v with
  | int k n =>
    have h1 : k = .u8 ∧ IntKind.has .u8 n := by
      simp only [Cell.okWide, Cell.ok, ht] at h
      obtain ⟨rfl, h⟩ := h
      exact ⟨rfl, h⟩
    obtain ⟨rfl, h2⟩ := h1
    have h3 : 0 ≤ n ∧ n ≤ 255 := ⟨by have := h2.1; simpa [IntKind.min, IntKind.signed, IntKind.bits] using this, by have := h2.2; simpa [IntKind.max, IntKind.signed, IntKind.bits] using this⟩
    have e : ((UInt8.ofNat n.toNat).toNat : Int) = n := by
      rw [UInt8.toNat_ofNat']; omega
    exact ⟨UInt8.ofNat n.toNat, by rw [u8, e]⟩
  | _ => simp_all [Cell.okWide, Cell.ok]
abbrev seatLaid : List (String × DataW Unit) := [("seisin/geo.bounds", Rows.laid_seisin_geo_bounds), ("seisin/check.needs", Rows.laid_seisin_check_needs)]
theorem globt_of_laid {W : World} (h : laidMetH Tryd.prog seatLaid W) (hsh : W.ShapedOpen Tryd.prog) : GlobT W := by
  have h0 : laidMet Tryd.prog seatLaid W := h
  have h1 := h0.tail
  have bnd : Cells W ⟨1, 0, none⟩ (bndL.map i64) := by
    obtain ⟨ps, ⟨g', t', cs, fuel, p, q, hg', ht', hv, hd, _, _⟩, _⟩ := h0
    obtain rfl := Option.some.inj ((show Tryd.prog.globalNamed "seisin/geo.bounds" = some 1 by kernel_rfl).symm.trans hg')
    obtain rfl := Option.some.inj ((show (Tryd.prog.globals[1]?).map (·.type) = some 175 by kernel_rfl).symm.trans ht')
    obtain ⟨bs, h1, h2, h3⟩ := open_is Tryd.underlying175 Tryd.underlying3 (by kernel_rfl) (by kernel_rfl) hd
    have hbs : bs = bndL := by
      match bs, h1 with
      | [b0, b1, b2, b3, b4], _ =>
        simp only [Rows.laid_seisin_geo_bounds, List.map_cons, List.map_nil, DataW.agg.injEq, List.cons.injEq, DataW.lit.injEq, Lit.int.injEq, true_and, and_true] at h3
        simp only [bndL, List.cons.injEq, and_true]
        obtain ⟨a0, a1, a2, a3, a4⟩ := h3
        exact ⟨a0.symm, a1.symm, a2.symm, a3.symm, a4.symm⟩
    subst hbs
    refine cells_mk fun i v hvv => ?_
    have hc := World.var?_cell hg' hv i
    rw [← hvv, ← h2]
    simpa using hc
  have cls : Cells W ⟨0, 0, none⟩ (needL.map u8) := by
    obtain ⟨ps, ⟨g', t', cs, fuel, p, q, hg', ht', hv, hd, _, _⟩, _⟩ := h1
    obtain rfl := Option.some.inj ((show Tryd.prog.globalNamed "seisin/check.needs" = some 0 by kernel_rfl).symm.trans hg')
    obtain rfl := Option.some.inj ((show (Tryd.prog.globals[0]?).map (·.type) = some 167 by kernel_rfl).symm.trans ht')
    obtain ⟨bs, h1, h2, h3⟩ := open_u8s Tryd.underlying167 Tryd.underlying5 (by kernel_rfl) (by kernel_rfl) hd
    have hbs : bs = needL := by
      match bs, h1 with
      | [b0, b1, b2, b3, b4, b5, b6, b7, b8], _ =>
        simp only [Rows.laid_seisin_check_needs, List.map_cons, List.map_nil, DataW.agg.injEq, List.cons.injEq, DataW.lit.injEq, Lit.int.injEq, true_and, and_true] at h3
        simp only [needL, List.cons.injEq, and_true]
        obtain ⟨a0, a1, a2, a3, a4, a5, a6, a7, a8⟩ := h3
        refine ⟨?_, ?_, ?_, ?_, ?_, ?_, ?_, ?_, ?_⟩ <;> (apply UInt8.toNat_inj.1; simp; omega)
    subst hbs
    refine cells_mk fun i v hvv => ?_
    have hc := World.var?_cell hg' hv i
    rw [← hvv, ← h2]
    simpa using hc
  exact ⟨cls, bnd⟩

def lit1 : DataW Unit → List Value
  | .lit (.int k n) => [.int k n]
  | .lit (.string s) => [.string ⟨s.toArray⟩]
  | _ => []
def lit2 : DataW Unit → List Value
  | .agg ps => ps.flatMap lit1
  | x => lit1 x
def lit3 : DataW Unit → List Value
  | .agg ps => ps.flatMap lit2
  | x => lit1 x
def setG (h : Array Obj) (g : Nat) (cs : List Value) : Array Obj := h.modify g fun
  | .cells _ t frozen => .cells cs.toArray t frozen
  | o => o
def layH (h : Array Obj) : Array Obj :=
  let h1 := setG h 1 (lit3 Rows.laid_seisin_geo_bounds)
  setG h1 0 (lit3 Rows.laid_seisin_check_needs)
noncomputable def laidWorld (os : Os) : World :=
  { World.holding Tryd.prog os ⟨#[], #[], []⟩ with heap := layH (World.holding Tryd.prog os ⟨#[], #[], []⟩).heap }
theorem laidWorld_met (os : Os) (args : Array Value) : laidMetH Tryd.prog seatLaid ((laidWorld os).forCall (fun _ _ => 0) ⟨#[], args, []⟩).memory := by
  show laidMet Tryd.prog seatLaid _
  exact laidMet_of_run' 8 (by kernel_rfl) (by kernel_rfl)
end Go.Proofs.YthmddpoodknclaaDoor
