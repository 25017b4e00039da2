/- Contracts: turn.Perf. Contracts: the law's closure: where a cache goes. Contracts: the lowest bit of a small set. Plain: views turned, noted, told (by evaluation). Contracts: who may share: a view without pairs, or one that holds all. Contracts: the iterator over the places of a small set. Contracts: the iterator over the places of a small set, itself. Contracts: who may share: a view of pairs. Contracts: who may share. Plain: turning twice is turning once. Plain: a program turned stays valid; turned twice is turned once; what fits still fits. Contracts: the law of views. Law23: readings opened: the parts of any reading, and the sizes. Law23: readings opened: worlds. Law23: the condition of a row gives what the walks need of a world; a world that meets it. Law23: readings opened: systems, messages, ints. The condition of a row gives what the walks need of a world; a world that meets it. -/
import Derived.Test.YthmddpoodknclaaDoorZ5
import Derived.Test.YthmddpoodknclaaDoorZ3
import Derived.Test.YthmddpoodknclaaDoorZ4
import Derived.Test.YthmddpoodknclaaDoorRows
import Derived.ProofKit
import Derived.OpenShut
import Derived.LaidLaws
import Derived.Below
import Derived.HandedShaped
import Derived.KernelRfl
import Derived.WalkKit
import Derived.ChangeOld
import Derived.SevenTiedAt
import Derived.LaidHandle
import Derived.Stop.LaidErr
import Derived.Lib.LaidTab
import Derived.SizedLaws
set_option linter.unusedSimpArgs false
namespace Go.Proofs.YthmddpoodknclaaDoor
open Go.Vc Go.RowKit Go.Sei
set_option linter.unusedVariables false

/-- An operation performed. -/
structure PfD where
  c : UInt8
  k : UInt8
  l : UInt8
  a : UInt8
  b : UInt8
  o : UInt8
  n : UInt8
deriving DecidableEq
def PfD.enc (x : PfD) : List Value := [u8 x.c, u8 x.k, u8 x.l, u8 x.a, u8 x.b, u8 x.o, u8 x.n]
def turnPf (n : Nat) (to : List Int) (x : PfD) : PfD := { x with c := nodeU n to x.c }
def zeroPfC : List Value := [u8 0, u8 0, u8 0, u8 0, u8 0, u8 0, u8 0]
theorem tOpN : ∃ G, TyEq Tryd.prog 90 true 4 2 G ∧ ∀ k l a b : UInt8, G [u8 k, u8 l, u8 a, u8 b] := by
  refine ⟨_, .struct (uf Tryd.underlying90).1 (by kernel_rfl) (fun w => Tryd.isAgg90 w) (known_of (by kernel_rfl) (by kernel_rfl)).1 (by kernel_rfl)
    (by rw [(uf Tryd.underlying90).2]; exact .cons (by decide) rfl tU8 (.cons (by decide) rfl tU8 (.cons (by decide) rfl tU8 (.cons (by decide) rfl tU8 .nil)))), fun k l a b => ?_⟩
  exact ⟨⟨_, rfl⟩, ⟨_, rfl⟩, ⟨_, rfl⟩, ⟨_, rfl⟩, trivial⟩
theorem tPerf : ∃ G, TyEq Tryd.prog 92 true 7 3 G ∧ ∀ x : PfD, G x.enc := by
  obtain ⟨G, h1, h2⟩ := tOpN
  refine ⟨_, .struct (uf Tryd.underlying92).1 (by kernel_rfl) (fun w => Tryd.isAgg92 w) (known_of (by kernel_rfl) (by kernel_rfl)).1 (by kernel_rfl)
    (by rw [(uf Tryd.underlying92).2]; exact .cons (by decide) rfl (tU8.up 1) (.cons (by decide) rfl h1 (.cons (by decide) rfl (tU8.up 1) (.cons (by decide) rfl (tU8.up 1) .nil)))), fun x => ?_⟩
  exact ⟨⟨_, rfl⟩, h2 _ _ _ _, ⟨_, rfl⟩, ⟨_, rfl⟩, trivial⟩
theorem neq_perf (x y : Operand) (a : PfD) (w : World) : (do eqGuard .neq 92 x y (.agg a.enc.toArray) (.agg a.enc.toArray); binOp .neq 92 (.agg a.enc.toArray) (.agg a.enc.toArray)).run Tryd.prog w = .ok (.bool false) w := by
  obtain ⟨G, h1, h2⟩ := tPerf
  have := neq_ty h1 9997 rfl (by kernel_rfl) (a := a.enc) (b := a.enc) rfl rfl (h2 a) (h2 a) x y w
  rw [this]
  have e : cdec (a.enc = a.enc) = true := by unfold cdec; simp
  rw [e]; rfl
section
variable {B : Nat} {p : Prg} {g : Geo} {md : UInt8} {vs : List Value} {q : Option Addr} {cap : Nat} {l : List Int} {w : World}
theorem Perf_c {x : PfD} (hB : B ≤ w.heap.size) (hw : WldV B w vs p g md) (hT : GlobT w) (h1 : vs.all Value.oneCell' = true) (hl : SlR Go.Sei.intE w q l) (hf : (turnsL p g && suitsL g md l) = true) :
    Calls Tryd.prog 25 #[.agg vs.toArray, .agg x.enc.toArray, .slice q l.length cap] w fun e w' => e = .returned (.tuple #[.agg (turnPf l.length (toN l l.length) x).enc.toArray, i64 0]) ∧ Below w.heap.size w w' := by
  refine calls_of_M (S := sg 20) (sgOk _) (args := [.agg vs.toArray, .agg x.enc.toArray, .slice q l.length cap]) (.c .p (.s .p (.c .p .p))) Tryd.func25 rfl rfl (Nat.le_of_ble_eq_true rfl) rfl ?_
  obtain ⟨n, hgc, hn1, hn4, hln, hr⟩ := fits_parts hf
  obtain ⟨L, hL⟩ : ∃ L, L = w.heap.size := ⟨_, rfl⟩
  obtain ⟨W1, hW1⟩ : ∃ W1, W1 = w.alloc (.cells vs.toArray 44) := ⟨_, rfl⟩
  obtain ⟨W2, hW2⟩ : ∃ W2, W2 = W1.alloc (.cells x.enc.toArray 92) := ⟨_, rfl⟩
  have s1 : W1.heap.size = L + 1 := by rw [hW1, World.size_alloc, hL]
  have s2 : W2.heap.size = L + 2 := by rw [hW2, World.size_alloc, s1]
  refine ⟨Unit, fun _ => ⟨[(2, .slice q l.length cap), (3, .pointer (some ⟨L, 0, none⟩)), (4, .pointer (some ⟨L + 1, 0, none⟩)), (6, .pointer (some ⟨L + 2, 0, none⟩))], []⟩, fun _ X => X.heap[L]? = some (.cells vs.toArray 44 (0, 0)) ∧
    X.heap[L + 1]? = some (.cells x.enc.toArray 92 (0, 0)) ∧ X.heap[L + 2]? = some (.cells zeroPfC.toArray 92 (0, 0)) ∧ Below w.heap.size w X, ?_, ?_⟩
  · have q1 : some (Value.pointer (some ⟨w.heap.size, 0, none⟩)) = some (Value.pointer (some ⟨L, 0, none⟩)) := by rw [hL]
    have q2 : some (Value.pointer (some ⟨W1.heap.size, 0, none⟩)) = some (Value.pointer (some ⟨L + 1, 0, none⟩)) := by rw [s1]
    have q3 : some (Value.pointer (some ⟨W2.heap.size, 0, none⟩)) = some (Value.pointer (some ⟨L + 2, 0, none⟩)) := by rw [s2]
    rw [hW2, hW1] at q3
    rw [hW1] at q2
    refine ⟨(), ⟨.cons rfl (.cons q1 (.cons q2 (.cons q3 .nil))), rfl⟩, ?_⟩
    have hM : (W2.alloc (.cells zeroPfC.toArray 92)).heap[L]? = some (.cells vs.toArray 44 (0, 0)) ∧ (W2.alloc (.cells zeroPfC.toArray 92)).heap[L + 1]? = some (.cells x.enc.toArray 92 (0, 0)) ∧ (W2.alloc (.cells zeroPfC.toArray 92)).heap[L + 2]? = some (.cells zeroPfC.toArray 92 (0, 0)) ∧ Below w.heap.size w (W2.alloc (.cells zeroPfC.toArray 92)) := by
      refine ⟨hold _ ?_, hold _ ?_, ?_, ?_⟩
      · rw [hW2, hW1, hL]; exact hold _ (hnew w _)
      · rw [hW2, ← s1]; exact hnew W1 _
      · rw [← s2]; exact hnew W2 _
      · rw [hW2, hW1]; exact (((Below.refl _ w).alloc (Nat.le_refl _) _).alloc (by simp) _).alloc (by simp; omega) _
    rw [hW2, hW1] at hM
    exact hM
  clear s1 s2 hW1 hW2 W1 W2
  rintro _ X ⟨f0, f1, f2, hbX⟩
  refine ⟨vs, hw.len, cells_block f0, hlt f0, ?_⟩
  refine Calls.mono (FitsT_c (Nat.le_trans hB hbX.size) (hw.below (hbX.mono hB)) (hT.below hbX) h1 (hl.below hbX) (by omega)) ?_
  rintro e V ⟨rfl, hbV⟩
  rw [hf]
  refine brF ?_
  have hbw : Below w.heap.size w V := hbX.trans (hbV.mono hbX.size)
  have hio : IdxOk n (toN l l.length) := idx_ok hn4 (by omega)
  refine ⟨Unit, fun _ => ⟨[(4, .pointer (some ⟨L + 1, 0, none⟩)), (6, .pointer (some ⟨L + 2, 0, none⟩))], []⟩, fun _ X => X.heap[L + 1]? = some (.cells (turnPf n (toN l l.length) x).enc.toArray 92 (0, 0)) ∧ X.heap[L + 2]? = some (.cells zeroPfC.toArray 92 (0, 0)) ∧ Below w.heap.size w X, ?_, ?_⟩
  · refine DrawE.ord [6] [0, 2, 3, 1, 4, 5, 6] (by kernel_rfl) ?_
    have hbd : Below V.heap.size V V.drew := (Below.refl _ V).drew
    have hbwd : Below w.heap.size w V.drew := hbw.trans (hbd.mono hbw.size)
    have g0 := block_below hbd (block_below hbV f0)
    have g1 := block_below hbd (block_below hbV f1)
    have g2 := block_below hbd (block_below hbV f2)
    have hC : WldC B V.drew L p g md := ⟨Nat.le_trans hB hbwd.size, ⟨vs, g0, hw.below (hbwd.mono hB)⟩, hT.below hbwd⟩
    refine ⟨_, cells_at (cells_block g1) (i := 0) rfl, ?_⟩
    refine Calls.mono (newIndex_c hC hgc hn4 (hl.below hbwd) hr (by omega)) ?_
    rintro e U ⟨rfl, hbU⟩
    refine ⟨hbU, ?_⟩
    refine Calls.mono (node_u hio) ?_
    rintro e Y ⟨rfl, hbY⟩
    refine ⟨hbY, ?_⟩
    have h1' := block_below hbY (block_below hbU g1)
    have h2' := block_below hbY (block_below hbU g2)
    have hbY2 : Below w.heap.size w Y := (hbwd.trans (hbU.mono hbwd.size)).trans (hbY.mono (Nat.le_trans hbwd.size hbU.size))
    refine store_one (ttOk.get 5 _ rfl) h1' (o := 0) (v := u8 (nodeU n (toN l l.length) x.c)) rfl rfl (by show 0 < 7; decide) rfl fun Z fZ gZ sZ => ?_
    refine ⟨(), ⟨.cons rfl (.cons rfl .nil), rfl⟩, fZ, (gZ.block (L + 2) (hlt h2') (by simp)).trans h2', hbY2.trans (below_grown gZ hbY2.size (by omega))⟩
  clear f0 f1 f2 hbX hbV hbw X V
  rintro _ X ⟨f1, f2, hbX⟩
  refine ⟨(turnPf n (toN l l.length) x).enc, rfl, cells_block f1, hlt f1, ?_⟩
  refine store_box (v := .agg (turnPf n (toN l l.length) x).enc.toArray) (ttOk.get 92 _ rfl) f2 rfl rfl rfl ?_
  have g4 := setRow_new (cs' := (Value.agg (turnPf n (toN l l.length) x).enc.toArray).cells) f2
  refine ⟨(turnPf n (toN l l.length) x).enc, rfl, cells_block g4, ?_⟩
  refine ⟨by rw [hln]; rfl, below_setRow hbX (by omega) _⟩
end
end Go.Proofs.YthmddpoodknclaaDoor
namespace Go.Proofs.YthmddpoodknclaaDoor
open Go.Vc Go.RowKit Go.Sei
set_option linter.unusedVariables false

section
variable {B L bp : Nat} {p : Prg} {g : Geo} {md : UInt8} {vs : List Value} {q : Option Addr} {cap : Nat} {l : List Int} {w : World} {c : UInt8}
theorem goes_c (hB : B ≤ w.heap.size) (hc : w.heap[L]? = some (.cells vs.toArray 44 (0, 0))) (hp : w.heap[bp]? = some (.cells #[.slice q l.length cap] 45 (0, 0))) (hw : WldV B w vs p g md) (hT : GlobT w) (h1 : vs.all Value.oneCell' = true) (hl : SlR Go.Sei.intE w q l) (hf : (turnsL p g && suitsL g md l) = true) :
    Calls Tryd.prog 24 #[u8 c, .pointer (some ⟨L, 0, none⟩), .pointer (some ⟨bp, 0, none⟩)] w fun e w' => e = .returned (u8 (nodeU l.length (toN l l.length) c)) ∧ Below w.heap.size w w' := by
  refine calls_of_E (S := sg 17) (sgOk _) (args := [u8 c, .pointer (some ⟨L, 0, none⟩), .pointer (some ⟨bp, 0, none⟩)]) Tryd.func24 rfl rfl (Nat.le_of_ble_eq_true rfl) rfl ?_
  refine ⟨vs, hw.len, cells_block hc, hlt hc, ?_⟩
  refine ⟨(PfD.mk c 0 0 0 0 0 0).enc, rfl, ?_⟩
  refine ⟨_, cells_at (cells_block hp) (i := 0) rfl, ?_⟩
  refine Calls.mono (Perf_c (x := PfD.mk c 0 0 0 0 0 0) hB hw hT h1 hl hf) ?_
  rintro e V ⟨rfl, hbV⟩
  refine store_new (X := V) (v := .agg (turnPf l.length (toN l l.length) (PfD.mk c 0 0 0 0 0 0)).enc.toArray) (ttOk.get 92 _ rfl) rfl rfl rfl fun Y hbY fY sY => ?_
  have fY : Y.heap[V.heap.size]? = some (.cells (turnPf l.length (toN l l.length) (PfD.mk c 0 0 0 0 0 0)).enc.toArray 92 (0, 0)) := fY
  refine ⟨_, cells_at (cells_block fY) (i := 0) rfl, ?_⟩
  exact ⟨rfl, hbV.trans (hbY.mono hbV.size)⟩
end
end Go.Proofs.YthmddpoodknclaaDoor
namespace Go.Proofs.YthmddpoodknclaaDoor
open Go.Vc Go.RowKit Go.Sei
set_option linter.unusedVariables false

/-- The first two places of the table. -/
def TzM (X : World) : Prop := ∃ cs : List Value, Cells X ⟨2, 0, none⟩ (u8 0 :: u8 1 :: cs) ∧ cs.length = 62
theorem tz1_c {w : World} (h : TzM w) : Calls Tryd.prog 79 #[.int .u64 1] w fun e w' => e = .returned (i64 0) ∧ w = w' := by
  refine calls_of_E (S := sg 14) (sgOk _) (args := [.int .u64 1]) Tryd.func79 rfl rfl (Nat.le_of_ble_eq_true rfl) rfl ?_
  obtain ⟨cs, hc, hl⟩ := h
  refine brF ?_
  refine ⟨18446744073709551615, by decide, ?_⟩
  refine ⟨1, (u64_and (a := 1) (b := 18446744073709551615) (by decide) (by decide)).trans rfl, ?_⟩
  refine ⟨285870213051353865, by decide, ?_⟩
  refine ⟨by decide, 0, by decide, ?_⟩
  refine ⟨0, rfl, by decide, ?_⟩
  refine ⟨_, cells_at hc (i := 0) rfl, ?_⟩
  exact ⟨0, by decide, rfl, rfl⟩
theorem tz2_c {w : World} (h : TzM w) : Calls Tryd.prog 79 #[.int .u64 2] w fun e w' => e = .returned (i64 1) ∧ w = w' := by
  refine calls_of_E (S := sg 14) (sgOk _) (args := [.int .u64 2]) Tryd.func79 rfl rfl (Nat.le_of_ble_eq_true rfl) rfl ?_
  obtain ⟨cs, hc, hl⟩ := h
  refine brF ?_
  refine ⟨18446744073709551614, by decide, ?_⟩
  refine ⟨2, (u64_and (a := 2) (b := 18446744073709551614) (by decide) (by decide)).trans rfl, ?_⟩
  refine ⟨571740426102707730, by decide, ?_⟩
  refine ⟨by decide, 1, by decide, ?_⟩
  refine ⟨1, rfl, by decide, ?_⟩
  refine ⟨_, cells_at hc (i := 1) rfl, ?_⟩
  exact ⟨1, by decide, rfl, rfl⟩
theorem tz3_c {w : World} (h : TzM w) : Calls Tryd.prog 79 #[.int .u64 3] w fun e w' => e = .returned (i64 0) ∧ w = w' := by
  refine calls_of_E (S := sg 14) (sgOk _) (args := [.int .u64 3]) Tryd.func79 rfl rfl (Nat.le_of_ble_eq_true rfl) rfl ?_
  obtain ⟨cs, hc, hl⟩ := h
  refine brF ?_
  refine ⟨18446744073709551613, by decide, ?_⟩
  refine ⟨1, (u64_and (a := 3) (b := 18446744073709551613) (by decide) (by decide)).trans rfl, ?_⟩
  refine ⟨285870213051353865, by decide, ?_⟩
  refine ⟨by decide, 0, by decide, ?_⟩
  refine ⟨0, rfl, by decide, ?_⟩
  refine ⟨_, cells_at hc (i := 0) rfl, ?_⟩
  exact ⟨0, by decide, rfl, rfl⟩
end Go.Proofs.YthmddpoodknclaaDoor
namespace Go.Proofs.YthmddpoodknclaaDoor
open Go.Vc Go.RowKit Go.Sei
set_option linter.unusedVariables false

def toldV (kd : UInt8) (mk : Nat) (al : Bool) (n : Nat) : Nat := if al = true then belowN n else if kd = 3 then ((if mk.testBit 0 then 3 else 0) ||| (if mk.testBit 1 then 12 else 0)) &&& belowN n else mk &&& belowN n
/-- A view of these marks, turned by a: right, told as the places go; what is noted later too. -/
def viewB (kd : UInt8) (n : Nat) (a : List Int) (mk : Nat) (al : Bool) : Bool :=
  !rgtV kd mk al n || (
    let to := toN a n
    let t := turnV n (decide (kd = 3)) to kd mk
    decide (t < 16) && (rgtV kd t al n && (List.range n).all fun c =>
      let d := (to.getD c 0).toNat
      let v := noteV kd c mk al
      let x := noteV kd d t al
      decide (d < n) && ((toldV kd mk al n).testBit c == (toldV kd t al n).testBit d) && (decide (v.1 < 16) && (rgtV kd v.1 v.2 n && decide (toldV kd (turnV n (decide (kd = 3)) to kd v.1) v.2 n = toldV kd x.1 x.2 n)))))
def viewsB (kd : UInt8) (n : Nat) : Bool := (grpL n (decide (kd = 3))).all fun a => (List.range 16).all fun mk => viewB kd n a mk false && viewB kd n a mk true
theorem views11 : (viewsB 1 1 && (viewsB 2 1 && viewsB 3 1)) = true := by kernel_rfl
theorem views12 : (viewsB 1 2 && (viewsB 2 2 && viewsB 3 2)) = true := by kernel_rfl
theorem views13 : (viewsB 1 3 && (viewsB 2 3 && viewsB 3 3)) = true := by kernel_rfl
theorem views14 : viewsB 1 4 = true := by kernel_rfl
theorem views24 : viewsB 2 4 = true := by kernel_rfl
theorem views34 : viewsB 3 4 = true := by kernel_rfl
theorem views_ok {kd : UInt8} {n : Nat} (hk : knownB kd = true) (h1 : 1 ≤ n) (h4 : n ≤ 4) : viewsB kd n = true := by
  have a1 := views11
  have a2 := views12
  have a3 := views13
  simp only [Bool.and_eq_true] at a1 a2 a3
  have hk3 : kd = 1 ∨ kd = 2 ∨ kd = 3 := by
    unfold knownB at hk
    simp only [Bool.or_eq_true, decide_eq_true_eq] at hk
    exact hk
  have hn : n = 1 ∨ n = 2 ∨ n = 3 ∨ n = 4 := by omega
  rcases hk3 with rfl | rfl | rfl <;> rcases hn with rfl | rfl | rfl | rfl
  · exact a1.1
  · exact a2.1
  · exact a3.1
  · exact views14
  · exact a1.2.1
  · exact a2.2.1
  · exact a3.2.1
  · exact views24
  · exact a1.2.2
  · exact a2.2.2
  · exact a3.2.2
  · exact views34
/-- What the law of views asks of the marks. -/
structure VwT (kd : UInt8) (n : Nat) (a : List Int) (mk : Nat) (al : Bool) : Prop where
  lt : turnV n (decide (kd = 3)) (toN a n) kd mk < 16
  right : rgtV kd (turnV n (decide (kd = 3)) (toN a n) kd mk) al n = true
  told : ∀ c, c < n → ((toN a n).getD c 0).toNat < n ∧ (toldV kd mk al n).testBit c = (toldV kd (turnV n (decide (kd = 3)) (toN a n) kd mk) al n).testBit ((toN a n).getD c 0).toNat
  note : ∀ c, c < n → (noteV kd c mk al).1 < 16 ∧ rgtV kd (noteV kd c mk al).1 (noteV kd c mk al).2 n = true ∧ toldV kd (turnV n (decide (kd = 3)) (toN a n) kd (noteV kd c mk al).1) (noteV kd c mk al).2 n = toldV kd (noteV kd ((toN a n).getD c 0).toNat (turnV n (decide (kd = 3)) (toN a n) kd mk) al).1 (noteV kd ((toN a n).getD c 0).toNat (turnV n (decide (kd = 3)) (toN a n) kd mk) al).2 n
theorem view_turned {kd : UInt8} {n : Nat} {a : List Int} {mk : Nat} {al : Bool} (hk : knownB kd = true) (h1 : 1 ≤ n) (h4 : n ≤ 4) (ha : a ∈ grpL n (decide (kd = 3))) (hm : mk < 16) (hr : rgtV kd mk al n = true) : VwT kd n a mk al := by
  have h := List.all_eq_true.1 (views_ok hk h1 h4) a ha
  have h := List.all_eq_true.1 h mk (List.mem_range.2 hm)
  rw [Bool.and_eq_true] at h
  have h : viewB kd n a mk al = true := by cases al with
    | false => exact h.1
    | true => exact h.2
  unfold viewB at h
  rw [hr] at h
  simp only [Bool.not_true, Bool.false_or, Bool.and_eq_true, decide_eq_true_eq, List.all_eq_true, List.mem_range, beq_iff_eq] at h
  obtain ⟨h1, h2, h3⟩ := h
  exact ⟨h1, h2, fun c hc => (h3 c hc).1, fun c hc => (h3 c hc).2⟩
theorem right_new {kd : UInt8} {n : Nat} (hk : knownB kd = true) : rgtV kd 0 false n = true := by
  have hk3 : kd = 1 ∨ kd = 2 ∨ kd = 3 := by
    unfold knownB at hk
    simp only [Bool.or_eq_true, decide_eq_true_eq] at hk
    exact hk
  have e : ∀ b, startN 0 b = 0 := fun b => by unfold startN; simp
  unfold rgtV
  rcases hk3 with rfl | rfl | rfl <;> simp [e, ones4]
end Go.Proofs.YthmddpoodknclaaDoor
namespace Go.Proofs.YthmddpoodknclaaDoor
open Go.Vc Go.RowKit Go.Sei
set_option linter.unusedVariables false

section
variable {kd : UInt8} {mk n : Nat} {al : Bool} {w : World}
theorem told1_c (hk : knownB kd = true) (h3 : al = true ∨ ¬ kd = 3) (hm : mk < 16) (h1 : 1 ≤ n) (h4 : n ≤ 4) : Calls Tryd.prog 27 #[.agg (viewC kd mk al).toArray, i64 n] w fun e w' => e = .returned (.int .u64 (toldV kd mk al n : Nat)) ∧ Below w.heap.size w w' := by
  refine calls_of_E (S := sg 45) (sgOk _) (args := [.agg (viewC kd mk al).toArray, i64 n]) Tryd.func27 rfl rfl (Nat.le_of_ble_eq_true rfl) rfl ?_
  have hb0 : Below w.heap.size w (w.alloc (.cells (viewC kd mk al).toArray 63)) := (Below.refl _ w).alloc (Nat.le_refl _) _
  have f0 := hnew w (.cells (viewC kd mk al).toArray 63)
  have hcn : countsB n = true := by unfold countsB; simp; omega
  have hb2 : belowN n < 2 ^ 64 := by
    have h64 : 2 ^ n ≤ 2 ^ 4 := Nat.pow_le_pow_right (by decide) h4
    unfold belowN
    omega
  refine ⟨_, cells_at (cells_block f0) (i := 0) rfl, ?_⟩
  refine Calls.mono known_c ?_
  rintro e _ ⟨rfl, rfl⟩
  rw [hk]
  refine brF ?_
  refine Calls.mono counts_c ?_
  rintro e _ ⟨rfl, rfl⟩
  rw [hcn]
  refine brF ?_
  refine Calls.mono (below_c h4) ?_
  rintro e _ ⟨rfl, rfl⟩
  refine ⟨_, cells_at (cells_block f0) (i := 2) rfl, ?_⟩
  cases al with
  | true =>
    refine brT ?_
    refine ⟨?_, hb0⟩
    unfold toldV
    rw [if_pos rfl]; rfl
  | false =>
    refine brF ?_
    have h3 : ¬ kd = 3 := by
      rcases h3 with h | h
      · cases h
      · exact h
    refine ⟨_, cells_at (cells_block f0) (i := 0) rfl, ?_⟩
    refine And.intro (fun _ => ?_) (fun h => ?_)
    · refine ⟨_, cells_at (cells_block f0) (i := 1) rfl, ?_⟩
      refine ⟨_, u64_and (a := mk) (b := belowN n) (by omega) hb2, ?_⟩
      refine ⟨?_, hb0⟩
      unfold toldV
      rw [if_neg (by decide), if_neg h3]; rfl
    · have h : (!decide ((kd.toNat : Int) = 3)) = false := h
      rw [show decide ((kd.toNat : Int) = 3) = decide (kd = 3) from u8d kd 3, decide_eq_false h3] at h
      cases h
end
end Go.Proofs.YthmddpoodknclaaDoor
namespace Go.Proofs.YthmddpoodknclaaDoor
open Go.Vc Go.RowKit Go.Sei
set_option linter.unusedVariables false

theorem elements_c {s : Nat} {w : World} : Calls Tryd.prog 54 #[.int .u64 (s : Nat)] w fun e w' => e = .returned (.func (.func 78) #[] #[.pointer (some ⟨w.heap.size, 0, none⟩)]) ∧ w' = w.alloc (.cells #[.int .u64 (s : Nat)] 61) := by
  refine calls_of_E (S := sg 4) (sgOk _) (args := [.int .u64 (s : Nat)]) Tryd.func54 rfl rfl (Nat.le_of_ble_eq_true rfl) rfl ?_
  exact ⟨rfl, rfl⟩
def elL (s : Nat) : List UInt8 := if s = 0 then [] else if s = 1 then [0] else if s = 2 then [1] else [0, 1]
def tzN (s : Nat) : UInt8 := if s = 2 then 1 else 0
def restN (s : Nat) : Nat := s &&& (s - 1)
def StE (pre : List UInt8) (vs : List Value) (W : World) : Prop := ∃ c, pre.getLast? = some c ∧ vs = [u8 c]
theorem tz_c {s : Nat} {w : World} (h : TzM w) (h1 : 1 ≤ s) (h3 : s ≤ 3) : Calls Tryd.prog 79 #[.int .u64 (s : Nat)] w fun e w' => e = .returned (i64 (tzN s).toNat) ∧ w = w' := by
  have hs : s = 1 ∨ s = 2 ∨ s = 3 := by omega
  rcases hs with rfl | rfl | rfl
  · exact tz1_c h
  · exact tz2_c h
  · exact tz3_c h
theorem el_step {s : Nat} (h1 : 1 ≤ s) (h3 : s ≤ 3) : elL s = tzN s :: elL (restN s) ∧ restN s < s := by
  have hs : s = 1 ∨ s = 2 ∨ s = 3 := by omega
  rcases hs with rfl | rfl | rfl <;> exact ⟨rfl, by decide⟩
end Go.Proofs.YthmddpoodknclaaDoor
namespace Go.Proofs.YthmddpoodknclaaDoor
open Go.Vc Go.RowKit Go.Sei
set_option linter.unusedVariables false

theorem tz_same {X Y : World} (h : TzM X) (hs : Y.heap[2]? = X.heap[2]?) : TzM Y := by
  obtain ⟨cs, h1, h2⟩ := h
  exact ⟨cs, cells_same hs h1, h2⟩
theorem elements1_c {bx s : Nat} {W0 : World} (hbx : W0.heap[bx]? = some (.cells #[.int .u64 (s : Nat)] 61 (0, 0))) (hs : s ≤ 3) (hT : TzM W0) (hgs : 2 < W0.heap.size) (hne : 2 ≠ bx) :
    IterO Tryd.prog 78 [.pointer (some ⟨bx, 0, none⟩)] (elL s) W0 (fun k => k = 2) (fun k => k = bx) StE := by
  intro yl Fp J Jx W hsz hrd hrf hJ hJx hy h0
  have hbW : W.heap[bx]? = some (.cells #[.int .u64 (s : Nat)] 61 (0, 0)) := (hrd bx (.inr rfl)).trans hbx
  have hTW : TzM W := tz_same hT (hrd _ (.inl rfl))
  have hgf : ¬ Fp W 2 := hrf _ rfl
  refine calls_of_E (S := sg 15) (sgOk _) (args := [.func (.yield yl) #[] #[], .pointer (some ⟨bx, 0, none⟩)]) Tryd.func78 rfl rfl (Nat.le_of_ble_eq_true rfl) rfl ?_
  refine ⟨List UInt8 × Nat, fun q => ⟨[(0, .func (.yield yl) #[] #[]), (1, .pointer (some ⟨bx, 0, none⟩))], []⟩,
    fun q X => (J q.1 X ∧ W.heap.size ≤ X.heap.size) ∧ elL s = q.1 ++ elL q.2 ∧ q.2 ≤ 3 ∧ X.heap[bx]? = some (.cells #[.int .u64 (q.2 : Nat)] 61 (0, 0)) ∧ TzM X ∧ ¬ Fp X 2, fun q => q.2, ([], s),
    ⟨.cons rfl (.cons rfl .nil), rfl⟩, ⟨⟨h0, Nat.le_refl _⟩, rfl, hs, hbW, hTW, hgf⟩, ?_⟩
  clear hbW hTW hgf h0
  rintro ⟨pre, r⟩ X ⟨⟨hI, hIs⟩, hxs, hr, hX, hTX, hgX⟩
  dsimp only at hI hxs hr hX ⊢
  refine ⟨_, cells_at (cells_block hX) (i := 0) rfl, ?_⟩
  refine And.intro (fun hc => ?_) (fun hc => ?_)
  · have hc : (!decide ((r : Int) = 0)) = true := hc
    have hc : ¬ (r : Int) = 0 := by simpa using hc
    have hr1 : 1 ≤ r := by omega
    obtain ⟨e1, e2⟩ := el_step hr1 hr
    refine ⟨_, cells_at (cells_block hX) (i := 0) rfl, ?_⟩
    refine Calls.mono (tz_c hTX hr1 hr) ?_
    rintro e _ ⟨rfl, rfl⟩
    refine ⟨((tzN r).toNat : Int), wrap_u8 (by have := (tzN r).toNat_lt; omega), ?_⟩
    have hpre : (pre ++ [tzN r]) <+: elL s := ⟨elL (restN r), by rw [hxs, e1]; simp⟩
    refine YieldR.mono (hy pre (tzN r) [u8 (tzN r)] X hI ⟨tzN r, by simp, rfl⟩ hpre) ?_
    rintro v V (⟨rfl, hJV, hKV⟩ | ⟨rfl, hJV⟩)
    · refine brF ?_
      have hbf : ¬ Fp X bx := fun h => (hJ.lt _ _ _ hI h).2 rfl
      have fV : V.heap[bx]? = some (.cells #[.int .u64 (r : Nat)] 61 (0, 0)) := (hKV.same bx (hlt hX) hbf).trans hX
      have hXs := hKV.size
      have hgl : 2 < X.heap.size := by omega
      have hTV : TzM V := tz_same hTX (hKV.same _ hgl hgX)
      have hgV : ¬ Fp V 2 := fun h => by
        rcases hKV.fp _ h with h3 | h3
        · exact hgX h3
        · omega
      refine ⟨_, cells_at (cells_block fV) (i := 0) rfl, ?_⟩
      refine ⟨_, cells_at (cells_block fV) (i := 0) rfl, ?_⟩
      refine ⟨((r - 1 : Nat) : Int), (wrap_u64 (a := (r : Int) - 1) (by omega)).trans (by omega), ?_⟩
      refine ⟨_, u64_and (a := r) (b := r - 1) (by omega) (by omega), ?_⟩
      refine store_one (ttOk.get 61 _ rfl) fV (o := 0) (v := .int .u64 ((restN r : Nat) : Int)) rfl rfl (by show 0 < 1; decide) rfl fun Y fY gY sY => ?_
      have hst : StepO W.heap.size (fun k => k = bx) Fp V Y := ⟨gY.os, gY.tape, gY.output, gY.size, fun k hk hfk => gY.block k hk (fun e => by
        have e : bx = k := (by simpa using e : k = bx).symm
        subst e
        rcases hfk with hfk | hfk
        · exact hfk.2 rfl
        · exact (hJ.lt _ _ _ hJV hfk).2 rfl)⟩
      obtain ⟨j1, j2⟩ := hJ.step _ _ _ hJV hst
      refine ⟨(pre ++ [tzN r], restN r), ⟨.cons rfl (.cons rfl .nil), rfl⟩, ⟨⟨j1, by have := gY.size; omega⟩, by rw [hxs, e1]; simp, by show restN r ≤ 3; omega, fY, tz_same hTV (gY.block _ (by omega) (by simpa using hne)), fun h => hgV (j2 _ h)⟩, e2⟩
    · refine brT ?_
      exact ⟨⟨_, rfl⟩, .inr ⟨_, hpre, hJV⟩⟩
  · have hc : (!decide ((r : Int) = 0)) = false := hc
    have hc : (r : Int) = 0 := by simpa using hc
    obtain rfl : r = 0 := by omega
    refine ⟨⟨_, rfl⟩, .inl ?_⟩
    rw [hxs]
    show J (pre ++ []) X
    rw [List.append_nil]; exact hI
end Go.Proofs.YthmddpoodknclaaDoor
namespace Go.Proofs.YthmddpoodknclaaDoor
open Go.Vc Go.RowKit Go.Sei
set_option linter.unusedVariables false

def accN (l : List UInt8) : Nat := l.foldl (fun r c => r ||| 3 * 2 ^ (2 * c.toNat)) 0
def JT (w : World) (L : Nat) (pre : List UInt8) (X : World) : Prop := Below w.heap.size w X ∧ X.heap[L]? = some (.cells #[.int .u64 ((accN pre : Nat) : Int)] 61 (0, 0))
theorem JT.iter {w : World} {L bx n0 : Nat} (hw : w.heap.size ≤ L) (hL : L < n0) (hbx : w.heap.size ≤ bx) (hne : L ≠ bx) : IterJO n0 (fun k => k = bx) (fun _ k => k = L) (JT w L) := by
  refine ⟨fun pre A C ⟨hb, hf⟩ hs => ?_, fun pre A k ⟨hb, hf⟩ hk => ⟨by rw [hk]; exact hlt hf, fun h => hne (hk.symm.trans h)⟩⟩
  refine ⟨⟨⟨hs.os.trans hb.os, hs.tape.trans hb.tape, hs.output.trans hb.output, Nat.le_trans hb.size hs.size, fun k hk => (hs.same k (Nat.lt_of_lt_of_le hk hb.size) (.inl ⟨by omega, fun h => by omega⟩)).trans (hb.block k hk)⟩, (hs.same L (hlt hf) (.inr rfl)).trans hf⟩, fun k h => h⟩
theorem acc_told {mk n : Nat} (hm : mk < 16) (h4 : n ≤ 4) : ((accN (elL (mk &&& 3))) &&& belowN n) = toldV 3 mk false n := by
  have h : (List.range 16).all (fun mk => (List.range 5).all fun n => decide (((accN (elL (mk &&& 3))) &&& belowN n) = toldV 3 mk false n)) = true := by kernel_rfl
  have h := List.all_eq_true.1 h mk (List.mem_range.2 hm)
  have h := List.all_eq_true.1 h n (List.mem_range.2 (by omega))
  exact of_decide_eq_true h
theorem acc_from : ∀ (l : List UInt8) (r : Nat), r < 16 → (∀ c ∈ l, c = 0 ∨ c = 1) → l.foldl (fun r c => r ||| 3 * 2 ^ (2 * c.toNat)) r < 16
  | [], r, hr, _ => hr
  | x :: l, r, hr, h => by
    rw [List.foldl_cons]
    refine acc_from l _ (or_lt16 hr ?_) fun c hc => h c (List.mem_cons_of_mem _ hc)
    rcases h x List.mem_cons_self with rfl | rfl <;> decide
theorem acc_lt {l : List UInt8} (h : ∀ c ∈ l, c = 0 ∨ c = 1) : accN l < 16 := acc_from l 0 (by decide) h
section
variable {mk n : Nat} {w : World}
theorem told3_c (hm : mk < 16) (h1 : 1 ≤ n) (h4 : n ≤ 4) (hT : TzM w) : Calls Tryd.prog 27 #[.agg (viewC 3 mk false).toArray, i64 n] w fun e w' => e = .returned (.int .u64 (toldV 3 mk false n : Nat)) ∧ Below w.heap.size w w' := by
  refine calls_of_E (S := sg 45) (sgOk _) (args := [.agg (viewC 3 mk false).toArray, i64 n]) Tryd.func27 rfl rfl (Nat.le_of_ble_eq_true rfl) rfl ?_
  have hb0 : Below w.heap.size w (w.alloc (.cells (viewC 3 mk false).toArray 63)) := (Below.refl _ w).alloc (Nat.le_refl _) _
  have f0 := hnew w (.cells (viewC 3 mk false).toArray 63)
  have hcn : countsB n = true := by unfold countsB; simp; omega
  have hb2 : belowN n < 2 ^ 64 := by
    have h64 : 2 ^ n ≤ 2 ^ 4 := Nat.pow_le_pow_right (by decide) h4
    unfold belowN
    omega
  refine ⟨_, cells_at (cells_block f0) (i := 0) rfl, ?_⟩
  refine Calls.mono known_c ?_
  rintro e _ ⟨rfl, rfl⟩
  rw [show knownB 3 = true from rfl]
  refine brF ?_
  refine Calls.mono counts_c ?_
  rintro e _ ⟨rfl, rfl⟩
  rw [hcn]
  refine brF ?_
  refine Calls.mono (below_c h4) ?_
  rintro e _ ⟨rfl, rfl⟩
  refine ⟨_, cells_at (cells_block f0) (i := 2) rfl, ?_⟩
  refine brF ?_
  refine ⟨_, cells_at (cells_block f0) (i := 0) rfl, ?_⟩
  refine brF ?_
  refine store_new (X := w.alloc (.cells (viewC 3 mk false).toArray 63)) (v := .int .u64 0) (ttOk.get 61 _ rfl) rfl rfl rfl fun Y hbY fY sY => ?_
  obtain ⟨L, hL⟩ : ∃ L, L = w.heap.size + 1 := ⟨_, rfl⟩
  have fY : Y.heap[L]? = some (.cells #[.int .u64 0] 61 (0, 0)) := by rw [hL]; have := fY; rw [World.size_alloc] at this; exact this
  have hLe : (w.alloc (.cells (viewC 3 mk false).toArray 63)).heap.size = L := by rw [World.size_alloc, hL]
  have sY : Y.heap.size = L + 1 := by rw [sY, World.size_alloc, hL]
  have hbw : Below w.heap.size w Y := hb0.trans (hbY.mono hb0.size)
  have gY := block_below hbY f0
  have hbd : Below Y.heap.size Y Y.drew := (Below.refl _ Y).drew
  refine DrawE.ord [] [0, 1, 2, 3, 4] (by kernel_rfl) ?_
  refine ⟨_, cells_at (cells_block (block_below hbd gY)) (i := 1) rfl, ?_⟩
  refine Calls.mono (below_c (n := 2) (by decide)) ?_
  rintro e _ ⟨rfl, rfl⟩
  refine ⟨Below.refl _ _, ?_⟩
  refine ⟨((mk &&& 3 : Nat) : Int), u64_and (a := mk) (b := 3) (by omega) (by decide), ?_⟩
  refine Calls.mono (elements_c (s := mk &&& 3)) ?_
  rintro e W1 ⟨rfl, hW1⟩
  have hbW1 : Below Y.drew.heap.size Y.drew W1 := by rw [hW1]; exact (Below.refl _ _).alloc (Nat.le_refl _) _
  refine ⟨hbW1, ?_⟩
  have sYd : Y.drew.heap.size = L + 1 := sY
  have sW1 : W1.heap.size = L + 2 := by rw [hW1, World.size_alloc, sYd]
  have fbx : W1.heap[L + 1]? = some (.cells #[.int .u64 ((mk &&& 3 : Nat) : Int)] 61 (0, 0)) := by rw [hW1, ← sYd]; exact hnew Y.drew _
  have fL : W1.heap[L]? = some (.cells #[.int .u64 0] 61 (0, 0)) := block_below hbW1 (block_below hbd fY)
  have hwd : Below w.heap.size w Y.drew := hbw.trans (hbd.mono hbw.size)
  have hwW : Below w.heap.size w W1 := hwd.trans (hbW1.mono hwd.size)
  have hgb : 2 < w.heap.size := by
    obtain ⟨cs, hc, _⟩ := id hT
    exact World.block_lt_of_cell? w _ (cells_head hc)
  have hTW : TzM W1 := tz_same hT (hwW.block _ hgb)
  have hm3 : mk &&& 3 ≤ 3 := Nat.and_le_right
  have hsv : W1.heap[w.heap.size]? = some (.cells (viewC 3 mk false).toArray 63 (0, 0)) := block_below hbW1 (block_below hbd gY)
  rw [sYd]
  refine rangeL (sgOk _) rfl (lb := #[.pointer (some ⟨L + 1, 0, none⟩)]) rfl rfl (elements1_c fbx hm3 hTW (by omega) (by omega)) (Nat.le_refl _) (fun k hk => ⟨by rcases hk with rfl | rfl <;> omega, rfl⟩) (fun pre vs W ⟨c, _, h⟩ => by rw [h]; rfl) (by decide)
    (fun _ k => k = L) (JT w L) (fun _ _ _ => False) (fun k hk h => by omega) (JT.iter (by omega) (by omega) (by omega) (by omega)) (fun ex => ⟨fun _ _ _ h => h.elim, fun _ _ _ h => h.elim⟩) ⟨hwW, fL⟩ ?_ ?_ ?_
  · rintro yl pre x vs W hyl hpre hJ ⟨x', hx', rfl⟩ hfy ⟨lo, hlo⟩
    have hx' : x = x' := by simpa using hx'
    subst hx'
    refine ⟨rfl, ⟨rfl, rfl, rfl, Nat.le_refl _, fun _ _ _ => rfl, fun k h => .inl h⟩, hJ, ?_⟩
    rintro o W2 hW2 ⟨hbV2, f2⟩ hF2
    have hx2 : ∀ c ∈ elL (mk &&& 3), c = 0 ∨ c = 1 := fun c hc => by
      unfold elL at hc
      split at hc
      · cases hc
      split at hc
      · exact .inl (by simpa using hc)
      split at hc
      · exact .inr (by simpa using hc)
      · simpa using hc
    have hpl : accN pre < 16 := acc_lt fun c hc => hx2 c (hpre.subset (by simp [hc]))
    have hx01 := hx2 x (hpre.subset (by simp))
    have hLn : L < W2.heap.size := hlt f2
    have e1 : accN (pre ++ [x]) = accN pre ||| 3 * 2 ^ (2 * x.toNat) := by unfold accN; rw [List.foldl_append]; rfl
    have f2' : W2.heap[(w.alloc (.cells (viewC 3 mk false).toArray 63)).heap.size]? = some (.cells #[.int .u64 ((accN pre : Nat) : Int)] 61 (0, 0)) := by rw [hLe]; exact f2
    refine ⟨_, cells_at (cells_block f2') (i := 0) rfl, ?_⟩
    have sh : ∃ t : Nat, IntKind.u64.wrap ((3 : Int) * 2 ^ (min (Int.toNat ((2 * x.toNat : Nat) : Int)) IntKind.u64.bits)) = ((t : Nat) : Int) ∧ t = 3 * 2 ^ (2 * x.toNat) ∧ t < 16 := by
      rcases hx01 with rfl | rfl
      · exact ⟨3, by decide, rfl, by decide⟩
      · exact ⟨12, by decide, rfl, by decide⟩
    obtain ⟨t, ht1, ht2, ht3⟩ := sh
    have hx1 : x.toNat ≤ 1 := by rcases hx01 with rfl | rfl <;> decide
    refine ⟨((2 * x.toNat : Nat) : Int), (wrap_u8 (by omega)).trans (by omega), ?_⟩
    refine ⟨Int.natCast_nonneg _, ((t : Nat) : Int), ht1, ?_⟩
    refine ⟨_, u64_or (a := accN pre) (b := t) (by omega) (by omega), ?_⟩
    refine store_one (ttOk.get 61 _ rfl) f2' (o := 0) (v := .int .u64 ((accN pre ||| t : Nat) : Int)) rfl rfl (by show 0 < 1; decide) rfl fun Z fZ gZ sZ => ?_
    rw [hLe] at fZ gZ
    refine And.intro ⟨hbV2.trans (below_grown gZ hbV2.size (by omega)), ?_⟩ ⟨gZ.os, gZ.tape, gZ.output, gZ.size, fun k hk hf => gZ.block k hk (by simpa using hf), fun k h => .inl h⟩
    rw [e1, ← ht2]; exact fZ
  · intro D W hD hfD ⟨hbW, fW⟩ hdef
    have hpl : accN (elL (mk &&& 3)) < 16 := acc_lt fun c hc => by
      unfold elL at hc
      split at hc
      · cases hc
      split at hc
      · exact .inl (by simpa using hc)
      split at hc
      · exact .inr (by simpa using hc)
      · simpa using hc
    have fW' : W.heap[(w.alloc (.cells (viewC 3 mk false).toArray 63)).heap.size]? = some (.cells #[.int .u64 ((accN (elL (mk &&& 3)) : Nat) : Int)] 61 (0, 0)) := by rw [hLe]; exact fW
    refine ⟨_, cells_at (cells_block fW') (i := 0) rfl, ?_⟩
    refine ⟨_, u64_and (a := accN (elL (mk &&& 3))) (b := belowN n) (by omega) hb2, ?_⟩
    refine ⟨_, rfl, hdef, ?_⟩
    refine ⟨?_, below_put hbW (by omega) _⟩
    rw [← acc_told hm h4]; rfl
  · rintro D ex pre W hD hfD hpre h
    exact h.elim
end
end Go.Proofs.YthmddpoodknclaaDoor
namespace Go.Proofs.YthmddpoodknclaaDoor
open Go.Vc Go.RowKit Go.Sei
set_option linter.unusedVariables false

theorem Told_c {kd : UInt8} {mk n : Nat} {al : Bool} {w : World} (hk : knownB kd = true) (hm : mk < 16) (h1 : 1 ≤ n) (h4 : n ≤ 4) (hT : TzM w) : Calls Tryd.prog 27 #[.agg (viewC kd mk al).toArray, i64 n] w fun e w' => e = .returned (.int .u64 (toldV kd mk al n : Nat)) ∧ Below w.heap.size w w' := by
  cases al with
  | true => exact told1_c hk (.inl rfl) hm h1 h4
  | false =>
    by_cases h3 : kd = 3
    · subst h3
      exact told3_c hm h1 h4 hT
    · exact told1_c hk (.inr h3) hm h1 h4
theorem TzM.below {X Y : World} (h : TzM X) (hb : Below X.heap.size X Y) : TzM Y := by
  obtain ⟨cs, h1, h2⟩ := h
  exact ⟨cs, cells_below hb h1, h2⟩
end Go.Proofs.YthmddpoodknclaaDoor
namespace Go.Proofs.YthmddpoodknclaaDoor
open Go.Vc Go.RowKit Go.Sei
set_option linter.unusedVariables false

def halfA (a : List Int) : List Int := [a.getD 0 0 / 2, a.getD 2 0 / 2]
def invB (n : Nat) (a : List Int) : Bool := (List.range n).all fun k => decide (0 ≤ a.getD k 0) && (decide (a.getD k 0 < n) && (decide (0 ≤ (toN a n).getD k 0) && (decide ((toN a n).getD k 0 < n) && (decide ((toN a n).getD (a.getD k 0).toNat 0 = k) && (decide (a.getD ((toN a n).getD k 0).toNat 0 = k) && decide ((backL a).getD k 0 = (toN a n).getD k 0))))))
def invOk (n : Nat) (m : Bool) : Bool := (grpL n m).all (invB n)
def hinvB (n : Nat) (a : List Int) : Bool := (List.range ((n + 1) / 2)).all fun k => decide (0 ≤ (halfA a).getD k 0) && (decide ((halfA a).getD k 0 < ((n + 1) / 2 : Nat)) && (decide (0 ≤ (halfT (toN a n)).getD k 0) && (decide ((halfT (toN a n)).getD k 0 < ((n + 1) / 2 : Nat)) && (decide ((halfT (toN a n)).getD ((halfA a).getD k 0).toNat 0 = k) && decide ((halfA a).getD ((halfT (toN a n)).getD k 0).toNat 0 = k)))))
def hinvOk (n : Nat) : Bool := (grpL n true).all fun a => hinvB n a && (grpL n true).all fun b => (List.range ((n + 1) / 2)).all fun k => decide ((halfA (pickL 0 a b)).getD k 0 = (halfA a).getD ((halfA b).getD k 0).toNat 0)
theorem inv1 : (invOk 1 false && (invOk 1 true && hinvOk 1)) = true := by kernel_rfl
theorem inv2 : (invOk 2 false && (invOk 2 true && hinvOk 2)) = true := by kernel_rfl
theorem inv3 : (invOk 3 false && (invOk 3 true && hinvOk 3)) = true := by kernel_rfl
theorem inv4 : (invOk 4 false && (invOk 4 true && hinvOk 4)) = true := by kernel_rfl
theorem inv_ok {n : Nat} (m : Bool) (h1 : 1 ≤ n) (h4 : n ≤ 4) : invOk n m = true ∧ hinvOk n = true := by
  have hc : n = 1 ∨ n = 2 ∨ n = 3 ∨ n = 4 := by omega
  have h := inv1
  have h2 := inv2
  have h3 := inv3
  have h5 := inv4
  simp only [Bool.and_eq_true] at h h2 h3 h5
  rcases hc with rfl | rfl | rfl | rfl <;> cases m
  · exact ⟨h.1, h.2.2⟩
  · exact ⟨h.2.1, h.2.2⟩
  · exact ⟨h2.1, h2.2.2⟩
  · exact ⟨h2.2.1, h2.2.2⟩
  · exact ⟨h3.1, h3.2.2⟩
  · exact ⟨h3.2.1, h3.2.2⟩
  · exact ⟨h5.1, h5.2.2⟩
  · exact ⟨h5.2.1, h5.2.2⟩
/-- A list of places and its inverse. -/
structure Inv (n : Nat) (a t : List Int) : Prop where
  r : ∀ k, k < n → 0 ≤ a.getD k 0 ∧ a.getD k 0 < n
  tr : ∀ k, k < n → 0 ≤ t.getD k 0 ∧ t.getD k 0 < n
  ta : ∀ k, k < n → t.getD (a.getD k 0).toNat 0 = k
  at_ : ∀ k, k < n → a.getD (t.getD k 0).toNat 0 = k
theorem Inv.comp {n : Nat} {a b c ta tb tc : List Int} (ha : Inv n a ta) (hb : Inv n b tb) (hc : Inv n c tc) (h : ∀ k, k < n → c.getD k 0 = a.getD (b.getD k 0).toNat 0) : ∀ k, k < n → tb.getD (ta.getD k 0).toNat 0 = tc.getD k 0 := fun k hk => by
  have h1 := ha.tr k hk
  have h2 := hb.tr (ta.getD k 0).toNat (by omega)
  have h3 := h (tb.getD (ta.getD k 0).toNat 0).toNat (by omega)
  rw [hb.at_ _ (by omega), Int.toNat_natCast, ha.at_ k hk] at h3
  have h4 := hc.ta (tb.getD (ta.getD k 0).toNat 0).toNat (by omega)
  rw [h3, Int.toNat_natCast] at h4
  omega
section
variable {n : Nat} {m : Bool} {a b : List Int} (h1 : 1 ≤ n) (h4 : n ≤ 4)
include h1 h4
theorem inv_of (ha : a ∈ grpL n m) : Inv n a (toN a n) ∧ ∀ k, k < n → (backL a).getD k 0 = (toN a n).getD k 0 := by
  have h := List.all_eq_true.1 (inv_ok m h1 h4).1 a ha
  unfold invB at h
  simp only [List.all_eq_true, Bool.and_eq_true, decide_eq_true_eq, List.mem_range] at h
  exact ⟨⟨fun k hk => ⟨(h k hk).1, (h k hk).2.1⟩, fun k hk => ⟨(h k hk).2.2.1, (h k hk).2.2.2.1⟩, fun k hk => (h k hk).2.2.2.2.1, fun k hk => (h k hk).2.2.2.2.2.1⟩, fun k hk => (h k hk).2.2.2.2.2.2⟩
theorem hinv_of (ha : a ∈ grpL n true) : Inv ((n + 1) / 2) (halfA a) (halfT (toN a n)) := by
  have h := List.all_eq_true.1 (inv_ok true h1 h4).2 a ha
  unfold hinvB at h
  simp only [List.all_eq_true, Bool.and_eq_true, decide_eq_true_eq, List.mem_range] at h
  exact ⟨fun k hk => ⟨(h.1 k hk).1, (h.1 k hk).2.1⟩, fun k hk => ⟨(h.1 k hk).2.2.1, (h.1 k hk).2.2.2.1⟩, fun k hk => (h.1 k hk).2.2.2.2.1, fun k hk => (h.1 k hk).2.2.2.2.2⟩
theorem hcomp_of (ha : a ∈ grpL n true) (hb : b ∈ grpL n true) : ∀ k, k < (n + 1) / 2 → (halfA (pickL 0 a b)).getD k 0 = (halfA a).getD ((halfA b).getD k 0).toNat 0 := by
  have h := List.all_eq_true.1 (inv_ok true h1 h4).2 a ha
  simp only [List.all_eq_true, Bool.and_eq_true, decide_eq_true_eq, List.mem_range] at h
  exact fun k hk => h.2 b hb k hk
end
/-! ### marks -/
theorem and_pow {s k : Nat} : s &&& 2 ^ k = 0 ↔ s.testBit k = false := by
  constructor
  · intro h
    have := congrArg (fun z => z.testBit k) h
    simpa [Nat.testBit_and, Nat.testBit_two_pow_self] using this
  · intro h
    apply Nat.eq_of_testBit_eq
    intro i
    rw [Nat.testBit_and, Nat.testBit_two_pow, Nat.zero_testBit]
    by_cases e : k = i
    · subst e; rw [h]; rfl
    · simp [e]
theorem startN_bit {s bits : Nat} (hs : s < 2 ^ 64) (hb : bits ≤ 64) (i : Nat) : (startN s bits).testBit i = (s.testBit i && !decide (i < bits)) := by
  unfold startN
  rw [BitVec.testBit_toNat, BitVec.getLsbD_and, BitVec.getLsbD_not, BitVec.ofInt_natCast, BitVec.ofInt_natCast, BitVec.getLsbD_ofNat, BitVec.getLsbD_ofNat, Nat.testBit_two_pow_sub_one]
  by_cases h : i < 64
  · simp [h]
  · have h2 : s.testBit i = false := Nat.testBit_lt_two_pow (Nat.lt_of_lt_of_le hs (Nat.pow_le_pow_right (by decide) (by omega)))
    rw [h2]; simp
theorem movedN_bit {s bits : Nat} {u t : List Int} (hs : s < 2 ^ 64) (hb : bits ≤ 64) (h : Inv bits u t) : ∀ k, k ≤ bits → ∀ i, (movedN s bits t k).testBit i = if i < bits then (s.testBit (u.getD i 0).toNat && decide ((u.getD i 0).toNat < k)) else s.testBit i
  | 0, _, i => by
    show (startN s bits).testBit i = _
    rw [startN_bit hs hb]
    by_cases hi : i < bits
    · rw [if_pos hi]; simp [hi]
    · rw [if_neg hi]; simp [hi]
  | k + 1, hk, i => by
    have ih := movedN_bit hs hb h k (by omega) i
    rw [movedN_succ]
    have htk := h.tr k (by omega)
    have key : i < bits → ((t.getD k 0).toNat = i ↔ (u.getD i 0).toNat = k) := fun hi => by
      constructor
      · intro e
        have := h.at_ k (by omega)
        rw [e] at this
        omega
      · intro e
        have := h.ta i hi
        have h2 := h.r i hi
        rw [e] at this
        omega
    split
    · rename_i h0
      have hf := and_pow.1 h0
      rw [ih]
      by_cases hi : i < bits
      · rw [if_pos hi, if_pos hi]
        by_cases e : (u.getD i 0).toNat = k
        · rw [e, hf]; rfl
        · have : decide ((u.getD i 0).toNat < k) = decide ((u.getD i 0).toNat < k + 1) := by rw [decide_eq_decide]; omega
          rw [this]
      · rw [if_neg hi, if_neg hi]
    · rename_i h0
      have hf : s.testBit k = true := by
        cases hb2 : s.testBit k with
        | true => rfl
        | false => exact absurd (and_pow.2 hb2) h0
      rw [Nat.testBit_or, Nat.testBit_two_pow, ih]
      by_cases hi : i < bits
      · rw [if_pos hi, if_pos hi]
        by_cases e : (u.getD i 0).toNat = k
        · rw [decide_eq_true ((key hi).2 e), e, hf]; simp
        · rw [decide_eq_false (fun h => e ((key hi).1 h)), Bool.or_false]
          have : decide ((u.getD i 0).toNat < k) = decide ((u.getD i 0).toNat < k + 1) := by rw [decide_eq_decide]; omega
          rw [this]
      · rw [if_neg hi, if_neg hi, decide_eq_false (by omega), Bool.or_false]
theorem movedN_lt2 {s bits : Nat} {u t : List Int} (hs : s < 2 ^ 64) (hb : bits ≤ 4) (h : Inv bits u t) : movedN s bits t bits < 2 ^ 64 := by
  apply Nat.lt_pow_two_of_testBit
  intro i hi
  rw [movedN_bit hs (by omega) h bits (Nat.le_refl _), if_neg (by omega)]
  exact Nat.testBit_lt_two_pow (Nat.lt_of_lt_of_le hs (Nat.pow_le_pow_right (by decide) hi))
theorem movedN_comp {s bits : Nat} {a b c ta tb tc : List Int} (hs : s < 2 ^ 64) (hb4 : bits ≤ 4) (ha : Inv bits a ta) (hb : Inv bits b tb) (hc : Inv bits c tc) (h : ∀ k, k < bits → c.getD k 0 = a.getD (b.getD k 0).toNat 0) : movedN (movedN s bits ta bits) bits tb bits = movedN s bits tc bits := by
  apply Nat.eq_of_testBit_eq
  intro i
  have h64 : bits ≤ 64 := by omega
  rw [movedN_bit (movedN_lt2 hs hb4 ha) h64 hb bits (Nat.le_refl _), movedN_bit hs h64 hc bits (Nat.le_refl _)]
  by_cases hi : i < bits
  · rw [if_pos hi, if_pos hi]
    have r1 := hb.r i hi
    have r2 := hc.r i hi
    have r3 := ha.r (b.getD i 0).toNat (by omega)
    rw [decide_eq_true (by omega : (b.getD i 0).toNat < bits), decide_eq_true (by omega : (c.getD i 0).toNat < bits), movedN_bit hs h64 ha bits (Nat.le_refl _), if_pos (by omega), decide_eq_true (by omega : (a.getD (b.getD i 0).toNat 0).toNat < bits), h i hi]
    simp
  · rw [if_neg hi, if_neg hi, movedN_bit hs h64 ha bits (Nat.le_refl _), if_neg hi]

/-! ### the pieces -/
theorem pick_pick {α : Type} {d : α} {xs : List α} {a b : List Int} (hb : ∀ x ∈ b, 0 ≤ x ∧ x < a.length) : pickL d (pickL d xs a) b = pickL d xs (pickL 0 a b) := by
  unfold pickL
  rw [List.map_map]
  refine List.map_congr_left fun x hx => ?_
  have := hb x hx
  have h0 : x.toNat < a.length := by omega
  show (a.map fun x => xs.getD x.toNat d).getD x.toNat d = xs.getD (a.getD x.toNat 0).toNat d
  rw [List.getD_eq_getElem?_getD, List.getElem?_map, List.getElem?_eq_getElem h0, List.getD_eq_getElem?_getD (l := a), List.getElem?_eq_getElem h0]; rfl
section
variable {n : Nat} {m : Bool} {a b : List Int} (h1 : 1 ≤ n) (h4 : n ≤ 4) (ha : a ∈ grpL n m) (hb : b ∈ grpL n m)
include h1 h4 ha hb
omit ha in
theorem pick_get : ∀ k, k < n → (pickL 0 a b).getD k 0 = a.getD (b.getD k 0).toNat 0 := fun k hk => by
  have hl := ((grp m h1 h4).small b hb).2
  unfold pickL
  rw [List.getD_eq_getElem?_getD, List.getElem?_map, List.getElem?_eq_getElem (by omega), List.getD_eq_getElem?_getD (l := b), List.getElem?_eq_getElem (by omega)]; rfl
theorem to_comp : ∀ k, k < n → (toN b n).getD ((toN a n).getD k 0).toNat 0 = (toN (pickL 0 a b) n).getD k 0 :=
  (inv_of h1 h4 ha).1.comp (inv_of h1 h4 hb).1 (inv_of h1 h4 ((grp m h1 h4).comp a ha b hb)).1 (pick_get h1 h4 hb)
theorem nodeU_comp (k : UInt8) : nodeU n (toN b n) (nodeU n (toN a n) k) = nodeU n (toN (pickL 0 a b) n) k := by
  by_cases hk : k.toNat < n
  · have ht := (inv_of h1 h4 ha).1.tr k.toNat hk
    have e1 : nodeU n (toN a n) k = UInt8.ofNat ((toN a n).getD k.toNat 0).toNat := by unfold nodeU; rw [if_pos hk]
    have e2 : (UInt8.ofNat ((toN a n).getD k.toNat 0).toNat).toNat = ((toN a n).getD k.toNat 0).toNat := by
      rw [UInt8.toNat_ofNat', Nat.mod_eq_of_lt (by omega)]
    rw [e1]
    unfold nodeU
    rw [e2, if_pos (by omega), if_pos hk, to_comp h1 h4 ha hb _ hk]
  · have e1 : ∀ t, nodeU n t k = k := fun t => by unfold nodeU; rw [if_neg hk]
    rw [e1, e1, e1]
theorem turnM_comp (x : Msg) : turnM n (toN b n) (turnM n (toN a n) x) = turnM n (toN (pickL 0 a b) n) x := by
  have e := nodeU_comp h1 h4 ha hb
  unfold turnM
  by_cases hk : x.kind = 6 ∨ x.kind = 7 ∨ x.kind = 8
  · simp only [if_pos hk, e]
  · simp only [if_neg hk, e]
theorem turnV_comp {pr : Bool} (hpr : pr = m) (k : UInt8) {s : Nat} (hs : s < 2 ^ 64) : turnV n pr (toN b n) k (turnV n pr (toN a n) k s) = turnV n pr (toN (pickL 0 a b) n) k s := by
  have hc := (grp m h1 h4).comp a ha b hb
  unfold turnV
  by_cases h12 : k = 1 ∨ k = 2
  · rw [if_pos h12, if_pos h12, if_pos h12]
    exact movedN_comp hs h4 (inv_of h1 h4 ha).1 (inv_of h1 h4 hb).1 (inv_of h1 h4 hc).1 (pick_get h1 h4 hb)
  · rw [if_neg h12, if_neg h12, if_neg h12]
    by_cases h3 : k = 3 ∧ pr = true
    · rw [if_pos h3, if_pos h3, if_pos h3]
      have hm : m = true := by rw [← hpr]; exact h3.2
      subst hm
      exact movedN_comp hs (by omega) (hinv_of h1 h4 ha) (hinv_of h1 h4 hb) (hinv_of h1 h4 hc) (hcomp_of h1 h4 ha hb)
    · rw [if_neg h3, if_neg h3, if_neg h3]
end
theorem turnH_eq (n : Nat) (pr : Bool) (to : List Int) (h : Hom) : turnH n pr to h = { setV h (turnV n pr to h.kind (leM h)) with owner := nodeU n to h.owner, asker := if h.wait = 0 then h.asker else nodeU n to h.asker } := by
  unfold turnH
  by_cases h0 : h.wait = 0
  · simp only [if_pos h0]; rfl
  · simp only [if_neg h0]; rfl
theorem toN_rng {n : Nat} {a : List Int} (h4 : n ≤ 4) (hl : a.length = n) (k : Nat) : 0 ≤ (toN a n).getD k 0 ∧ (toN a n).getD k 0 < 64 := by
  subst hl
  exact toN_get h4 k
theorem turnH_comp {n : Nat} {m pr : Bool} {a b : List Int} (h1 : 1 ≤ n) (h4 : n ≤ 4) (ha : a ∈ grpL n m) (hb : b ∈ grpL n m) (hpr : pr = m) (h : Hom) : turnH n pr (toN b n) (turnH n pr (toN a n) h) = turnH n pr (toN (pickL 0 a b) n) h := by
  have hal := ((grp m h1 h4).small a ha).2
  have e1 : leM (turnH n pr (toN a n) h) = turnV n pr (toN a n) h.kind (leM h) := by
    rw [turnH_eq]
    exact leM_setV (h := h) (turnV_lt (fun k => toN_rng h4 hal k) (leM_lt h))
  have e2 : (turnH n pr (toN a n) h).kind = h.kind := by rw [turnH_eq]; rfl
  have e3 : (turnH n pr (toN a n) h).wait = h.wait := by rw [turnH_eq]; rfl
  have e4 : (turnH n pr (toN a n) h).owner = nodeU n (toN a n) h.owner := by rw [turnH_eq]
  have e5 : (turnH n pr (toN a n) h).asker = if h.wait = 0 then h.asker else nodeU n (toN a n) h.asker := by rw [turnH_eq]
  rw [turnH_eq n pr (toN b n), e1, e2, e3, e4, e5, turnV_comp h1 h4 ha hb hpr _ (leM_lt h), nodeU_comp h1 h4 ha hb, turnH_eq n pr (toN (pickL 0 a b) n)]
  by_cases h0 : h.wait = 0
  · simp only [if_pos h0]
    rw [turnH_eq]
    simp only [setV]
  · simp only [if_neg h0, nodeU_comp h1 h4 ha hb]
    rw [turnH_eq]
    simp only [setV]
theorem turnS_comp {n : Nat} {m pr : Bool} {a b : List Int} (h1 : 1 ≤ n) (h4 : n ≤ 4) (ha : a ∈ grpL n m) (hb : b ∈ grpL n m) (hpr : pr = m) (s : Sy) : turnS n pr (toN b n) b (turnS n pr (toN a n) a s) = turnS n pr (toN (pickL 0 a b) n) (pickL 0 a b) s := by
  have hal := ((grp m h1 h4).small a ha).2
  have hbl := (grp m h1 h4).small b hb
  have hbr : ∀ x ∈ b, 0 ≤ x ∧ x < a.length := fun x hx => by
    have := (small_perm hbl.1).2 x hx
    omega
  unfold turnS
  simp only [pick_pick hbr, List.map_map]
  congr 1
  · exact List.map_congr_left fun x _ => turnH_comp h1 h4 ha hb hpr x
  · exact List.map_congr_left fun x _ => turnM_comp h1 h4 ha hb x
end Go.Proofs.YthmddpoodknclaaDoor
namespace Go.Proofs.YthmddpoodknclaaDoor
open Go.Vc Go.RowKit Go.Sei
set_option linter.unusedVariables false

theorem turnC_kind (to : List Int) (c : Cnd) : (turnC to c).kind = c.kind := by rw [turnC_eq]; rfl
theorem condB_turn {n lo : Nat} {to : List Int} (hto : ∀ k, k < n → 0 ≤ to.getD k 0 ∧ to.getD k 0 < n) (h4 : n ≤ 4) : ∀ (d : Nat) (c : Cnd), condB n lo d c = true → condB n lo d (turnC to c) = true
  | 0, c, h => by obtain ⟨k, t, n, v, kids⟩ := c; cases h
  | d + 1, c, h => by
    have hp := condB_parts h
    rw [condB_succ] at h ⊢
    rw [turnC_eq]
    have hk : ∀ l : List Cnd, (∀ x ∈ l, condB n lo d x = true) → (l.map (turnC to)).all (condB n lo d) = true := fun l hl => by
      rw [List.all_eq_true]
      intro x hx
      obtain ⟨y, hy, rfl⟩ := List.mem_map.1 hx
      exact condB_turn hto h4 d y (hl y hy)
    have hk' := hk c.kids hp.2.2
    have hl : (c.kids.map (turnC to)).length = c.kids.length := List.length_map _
    have ht : ¬ c.kind = 1 → turnT to c.kind c.thread = c.thread := fun h => by unfold turnT; rw [if_neg h]
    have ht1 : c.kind = 1 → (turnT to c.kind c.thread).toNat < n := fun h => by
      unfold turnT
      rw [if_pos h]
      have := hto c.thread.toNat (hp.1 h)
      rw [UInt8.toNat_ofNat', Nat.mod_eq_of_lt (by omega)]
      omega
    generalize hx : turnT to c.kind c.thread = tt at ht ht1 ⊢
    generalize hy : c.kids.map (turnC to) = kk at hk' hl ⊢
    unfold bareL at h ⊢
    show (if c.kind = 0 then ((decide (tt = 0) && (decide (c.n = 0) && decide (c.val = 0))) && decide (kk.length = 0)) else if c.kind = 1 then (decide (tt.toNat < n) && (decide (c.n.toNat < 8) && decide (kk.length = 0))) else if c.kind = 2 then (decide (c.n.toNat < lo) && (decide (tt = 0) && decide (kk.length = 0))) else if c.kind = 3 ∨ c.kind = 4 then ((decide (tt = 0) && (decide (c.n = 0) && decide (c.val = 0))) && (decide (2 ≤ kk.length) && kk.all (condB n lo d))) else if c.kind = 5 then ((decide (tt = 0) && (decide (c.n = 0) && decide (c.val = 0))) && (decide (kk.length = 1) && kk.all (condB n lo d))) else false) = true
    by_cases h0 : c.kind = 0
    · rw [if_pos h0] at h ⊢
      rw [hl, ht (by rw [h0]; decide)]; exact h
    rw [if_neg h0] at h ⊢
    by_cases h1 : c.kind = 1
    · rw [if_pos h1] at h ⊢
      rw [hl, decide_eq_true (ht1 h1)]
      rw [Bool.and_eq_true] at h ⊢
      exact ⟨rfl, h.2⟩
    rw [if_neg h1] at h ⊢
    by_cases h2 : c.kind = 2
    · rw [if_pos h2] at h ⊢
      rw [hl, ht h1]; exact h
    rw [if_neg h2] at h ⊢
    by_cases h3 : c.kind = 3 ∨ c.kind = 4
    · rw [if_pos h3] at h ⊢
      rw [hl, ht h1, hk']
      rw [Bool.and_eq_true, Bool.and_eq_true (a := decide (2 ≤ _))] at h ⊢
      exact ⟨h.1, h.2.1, rfl⟩
    rw [if_neg h3] at h ⊢
    by_cases h5 : c.kind = 5
    · rw [if_pos h5] at h ⊢
      rw [hl, ht h1, hk']
      rw [Bool.and_eq_true, Bool.and_eq_true (a := decide (_ = 1))] at h ⊢
      exact ⟨h.1, h.2.1, rfl⟩
    rw [if_neg h5] at h
    cases h
theorem turnC_comp {n lo : Nat} {ta tb tc : List Int} (hta : ∀ k, k < n → 0 ≤ ta.getD k 0 ∧ ta.getD k 0 < n) (h4 : n ≤ 4) (h : ∀ k, k < n → tb.getD (ta.getD k 0).toNat 0 = tc.getD k 0) : ∀ (d : Nat) (c : Cnd), condB n lo d c = true → turnC tb (turnC ta c) = turnC tc c
  | 0, c, hc => by obtain ⟨k, t, n, v, kids⟩ := c; cases hc
  | d + 1, c, hc => by
    have hp := condB_parts hc
    rw [turnC_eq tb, turnC_eq ta, turnC_eq tc]
    show Cnd.mk c.kind (turnT tb c.kind (turnT ta c.kind c.thread)) c.n c.val ((c.kids.map (turnC ta)).map (turnC tb)) = _
    rw [List.map_map]
    have e1 : c.kids.map (turnC tb ∘ turnC ta) = c.kids.map (turnC tc) := List.map_congr_left fun x hx => turnC_comp hta h4 h d x (hp.2.2 x hx)
    rw [e1]
    congr 1
    unfold turnT
    by_cases h1 : c.kind = 1
    · rw [if_pos h1, if_pos h1, if_pos h1]
      have ht := hp.1 h1
      have := hta c.thread.toNat ht
      rw [UInt8.toNat_ofNat', Nat.mod_eq_of_lt (by omega), h _ ht]
    · rw [if_neg h1, if_neg h1, if_neg h1]
section
variable {n : Nat} {m : Bool} {a b : List Int} (h1 : 1 ≤ n) (h4 : n ≤ 4)
include h1 h4
theorem back_rng (ha : a ∈ grpL n m) : ∀ k, k < n → 0 ≤ (backL a).getD k 0 ∧ (backL a).getD k 0 < n := fun k hk => by
  rw [(inv_of h1 h4 ha).2 k hk]
  exact (inv_of h1 h4 ha).1.tr k hk
theorem grp_rng (ha : a ∈ grpL n m) : a.length = n ∧ ∀ x ∈ a, 0 ≤ x ∧ x < n := by
  have h := (grp m h1 h4).small a ha
  refine ⟨h.2, fun x hx => ?_⟩
  have := (small_perm h.1).2 x hx
  omega
theorem okPrg_turn {p : Prg} (hp : p.threads.length = n) (hok : okPrg p = true) (ha : a ∈ grpL n m) : okPrg (turnP a p) = true := by
  have hO := okPrg_parts hok
  have hr := grp_rng h1 h4 ha
  have hl : (turnP a p).threads.length = n := by
    show (pickL [] p.threads a).length = n
    unfold pickL; rw [List.length_map, hr.1]
  have hm : ∀ t ∈ (turnP a p).threads, t ∈ p.threads := fun t ht => by
    have ht : t ∈ pickL [] p.threads a := ht
    unfold pickL at ht
    obtain ⟨i, hi, rfl⟩ := List.mem_map.1 ht
    have := hr.2 i hi
    have h0 : i.toNat < p.threads.length := by omega
    rw [List.getD_eq_getElem?_getD, List.getElem?_eq_getElem h0]
    exact List.getElem_mem h0
  have hc := condB_turn (lo := p.locs.length) (back_rng h1 h4 ha) h4 20 p.cond (by rw [← hp]; exact hO.cond)
  unfold okPrg at hok ⊢
  rw [hl]
  simp only [Bool.and_eq_true] at hok ⊢
  obtain ⟨q1, q2, ⟨q3, q4, q5⟩, q6, q7, q8⟩ := hok
  refine ⟨q1, q2, ⟨decide_eq_true h1, decide_eq_true h4, ?_⟩, ?_, q7, hc⟩
  · exact List.all_eq_true.2 fun t ht => List.all_eq_true.1 q5 t (hm t ht)
  · exact List.all_eq_true.2 fun t ht => List.all_eq_true.1 q6 t (hm t ht)
theorem turns_turn {p : Prg} {g : Geo} (hg : g.c = n) (ht : turnsL p g = true) (ha : a ∈ grpL n m) : turnsL (turnP a p) g = true := by
  have hr := grp_rng h1 h4 ha
  have hl : (turnP a p).threads.length = n := by
    show (pickL [] p.threads a).length = n
    unfold pickL; rw [List.length_map, hr.1]
  unfold turnsL at ht ⊢
  rw [Bool.and_eq_true, Bool.and_eq_true, decide_eq_true_eq] at ht ⊢
  have hp : p.threads.length = n := by have := ht.2.1; omega
  exact ⟨ht.1, by rw [hl]; omega, okPrg_turn h1 h4 hp ht.2.2 ha⟩
theorem turnP_comp {p : Prg} (hp : p.threads.length = n) (hok : okPrg p = true) (ha : a ∈ grpL n m) (hb : b ∈ grpL n m) : turnP b (turnP a p) = turnP (pickL 0 a b) p := by
  have hO := okPrg_parts hok
  have ra := grp_rng h1 h4 ha
  have rb := grp_rng h1 h4 hb
  have hc := (grp m h1 h4).comp a ha b hb
  unfold turnP
  congr 1
  · exact pick_pick fun x hx => by have := rb.2 x hx; omega
  · refine turnC_comp (n := n) (lo := p.locs.length) (back_rng h1 h4 ha) h4 (fun k hk => ?_) 20 p.cond (by rw [← hp]; exact hO.cond)
    have r := back_rng h1 h4 ha k hk
    rw [(inv_of h1 h4 hb).2 _ (by omega), (inv_of h1 h4 ha).2 k hk, (inv_of h1 h4 hc).2 k hk, to_comp h1 h4 ha hb k hk]
theorem fits_turn {g : Geo} {s : Sy} {pr : Bool} {to : List Int} (hg : g.c = n) (ha : a ∈ grpL n m) (h : fitsB g s = true) : fitsB g (turnS n pr to a s) = true := by
  have hr := grp_rng h1 h4 ha
  unfold fitsB fit4 at h ⊢
  simp only [Bool.and_eq_true, decide_eq_true_eq] at h ⊢
  obtain ⟨⟨⟨⟨q1, q2⟩, q3⟩, q4⟩, q5, q6⟩ := h
  have hl : ∀ {α : Type} (d : α) (xs : List α), ((pickL d xs a).length : Int) = g.c := fun d xs => by
    unfold pickL; rw [List.length_map, hr.1, hg]
  have hm : ∀ {α : Type} (d : α) (xs : List α) (f : α → Bool), (xs.length : Int) = g.c → xs.all f = true → (pickL d xs a).all f = true := fun d xs f hx hf => by
    refine List.all_eq_true.2 fun t ht => ?_
    unfold pickL at ht
    obtain ⟨i, hi, rfl⟩ := List.mem_map.1 ht
    have := hr.2 i hi
    have h0 : i.toNat < xs.length := by omega
    rw [List.getD_eq_getElem?_getD, List.getElem?_eq_getElem h0]
    exact List.all_eq_true.1 hf _ (List.getElem_mem h0)
  refine ⟨⟨⟨⟨q1, hl _ _⟩, hl _ _⟩, ?_⟩, hm _ _ _ q2 q5, hm _ _ _ q3 q6⟩
  show (s.net.map (turnM n to)).length ≤ 64
  rw [List.length_map]; exact q4
end
theorem bufS_mem {l : List Cor} {c : Cor} (h : c ∈ l) : c.buf.length ≤ bufS l := by
  unfold bufS
  induction l with
  | nil => cases h
  | cons x r ih =>
    rw [List.map_cons, List.sum_cons]
    rcases List.mem_cons.1 h with rfl | h
    · omega
    · have := ih h; omega
/-- A turned system is small. -/
structure SmT (s : Sy) : Prop where
  cores : s.cores.length ≤ 1000000000
  caches : s.caches.length ≤ 1000000000
  net : s.net.length ≤ 1000000000
  buf : ∀ c ∈ s.cores, c.buf.length ≤ 1000000000
theorem small_t {s : Sy} (h : smallSy s) : SmT s := by
  unfold smallSy at h
  exact ⟨by omega, by omega, by omega, fun c hc => by have := bufS_mem hc; omega⟩
theorem fits_t {g : Geo} {s : Sy} (h : fitsB g s = true) : SmT s := by
  unfold fitsB fit4 at h
  simp only [Bool.and_eq_true, decide_eq_true_eq] at h
  obtain ⟨⟨⟨⟨q1, q2⟩, q3⟩, q4⟩, q5, q6⟩ := h
  have := (geoR_spec q1).1
  refine ⟨by omega, by omega, by omega, fun c hc => ?_⟩
  have h := List.all_eq_true.1 q5 c hc
  unfold bufB at h
  have := of_decide_eq_true h
  omega
end Go.Proofs.YthmddpoodknclaaDoor
namespace Go.Proofs.YthmddpoodknclaaDoor
open Go.Vc Go.RowKit Go.Sei
set_option linter.unusedVariables false

theorem bit_and {m c : Nat} (hm : m < 16) : IntKind.u64.wrap ((BitVec.ofInt IntKind.u64.bits ((m / 2 ^ c : Nat) : Int) &&& BitVec.ofInt IntKind.u64.bits ((1 : Nat) : Int)).toNat : Int) = (((m.testBit c).toNat : Nat) : Int) := by
  have h2 : m / 2 ^ c ≤ m := Nat.div_le_self _ _
  rw [u64_and (a := m / 2 ^ c) (b := 1) (by omega) (by decide), Nat.and_one_is_mod, ← Nat.shiftRight_eq_div_pow, Nat.testBit_eq_decide_div_mod_eq, Nat.shiftRight_eq_div_pow]
  congr 1
  have := Nat.mod_two_eq_zero_or_one (m / 2 ^ c)
  rcases this with h | h <;> rw [h] <;> rfl
theorem node_at {n : Nat} {to : List Int} {k : UInt8} (hk : k.toNat < n) (h : 0 ≤ to.getD k.toNat 0 ∧ to.getD k.toNat 0 < 64) : (nodeU n to k).toNat = (to.getD k.toNat 0).toNat := by
  unfold nodeU
  rw [if_pos hk, UInt8.toNat_ofNat']
  omega
theorem mod_u8 {x : UInt8} {n : Nat} (h : 1 ≤ n) (h4 : n ≤ 4) : (x.toNat : Int).tmod (n : Int) = ((UInt8.ofNat (x.toNat % n)).toNat : Int) ∧ (UInt8.ofNat (x.toNat % n)).toNat < n := by
  have h2 := Nat.mod_lt x.toNat (show 0 < n by omega)
  have e : (UInt8.ofNat (x.toNat % n)).toNat = x.toNat % n := by rw [UInt8.toNat_ofNat']; omega
  rw [e]
  exact ⟨rfl, h2⟩
theorem cap_u8 {n : Nat} (h4 : n ≤ 4) : IntKind.u8.wrap ((n : Nat) : Int) = ((n : Nat) : Int) := wrap_u8 (by omega)
/-- The view's box, and what has stood since. -/
structure VwB (X : World) (t N : Nat) (md : UInt8) (mk : Nat) (al : Bool) (Y : World) : Prop where
  h : X.heap.size ≤ t
  b : Below X.heap.size X Y
  f : Y.heap[t]? = some (.cells (viewC md mk al).toArray 63 (0, 0))
  m : mk < 16
  r : rgtV md mk al N = true
theorem VwB.below {X Y Z : World} {t N : Nat} {md : UInt8} {mk : Nat} {al : Bool} (h : VwB X t N md mk al Y) (hb : Below Y.heap.size Y Z) : VwB X t N md mk al Z := ⟨h.h, h.b.trans (hb.mono h.b.size), block_below hb h.f, h.m, h.r⟩

section
variable {p : Prg} {g : Geo} {md : UInt8} {vs : List Value} {w : World}
theorem turnView_c {n more : UInt8} {ql : Option Addr} {cl : Nat} {l : List UInt8} (hw : WldV w.heap.size w vs p g md) (h1 : vs.all Value.oneCell' = true) (hr : SlR byteE w ql l) (hlc : l.length ≤ cl) (hT : GlobT w) (hZ : TzM w) :
    Calls Tryd.prog 5 #[.agg vs.toArray, u8 n, .slice ql l.length cl, u8 more] w fun e w' => e = .returned (.bool true) ∧ Below w.heap.size w w' := by
  refine calls_of_M (S := sg 154) (sgOk _) (args := [.agg vs.toArray, u8 n, .slice ql l.length cl, u8 more]) (.s .p (.c .p (.c .p (.c .p (.c .p (.s .p (.c .p (.c .p (.c .p (.c .p (.s .p (.c .p .p)))))))))))) Tryd.func5 rfl rfl (Nat.le_of_ble_eq_true rfl) rfl ?_
  obtain ⟨L, hL⟩ : ∃ L, L = w.heap.size := ⟨_, rfl⟩
  have q3 : some (Value.pointer (some ⟨w.heap.size, 0, none⟩)) = some (Value.pointer (some ⟨L, 0, none⟩)) := by rw [hL]
  have hb0 : Below w.heap.size w (w.alloc (.cells vs.toArray 44)) := (Below.refl _ w).alloc (Nat.le_refl _) _
  have hW0 : Wb w vs p g md L (w.alloc (.cells vs.toArray 44)) := ⟨by rw [hL]; exact hnew w _, hw.below hb0, hT.below hb0, hb0⟩
  -- pick
  refine ⟨(PrmR × Bool) × Nat, fun s => ⟨[(2, .slice ql l.length cl), (3, u8 more), (4, .pointer (some ⟨L, 0, none⟩)), (9, .pointer (some ⟨s.2, 0, none⟩)), (10, .bool s.1.2)], []⟩, fun s X => Wb w vs p g md L X ∧ PickI (allL p g md) s.1 X ∧ X.heap[s.2]? = some (.cells #[.slice s.1.1.2.1 s.1.1.1.length s.1.1.2.2] 45 (0, 0)), ?_, ?_⟩
  · refine ⟨vs, hw.len, cells_block (hnew w _), hlt (hnew w _), ?_⟩
    refine Calls.mono (pick_c hW0.b.size hW0.v hW0.T) ?_
    rintro e V ⟨hbV, ⟨h0, rfl⟩ | ⟨a, q, c, ha, rfl, hs⟩⟩
    · refine store_new (X := V) (v := .slice none 0 0) (ttOk.get 45 _ rfl) rfl rfl rfl fun Y hbY fY sY => ?_
      exact ⟨((([], none, 0), false), V.heap.size), ⟨.cons rfl (.cons rfl (.cons q3 (.cons rfl (.cons rfl .nil)))), rfl⟩, (hW0.below hbV).below hbY, .inr ⟨rfl, h0⟩, fY⟩
    · refine store_new (X := V) (v := .slice q a.length c) (ttOk.get 45 _ rfl) rfl rfl rfl fun Y hbY fY sY => ?_
      exact ⟨(((a, q, c), true), V.heap.size), ⟨.cons rfl (.cons rfl (.cons q3 (.cons rfl (.cons rfl .nil)))), rfl⟩, (hW0.below hbV).below hbY, .inl ⟨rfl, List.mem_of_getElem? ha, hs.below hbY⟩, fY⟩
  clear hb0 hW0 q3
  rintro ⟨⟨⟨a, qa, ca⟩, oa⟩, P⟩ X ⟨hX, hA, fP⟩
  dsimp only at fP ⊢
  -- no permutation, no kind
  refine ⟨Unit, fun _ => ⟨[(2, .slice ql l.length cl), (3, u8 more), (4, .pointer (some ⟨L, 0, none⟩)), (9, .pointer (some ⟨P, 0, none⟩))], []⟩, fun _ Y => Wb w vs p g md L Y ∧ (a ∈ allL p g md ∧ SlR Go.Sei.intE Y qa a) ∧ Y.heap[P]? = some (.cells #[.slice qa a.length ca] 45 (0, 0)) ∧ knownB md = true, ?_, ?_⟩
  · obtain ⟨pc, rest, hp, c1, c2, c3, hm, hlw⟩ := hX.wc.cells
    rcases hA with ⟨rfl, ha, sa⟩ | ⟨rfl, _⟩
    · refine brF ?_
      refine ⟨_, cells_at c3 (i := 1) hm, ?_⟩
      refine And.intro (fun h => ?_) (fun h => ?_)
      · refine brT ?_
        refine Calls.mono (awake_c hX.T) ?_
        rintro e Z ⟨rfl, hbZ⟩
        exact ⟨rfl, (hX.below hbZ).b⟩
      · have h : ¬ (md.toNat : Int) < 1 := of_decide_eq_false h
        refine ⟨_, cells_at c3 (i := 1) hm, ?_⟩
        refine And.intro (fun h2 => ?_) (fun h2 => ?_)
        · refine Calls.mono (awake_c hX.T) ?_
          rintro e Z ⟨rfl, hbZ⟩
          exact ⟨rfl, (hX.below hbZ).b⟩
        · have h2 : ¬ (3 : Int) < (md.toNat : Int) := of_decide_eq_false h2
          have hk : knownB md = true := by
            have hc : md.toNat = 1 ∨ md.toNat = 2 ∨ md.toNat = 3 := by omega
            unfold knownB
            simp only [Bool.or_eq_true, decide_eq_true_eq]
            rcases hc with hc | hc | hc
            · exact .inl (UInt8.toNat_inj.1 hc)
            · exact .inr (.inl (UInt8.toNat_inj.1 hc))
            · exact .inr (.inr (UInt8.toNat_inj.1 hc))
          exact ⟨(), ⟨.cons rfl (.cons rfl (.cons rfl (.cons rfl .nil))), rfl⟩, hX, ⟨ha, sa⟩, fP, hk⟩
    · refine brT ?_
      refine brT ?_
      refine brT ?_
      refine Calls.mono (awake_c hX.T) ?_
      rintro e Z ⟨rfl, hbZ⟩
      exact ⟨rfl, (hX.below hbZ).b⟩
  clear hX hA fP
  rintro _ X ⟨hX, ⟨ha, sa⟩, fP, hk⟩
  have ht : turnsL p g = true := allL_some fun h => by rw [h] at ha; cases ha
  obtain ⟨N, hN, hN1, hN4, hNt, hok⟩ := turns_parts ht
  have hal := allL_grp (md := md) ht hN
  rw [hal] at ha
  have hf : (turnsL p g && suitsL g md a) = true := by rw [ht, grp_suits hN ha]; rfl
  obtain ⟨hla, _⟩ := grp_rng hN1 hN4 ha
  -- the new view
  refine ⟨Nat, fun t => ⟨[(2, .slice ql l.length cl), (3, u8 more), (4, .pointer (some ⟨L, 0, none⟩)), (9, .pointer (some ⟨P, 0, none⟩)), (11, .pointer (some ⟨t, 0, none⟩))], []⟩, fun t Y => X.heap.size ≤ t ∧ Below X.heap.size X Y ∧ Y.heap[t]? = some (.cells (viewC md 0 false).toArray 63 (0, 0)), ?_, ?_⟩
  · obtain ⟨pc, rest, hp, c1, c2, c3, hm, hlw⟩ := hX.wc.cells
    refine ⟨_, cells_at c3 (i := 1) hm, ?_⟩
    refine ⟨_, cells_at c2 (i := 0) rfl, ?_⟩
    refine Calls.mono (New_c (k := md) (n := g.c)) ?_
    rintro e V ⟨rfl, hbV⟩
    rw [hk, show countsB g.c = true by unfold countsB; simp; omega]
    refine store_new (X := V) (v := .agg (viewC md 0 false).toArray) (ttOk.get 63 _ rfl) rfl rfl rfl fun Y hbY fY sY => ?_
    exact ⟨V.heap.size, ⟨.cons rfl (.cons rfl (.cons rfl (.cons rfl (.cons rfl .nil)))), rfl⟩, hbV.size, hbV.trans (hbY.mono hbV.size), fY⟩
  have vt := fun {mk : Nat} {al : Bool} (hm : mk < 16) (hr : rgtV md mk al N = true) => view_turned (kd := md) (n := N) (a := a) (mk := mk) (al := al) hk hN1 hN4 ha hm hr
  rintro t Y0 ⟨htX, hbY0, fY0⟩
  -- the notes
  refine ⟨Nat × Bool, fun s => ⟨[(3, u8 more), (4, .pointer (some ⟨L, 0, none⟩)), (9, .pointer (some ⟨P, 0, none⟩)), (11, .pointer (some ⟨t, 0, none⟩))], []⟩, fun s Y => VwB X t N md s.1 s.2 Y, ?_, ?_⟩
  · refine min_run ?_
    obtain ⟨j, hj6, hjl, hjv⟩ : ∃ j : Nat, j ≤ 6 ∧ j ≤ l.length ∧ (j : Int) = (if (6 : Int) < (l.length : Int) then 6 else (l.length : Int)) := by
      by_cases h6 : (6 : Int) < (l.length : Int)
      · exact ⟨6, by omega, by omega, by rw [if_pos h6]; rfl⟩
      · exact ⟨l.length, by omega, by omega, by rw [if_neg h6]⟩
    refine ⟨j, hjv, by omega, ?_⟩
    obtain ⟨m, hm, hmj⟩ : ∃ m : List UInt8, m = (l.drop 0).take (j - 0) ∧ m.length = j - 0 := ⟨_, rfl, by rw [List.length_take, List.length_drop]; omega⟩
    have sl := hr.sub (cap := cl) (lo := 0) (hi := j) (Nat.zero_le _) hjl hlc
    rw [← hm] at sl
    have sl : SlR byteE w (cutBase ql cl 0 1) m := sl
    obtain ⟨qm, hq⟩ : ∃ qm, cutBase ql cl 0 1 = qm := ⟨_, rfl⟩
    rw [hq] at sl
    have q55 : some (Value.slice (cutBase ql cl 0 1) (j - 0) (cl - 0)) = some (.slice qm (j - 0) (cl - 0)) := by rw [hq]
    refine ⟨Nat × Nat × Bool, fun s => ⟨[(3, u8 more), (4, .pointer (some ⟨L, 0, none⟩)), (9, .pointer (some ⟨P, 0, none⟩)), (11, .pointer (some ⟨t, 0, none⟩)), (55, .slice qm (j - 0) (cl - 0)), (56, .int .i64 ((j - 0 : Nat) : Int)), (57, .int .i64 (s.1 : Nat))], []⟩, fun s Y => s.1 ≤ j - 0 ∧ VwB X t N md s.2.1 s.2.2 Y, fun s => j - 0 - s.1, (0, 0, false),
      ⟨.cons rfl (.cons rfl (.cons rfl (.cons rfl (.cons q55 (.cons rfl (.cons rfl .nil)))))), rfl⟩, ⟨Nat.zero_le _, htX, hbY0, fY0, by decide, right_new hk⟩, ?_⟩
    rintro ⟨k, mk, al⟩ Y ⟨hkj, hV⟩
    dsimp only at hkj hV ⊢
    refine And.intro (fun hc => ?_) (fun hc => ?_)
    · have hc : (k : Int) < ((j - 0 : Nat) : Int) := of_decide_eq_true hc
      have hkm : k < m.length := by omega
      have hXY := hX.below hV.b
      have slY : SlR byteE Y qm m := sl.below hXY.b
      obtain ⟨b, o, rfl, hbs, hat⟩ := slY.at hkm
      refine ⟨k, rfl, by omega, ?_⟩
      refine ⟨_, cells_at (hat k hkm) (i := 0) rfl, ?_⟩
      refine DrawE.ord [8] [0, 1, 2, 3, 4, 5, 6, 7, 8] (by kernel_rfl) ?_
      have hbd : Below Y.heap.size Y Y.drew := (Below.refl _ Y).drew
      have hD := hXY.below hbd
      have hVD := hV.below hbd
      obtain ⟨pc, rest, hp, c1, c2, c3, hm2, hlw⟩ := hD.wc.cells
      refine ⟨viewC md mk al, rfl, cells_block hVD.f, hlt hVD.f, ?_⟩
      refine ⟨_, cells_at c2 (i := 0) rfl, ?_⟩
      refine ⟨((N : Nat) : Int), by rw [hN]; exact cap_u8 hN4, ?_⟩
      obtain ⟨e1, e2⟩ := mod_u8 (x := m[k]) hN1 hN4
      refine ⟨by omega, _, e1, ?_⟩
      have hcN : (UInt8.ofNat (m[k].toNat % N)).toNat < 4 := by omega
      refine Calls.mono (Note_c (kd := md) (mk := mk) (al := al) (c := UInt8.ofNat (m[k].toNat % N)) hk hV.m hcN) ?_
      rintro e V ⟨rfl, hbV⟩
      refine ⟨hbV, ?_⟩
      have hVV := hVD.below hbV
      obtain ⟨n1, n2, n3⟩ := (vt hV.m hV.r).note _ e2
      refine store_box (T := 63) (ttOk.get 63 _ rfl) hVV.f (v := .agg (viewC md (noteV md (UInt8.ofNat (m[k].toNat % N)).toNat mk al).1 (noteV md (UInt8.ofNat (m[k].toNat % N)).toNat mk al).2).toArray) rfl rfl rfl ?_
      refine ⟨((k + 1 : Nat) : Int), (wrap_i64 (by omega)).trans (by omega), ?_⟩
      exact ⟨(k + 1, _, _), ⟨.cons rfl (.cons rfl (.cons rfl (.cons rfl (.cons rfl (.cons rfl (.cons rfl .nil)))))), rfl⟩, ⟨by dsimp only; omega, htX, below_setRow hVV.b htX _, setRow_new hVV.f, n1, n2⟩, by dsimp only; omega⟩
    · exact ⟨(mk, al), ⟨.cons rfl (.cons rfl (.cons rfl (.cons rfl .nil))), rfl⟩, hV⟩
  clear hbY0 fY0 htX
  rintro ⟨mk, al⟩ Y hV
  dsimp only at hV ⊢
  have hY := hX.below hV.b
  have fPX := fP
  have saX := sa
  have fP := block_below hV.b fP
  replace sa := sa.below hV.b
  have T := vt hV.m hV.r
  obtain ⟨mt, hmt⟩ : ∃ mt, mt = turnV N (decide (md = 3)) (toN a N) md mk := ⟨_, rfl⟩
  have Tl := T.lt
  have Tr := T.right
  have Tt := T.told
  have Tn := T.note
  rw [← hmt] at Tl Tr Tt Tn
  have hto : ∀ k, 0 ≤ (toN a N).getD k 0 ∧ (toN a N).getD k 0 < 64 := fun k => by
    have := toN_get (l := a) (by omega) k
    rwa [hla] at this
  have hgo : ∀ (c : UInt8), c.toNat < N → (nodeU N (toN a N) c).toNat = ((toN a N).getD c.toNat 0).toNat := fun c hc => node_at hc (hto _)
  clear hal
  -- the view turned
  refine ⟨Nat, fun u => ⟨[(3, u8 more), (4, .pointer (some ⟨L, 0, none⟩)), (9, .pointer (some ⟨P, 0, none⟩)), (11, .pointer (some ⟨t, 0, none⟩)), (14, .func (.func 24) #[] #[.pointer (some ⟨L, 0, none⟩), .pointer (some ⟨P, 0, none⟩)]), (15, .pointer (some ⟨u, 0, none⟩)), (16, i64 0)], []⟩, fun u Z => VwB X t N md mk al Z ∧ VwB X u N md mt al Z, ?_, ?_⟩
  · refine ⟨vs, hw.len, cells_block hY.c, hlt hY.c, ?_⟩
    refine ⟨viewC md mk al, rfl, cells_block hV.f, hlt hV.f, ?_⟩
    refine ⟨_, cells_at (cells_block fP) (i := 0) rfl, ?_⟩
    refine Calls.mono (ViewG_c (kd := md) hY.b.size hY.v hY.T h1 sa (by have := hV.m; omega) hf) ?_
    rintro e V ⟨rfl, hbV⟩
    rw [show turnV a.length (decide (md = 3)) (toN a a.length) md mk = mt by rw [hla, hmt]]
    refine store_new (X := V) (v := .agg (viewC md mt al).toArray) (ttOk.get 63 _ rfl) rfl rfl rfl fun Z hbZ fZ sZ => ?_
    have hVZ := (hV.below hbV).below hbZ
    exact ⟨V.heap.size, ⟨.cons rfl (.cons rfl (.cons rfl (.cons rfl (.cons rfl (.cons rfl (.cons rfl .nil)))))), rfl⟩, hVZ, (hV.below hbV).b.size, hVZ.b, fZ, Tl, Tr⟩
  clear hV hY
  rintro u Z ⟨hV, hU⟩
  -- right
  refine ⟨Unit, fun _ => ⟨[(3, u8 more), (4, .pointer (some ⟨L, 0, none⟩)), (9, .pointer (some ⟨P, 0, none⟩)), (11, .pointer (some ⟨t, 0, none⟩)), (14, .func (.func 24) #[] #[.pointer (some ⟨L, 0, none⟩), .pointer (some ⟨P, 0, none⟩)]), (15, .pointer (some ⟨u, 0, none⟩))], []⟩, fun _ Z => VwB X t N md mk al Z ∧ VwB X u N md mt al Z, ?_, ?_⟩
  · have hZ' := hX.below hV.b
    obtain ⟨pc, rest, hp, c1, c2, c3, hm, hlw⟩ := hZ'.wc.cells
    refine brF ?_
    refine ⟨viewC md mt al, rfl, cells_block hU.f, hlt hU.f, ?_⟩
    refine ⟨i64 ((N : Nat) : Int), by rw [← hN]; exact cells_at c2 (i := 0) rfl, ?_⟩
    refine Calls.mono (Right_v_c hk hU.m hN1 hN4) ?_
    rintro e V ⟨rfl, hbV⟩
    rw [Tr]
    refine brF ?_
    exact ⟨(), ⟨.cons rfl (.cons rfl (.cons rfl (.cons rfl (.cons rfl (.cons rfl .nil))))), rfl⟩, hV.below hbV, hU.below hbV⟩
  clear hV hU
  rintro _ Z ⟨hV, hU⟩
  -- told
  refine ⟨Unit, fun _ => ⟨[(3, u8 more), (4, .pointer (some ⟨L, 0, none⟩)), (9, .pointer (some ⟨P, 0, none⟩)), (11, .pointer (some ⟨t, 0, none⟩)), (14, .func (.func 24) #[] #[.pointer (some ⟨L, 0, none⟩), .pointer (some ⟨P, 0, none⟩)]), (15, .pointer (some ⟨u, 0, none⟩)), (17, .int .u64 (toldV md mk al N : Nat)), (18, .int .u64 (toldV md mt al N : Nat))], []⟩, fun _ Z => VwB X t N md mk al Z ∧ VwB X u N md mt al Z, ?_, ?_⟩
  · refine DrawE.ord [] [0, 1, 2, 3, 5, 6, 7, 8, 4, 9, 10, 11] (by kernel_rfl) ?_
    have hbd : Below Z.heap.size Z Z.drew := (Below.refl _ Z).drew
    have hVD := hV.below hbd
    have hUD := hU.below hbd
    have hD := hX.below hVD.b
    obtain ⟨pc, rest, hp, c1, c2, c3, hm, hlw⟩ := hD.wc.cells
    refine ⟨viewC md mk al, rfl, cells_block hVD.f, hlt hVD.f, ?_⟩
    refine ⟨i64 ((N : Nat) : Int), by rw [← hN]; exact cells_at c2 (i := 0) rfl, ?_⟩
    refine ⟨viewC md mt al, rfl, cells_block hUD.f, hlt hUD.f, ?_⟩
    refine ⟨i64 ((N : Nat) : Int), by rw [← hN]; exact cells_at c2 (i := 0) rfl, ?_⟩
    refine Calls.mono (Told_c hk hVD.m hN1 hN4 (hZ.below hD.b)) ?_
    rintro e V ⟨rfl, hbV⟩
    refine ⟨hbV, ?_⟩
    have hVV := hVD.below hbV
    refine Calls.mono (Told_c hk hUD.m hN1 hN4 (hZ.below (hX.below hVV.b).b)) ?_
    rintro e U ⟨rfl, hbU⟩
    refine ⟨hbU, ?_⟩
    exact ⟨(), ⟨.cons rfl (.cons rfl (.cons rfl (.cons rfl (.cons rfl (.cons rfl (.cons rfl (.cons rfl .nil))))))), rfl⟩, hVV.below hbU, (hUD.below hbV).below hbU⟩
  clear hV hU
  rintro _ Z ⟨hV, hU⟩
  have l16 : ∀ {m : Nat} {b : Bool}, m < 16 → toldV md m b N < 16 := fun {m b} hm => by
    have hb : belowN N < 16 := by
      have hc : N = 1 ∨ N = 2 ∨ N = 3 ∨ N = 4 := by omega
      rcases hc with h | h | h | h <;> rw [h] <;> decide
    unfold toldV
    split
    · exact hb
    · split
      · exact Nat.lt_of_le_of_lt Nat.and_le_right hb
      · exact Nat.lt_of_le_of_lt Nat.and_le_right hb
  -- place by place
  refine ⟨Unit, fun _ => ⟨[(3, u8 more), (4, .pointer (some ⟨L, 0, none⟩)), (9, .pointer (some ⟨P, 0, none⟩)), (11, .pointer (some ⟨t, 0, none⟩)), (14, .func (.func 24) #[] #[.pointer (some ⟨L, 0, none⟩), .pointer (some ⟨P, 0, none⟩)]), (15, .pointer (some ⟨u, 0, none⟩))], []⟩, fun _ Z => VwB X t N md mk al Z ∧ VwB X u N md mt al Z, ?_, ?_⟩
  · have hZ' := hX.below hV.b
    obtain ⟨pc, rest, hp, c1, c2, c3, hm, hlw⟩ := hZ'.wc.cells
    refine ⟨i64 ((N : Nat) : Int), by rw [← hN]; exact cells_at c2 (i := 0) rfl, ?_⟩
    refine ⟨((N : Nat) : Int), cap_u8 hN4, ?_⟩
    refine ⟨Nat, fun c => ⟨[(3, u8 more), (4, .pointer (some ⟨L, 0, none⟩)), (9, .pointer (some ⟨P, 0, none⟩)), (11, .pointer (some ⟨t, 0, none⟩)), (14, .func (.func 24) #[] #[.pointer (some ⟨L, 0, none⟩), .pointer (some ⟨P, 0, none⟩)]), (15, .pointer (some ⟨u, 0, none⟩)), (17, .int .u64 (toldV md mk al N : Nat)), (18, .int .u64 (toldV md mt al N : Nat)), (101, .int .u8 (N : Nat)), (102, .int .u8 (c : Nat))], []⟩, fun c Z => c ≤ N ∧ VwB X t N md mk al Z ∧ VwB X u N md mt al Z, fun c => N - c, 0,
      ⟨.cons rfl (.cons rfl (.cons rfl (.cons rfl (.cons rfl (.cons rfl (.cons rfl (.cons rfl (.cons rfl (.cons rfl .nil))))))))), rfl⟩, ⟨Nat.zero_le _, hV, hU⟩, ?_⟩
    clear hV hU hZ' c1 c2 c3 hp
    rintro c Z ⟨hcN, hV, hU⟩
    dsimp only at hcN ⊢
    refine And.intro (fun hc => ?_) (fun hc => ?_)
    · have hc : (c : Int) < (N : Int) := of_decide_eq_true hc
      have hcl : c < N := by omega
      have hcu : (UInt8.ofNat c).toNat = c := by rw [UInt8.toNat_ofNat']; omega
      have hu : u8 (UInt8.ofNat c) = Value.int .u8 ((c : Nat) : Int) := by unfold u8; rw [hcu]
      have hZ' := hX.below hV.b
      refine ⟨by omega, _, shr_lit (k := c) (by omega), ?_⟩
      refine ⟨_, bit_and (c := c) (l16 hV.m), ?_⟩
      have hG := goes_c (c := UInt8.ofNat c) hZ'.b.size hZ'.c (block_below hV.b fPX) hZ'.v hZ'.T h1 (saX.below hV.b) hf
      rw [hu] at hG
      refine Calls.mono hG ?_
      rintro e V ⟨rfl, hbV⟩
      rw [hla]
      have hd := hgo (UInt8.ofNat c) (by rw [hcu]; exact hcl)
      rw [hcu] at hd
      obtain ⟨t1, t2⟩ := Tt c hcl
      refine ⟨by omega, _, shr_lit (k := (nodeU N (toN a N) (UInt8.ofNat c)).toNat) (by omega), ?_⟩
      refine ⟨_, bit_and (c := (nodeU N (toN a N) (UInt8.ofNat c)).toNat) (l16 hU.m), ?_⟩
      refine brN (by rw [hd, t2]; simp) ?_
      refine ⟨((c + 1 : Nat) : Int), (wrap_u8 (by omega)).trans (by omega), ?_⟩
      exact ⟨c + 1, ⟨.cons rfl (.cons rfl (.cons rfl (.cons rfl (.cons rfl (.cons rfl (.cons rfl (.cons rfl (.cons rfl (.cons rfl .nil))))))))), rfl⟩, ⟨hcl, hV.below hbV, hU.below hbV⟩, by omega⟩
    · exact ⟨(), ⟨.cons rfl (.cons rfl (.cons rfl (.cons rfl (.cons rfl (.cons rfl .nil))))), rfl⟩, hV, hU⟩
  clear hV hU
  rintro _ Z ⟨hV, hU⟩
  -- one more
  have hZ' := hX.below hV.b
  obtain ⟨pc, rest, hp, c1, c2, c3, hm, hlw⟩ := hZ'.wc.cells
  refine ⟨i64 ((N : Nat) : Int), by rw [← hN]; exact cells_at c2 (i := 0) rfl, ?_⟩
  refine ⟨((N : Nat) : Int), cap_u8 hN4, ?_⟩
  obtain ⟨e1, e2⟩ := mod_u8 (x := more) hN1 hN4
  refine ⟨by omega, _, e1, ?_⟩
  generalize UInt8.ofNat (more.toNat % N) = c at e2 ⊢
  clear e1 c1 c2 c3 hp hm hlw hZ'
  obtain ⟨n1, n2, n3⟩ := Tn c.toNat e2
  obtain ⟨mn, hmn⟩ : ∃ mn, mn = turnV N (decide (md = 3)) (toN a N) md (noteV md c.toNat mk al).1 := ⟨_, rfl⟩
  have n4 := (vt n1 n2).lt
  rw [← hmn] at n3 n4
  refine ⟨Nat, fun x => ⟨[(4, .pointer (some ⟨L, 0, none⟩)), (9, .pointer (some ⟨P, 0, none⟩)), (14, .func (.func 24) #[] #[.pointer (some ⟨L, 0, none⟩), .pointer (some ⟨P, 0, none⟩)]), (15, .pointer (some ⟨u, 0, none⟩)), (20, u8 c), (21, .pointer (some ⟨x, 0, none⟩)), (22, i64 0)], []⟩, fun x Z => VwB X u N md mt al Z ∧ Z.heap[x]? = some (.cells (viewC md mn (noteV md c.toNat mk al).2).toArray 63 (0, 0)), ?_, ?_⟩
  · refine DrawE.treeQ [10] (.op 0 (.op 1 (.op 2 (.op 4 (.alt (.op 9 (.op 3 (.op 5 (.op 6 (.op 7 (.op 8 (.op 10 (.op 11 .nil)))))))) (.op 3 (.alt (.op 9 (.op 5 (.op 6 (.op 7 (.op 8 (.op 10 (.op 11 .nil))))))) (.op 5 (.op 6 (.op 7 (.op 8 (.op 9 (.op 10 (.op 11 .nil)))))))))))))) (by kernel_rfl) ?_
    have hbd : Below Z.heap.size Z Z.drew := (Below.refl _ Z).drew
    have hVD := hV.below hbd
    have hUD := hU.below hbd
    have hD := hX.below hVD.b
    have em : turnV a.length (decide (md = 3)) (toN a a.length) md (noteV md c.toNat mk al).1 = mn := by rw [hla, hmn]
    refine ⟨vs, hw.len, cells_block hD.c, hlt hD.c, ?_⟩
    refine ⟨viewC md mk al, rfl, cells_block hVD.f, hlt hVD.f, ?_⟩
    refine ⟨_, cells_at (cells_block (block_below hVD.b fPX)) (i := 0) rfl, ?_⟩
    have fin : ∀ (U : World) (x : Nat), VwB X u N md mt al U → X.heap.size ≤ x → u ≠ x → ∀ w', w' = U.setRow x (viewC md mn (noteV md c.toNat mk al).2).toArray → U.heap[x]? = some (.cells (viewC 0 0 false).toArray 63 (0, 0)) → VwB X u N md mt al w' ∧ w'.heap[x]? = some (.cells (viewC md mn (noteV md c.toNat mk al).2).toArray 63 (0, 0)) := fun U x hU hx hux w' hw' fx => by
      subst hw'
      exact ⟨⟨hU.h, below_setRow hU.b hx _, (setRow_old hux).trans hU.f, hU.m, hU.r⟩, setRow_new fx⟩
    refine And.intro ?_ ?_
    · have f0 := hnew Z.drew (.cells (viewC 0 0 false).toArray 63)
      have hb0 : Below Z.drew.heap.size Z.drew (Z.drew.alloc (.cells (viewC 0 0 false).toArray 63)) := (Below.refl _ _).alloc (Nat.le_refl _) _
      refine ⟨hb0, ?_⟩
      refine Calls.mono (Note_c (kd := md) (mk := mk) (al := al) (c := c) hk hVD.m (by omega)) ?_
      rintro e V ⟨rfl, hbV⟩
      refine ⟨hbV, ?_⟩
      have hVV := (hVD.below hb0).below hbV
      have hW := hX.below hVV.b
      refine Calls.mono (ViewG_c (kd := md) hW.b.size hW.v hW.T h1 (saX.below hVV.b) (by omega) hf) ?_
      rintro e U ⟨rfl, hbU⟩
      refine ⟨hbU, ?_⟩
      rw [em]
      have fU := block_below hbU (block_below hbV f0)
      refine store_box (T := 63) (ttOk.get 63 _ rfl) fU (v := .agg (viewC md mn (noteV md c.toNat mk al).2).toArray) rfl rfl rfl ?_
      exact ⟨Z.drew.heap.size, ⟨.cons rfl (.cons rfl (.cons rfl (.cons rfl (.cons rfl (.cons rfl (.cons rfl .nil)))))), rfl⟩, fin U Z.drew.heap.size (((hUD.below hb0).below hbV).below hbU) hVD.b.size (Nat.ne_of_lt (hlt hUD.f)) _ rfl fU⟩
    refine Calls.mono (Note_c (kd := md) (mk := mk) (al := al) (c := c) hk hVD.m (by omega)) ?_
    rintro e V ⟨rfl, hbV⟩
    refine ⟨hbV, ?_⟩
    have hVV := hVD.below hbV
    have hUV := hUD.below hbV
    refine And.intro ?_ ?_
    · have f0 := hnew V (.cells (viewC 0 0 false).toArray 63)
      have hb0 : Below V.heap.size V (V.alloc (.cells (viewC 0 0 false).toArray 63)) := (Below.refl _ _).alloc (Nat.le_refl _) _
      refine ⟨hb0, ?_⟩
      have hW := hX.below (hVV.below hb0).b
      refine Calls.mono (ViewG_c (kd := md) hW.b.size hW.v hW.T h1 (saX.below (hVV.below hb0).b) (by omega) hf) ?_
      rintro e U ⟨rfl, hbU⟩
      refine ⟨hbU, ?_⟩
      rw [em]
      have fU := block_below hbU f0
      refine store_box (T := 63) (ttOk.get 63 _ rfl) fU (v := .agg (viewC md mn (noteV md c.toNat mk al).2).toArray) rfl rfl rfl ?_
      exact ⟨V.heap.size, ⟨.cons rfl (.cons rfl (.cons rfl (.cons rfl (.cons rfl (.cons rfl (.cons rfl .nil)))))), rfl⟩, fin U V.heap.size ((hUV.below hb0).below hbU) hVV.b.size (Nat.ne_of_lt (hlt hUV.f)) _ rfl fU⟩
    · have hW := hX.below hVV.b
      refine Calls.mono (ViewG_c (kd := md) hW.b.size hW.v hW.T h1 (saX.below hVV.b) (by omega) hf) ?_
      rintro e U ⟨rfl, hbU⟩
      refine ⟨hbU, ?_⟩
      rw [em]
      have f0 := hnew U (.cells (viewC 0 0 false).toArray 63)
      have hb0 : Below U.heap.size U (U.alloc (.cells (viewC 0 0 false).toArray 63)) := (Below.refl _ _).alloc (Nat.le_refl _) _
      refine ⟨hb0, ?_⟩
      have hUU := hUV.below hbU
      refine store_box (T := 63) (ttOk.get 63 _ rfl) f0 (v := .agg (viewC md mn (noteV md c.toNat mk al).2).toArray) rfl rfl rfl ?_
      exact ⟨U.heap.size, ⟨.cons rfl (.cons rfl (.cons rfl (.cons rfl (.cons rfl (.cons rfl (.cons rfl .nil)))))), rfl⟩, fin _ U.heap.size (hUU.below hb0) hUU.b.size (Nat.ne_of_lt (hlt hUU.f)) _ rfl f0⟩
  clear hV hU
  rintro x Z ⟨hU, fx⟩
  -- the end
  refine DrawE.ord [] [0, 1, 2, 3, 4, 5, 6, 8, 9, 10, 13, 14, 15, 7, 11, 12, 16, 17, 18, 19, 20, 21, 22] (by kernel_rfl) ?_
  have hbd : Below Z.heap.size Z Z.drew := (Below.refl _ Z).drew
  have hUD := hU.below hbd
  have hD := hX.below hUD.b
  obtain ⟨pc, rest, hp, c1, c2, c3, hm, hlw⟩ := hD.wc.cells
  refine brT ?_
  refine ⟨viewC md mn (noteV md c.toNat mk al).2, rfl, cells_block (block_below hbd fx), hlt (block_below hbd fx), ?_⟩
  refine ⟨i64 ((N : Nat) : Int), by rw [← hN]; exact cells_at c2 (i := 0) rfl, ?_⟩
  refine ⟨viewC md mt al, rfl, cells_block hUD.f, hlt hUD.f, ?_⟩
  refine ⟨i64 ((N : Nat) : Int), by rw [← hN]; exact cells_at c2 (i := 0) rfl, ?_⟩
  refine Calls.mono (Told_c hk n4 hN1 hN4 (hZ.below hD.b)) ?_
  rintro e V ⟨rfl, hbV⟩
  refine ⟨hbV, ?_⟩
  have hUV := hUD.below hbV
  have hV := hX.below hUV.b
  refine Calls.mono (goes_c (c := c) hV.b.size hV.c (block_below hUV.b fPX) hV.v hV.T h1 (saX.below hUV.b) hf) ?_
  rintro e V2 ⟨rfl, hbV2⟩
  refine ⟨hbV2, ?_⟩
  rw [hla]
  have hd := hgo c e2
  obtain ⟨t1, t2⟩ := Tt c.toNat e2
  refine Calls.mono (Note_c (kd := md) (mk := mt) (al := al) (c := nodeU N (toN a N) c) hk hU.m (by omega)) ?_
  rintro e V3 ⟨rfl, hbV3⟩
  refine ⟨hbV3, ?_⟩
  have hU3 := (hUV.below hbV2).below hbV3
  have hm3 : (noteV md (nodeU N (toN a N) c).toNat mt al).1 < 16 := ((vt Tl Tr).note _ (by omega)).1
  refine Calls.mono (Told_c hk hm3 hN1 hN4 (hZ.below (hX.below hU3.b).b)) ?_
  rintro e V4 ⟨rfl, hbV4⟩
  refine ⟨hbV4, ?_⟩
  have hU4 := hU3.below hbV4
  refine brE (by rw [hd, n3]; exact decide_eq_true rfl) ?_
  have h4 := hX.below hU4.b
  refine Calls.mono (awake_c h4.T) ?_
  rintro e V5 ⟨rfl, hbV5⟩
  refine ⟨hbV5, ?_⟩
  exact ⟨rfl, (h4.below hbV5).b⟩
end
end Go.Proofs.YthmddpoodknclaaDoor
namespace Go.Proofs.YthmddpoodknclaaDoor
open Go.Vc Go.RowKit Go.Sei
open Go.ChangeShapes Go.WideShapes Go.ChangeAt
set_option linter.unusedVariables false

section
variable {H : Type} {enc : TypeId × Value → H} {P : Program} {w : World} {base : Nat} {spare : Nat → Bool} {held : Bool} {fuel : Nat} {t : TypeId} {cs : List Value} {x : DataW H × List MemPlace}
theorem open_u8 (ht : P.underlying t = some (.int .u8)) (h : DataW.trod enc P w base spare held fuel t cs = some x) : ∃ b : UInt8, cs = [u8 b] ∧ x.1 = .lit (.int .u8 b.toNat) := by
  obtain ⟨n, rfl, rfl, hw⟩ := DataW.trod_int ht h
  have hb := bounds_u8 hw
  have e : ((UInt8.ofNat n.toNat).toNat : Int) = n := by
    rw [UInt8.toNat_ofNat']; omega
  exact ⟨UInt8.ofNat n.toNat, by rw [u8, e], by rw [e]⟩

theorem open_u8s {n : Nat} {e : TypeId} (ht : P.underlying t = some (.array n e)) (he : P.underlying e = some (.int .u8)) (hc : P.cellsOf e = 1) (hn : P.cellsOf t = n)
    (h : DataW.trod enc P w base spare held fuel t cs = some x) : ∃ bs : List UInt8, bs.length = n ∧ cs = bs.map u8 ∧ x.1 = .agg (bs.map fun b => .lit (.int .u8 b.toNat)) := by
  obtain ⟨xs, m, rfl, rfl, hl, hx, hel⟩ := DataW.trod_array ht h
  rw [hn] at hl
  have each : ∀ i (h : i < n), ∃ b : UInt8, cs[i]? = some (u8 b) ∧ xs[i]?.map (·.1) = some (.lit (.int .u8 b.toNat)) := fun i hi => by
    have h1 := hel i hi
    rw [hc, List.getElem?_eq_getElem (by omega)] at h1
    obtain ⟨b, h2, h3⟩ := open_u8 he h1
    refine ⟨b, ?_, by rw [List.getElem?_eq_getElem (by omega), Option.map_some, h3]⟩
    have : ((cs.drop (i * 1)).take 1)[0]? = some (u8 b) := by rw [h2]; rfl
    simpa using this
  have : ∀ k, k ≤ n → ∃ bs : List UInt8, bs.length = k ∧ cs.take k = bs.map u8 ∧ (xs.take k).map (·.1) = bs.map fun b => .lit (.int .u8 b.toNat) := by
    intro k
    induction k with
    | zero => exact fun _ => ⟨[], rfl, by simp, by simp⟩
    | succ k ih =>
      intro hk
      obtain ⟨bs, h1, h2, h3⟩ := ih (by omega)
      obtain ⟨b, h4, h5⟩ := each k (by omega)
      have hk1 : k < cs.length := by omega
      have hk2 : k < xs.length := by omega
      rw [List.getElem?_eq_getElem hk1] at h4
      rw [List.getElem?_eq_getElem hk2] at h5
      refine ⟨bs ++ [b], by simp [h1], ?_, ?_⟩
      · rw [List.take_succ_eq_append_getElem hk1, h2, Option.some.inj h4]; simp
      · rw [List.take_succ_eq_append_getElem hk2, List.map_append, h3]
        simp at h5
        simp [h5]
  obtain ⟨bs, h1, h2, h3⟩ := this n (Nat.le_refl _)
  rw [List.take_of_length_le (by omega)] at h2 h3
  exact ⟨bs, h1, h2, by rw [← h3]⟩

theorem open_i (ht : P.underlying t = some (.int .i64)) (h : DataW.trod enc P w base spare held fuel t cs = some x) : ∃ b : Int, cs = [i64 b] ∧ x.1 = .lit (.int .i64 b) := by
  obtain ⟨n, rfl, rfl, _⟩ := DataW.trod_int ht h
  exact ⟨n, rfl, rfl⟩
theorem open_is {n : Nat} {e : TypeId} (ht : P.underlying t = some (.array n e)) (he : P.underlying e = some (.int .i64)) (hc : P.cellsOf e = 1) (hn : P.cellsOf t = n)
    (h : DataW.trod enc P w base spare held fuel t cs = some x) : ∃ bs : List Int, bs.length = n ∧ cs = bs.map i64 ∧ x.1 = .agg (bs.map fun b => .lit (.int .i64 b)) := by
  obtain ⟨xs, m, rfl, rfl, hl, hx, hel⟩ := DataW.trod_array ht h
  rw [hn] at hl
  have each : ∀ i (h : i < n), ∃ b : Int, cs[i]? = some (i64 b) ∧ xs[i]?.map (·.1) = some (.lit (.int .i64 b)) := fun i hi => by
    have h1 := hel i hi
    rw [hc, List.getElem?_eq_getElem (by omega)] at h1
    obtain ⟨b, h2, h3⟩ := open_i he h1
    refine ⟨b, ?_, by rw [List.getElem?_eq_getElem (by omega), Option.map_some, h3]⟩
    have : ((cs.drop (i * 1)).take 1)[0]? = some (i64 b) := by rw [h2]; rfl
    simpa using this
  have : ∀ k, k ≤ n → ∃ bs : List Int, bs.length = k ∧ cs.take k = bs.map i64 ∧ (xs.take k).map (·.1) = bs.map fun b => .lit (.int .i64 b) := by
    intro k
    induction k with
    | zero => exact fun _ => ⟨[], rfl, by simp, by simp⟩
    | succ k ih =>
      intro hk
      obtain ⟨bs, h1, h2, h3⟩ := ih (by omega)
      obtain ⟨b, h4, h5⟩ := each k (by omega)
      have hk1 : k < cs.length := by omega
      have hk2 : k < xs.length := by omega
      rw [List.getElem?_eq_getElem hk1] at h4
      rw [List.getElem?_eq_getElem hk2] at h5
      refine ⟨bs ++ [b], by simp [h1], ?_, ?_⟩
      · rw [List.take_succ_eq_append_getElem hk1, h2, Option.some.inj h4]; simp
      · rw [List.take_succ_eq_append_getElem hk2, List.map_append, h3]
        simp at h5
        simp [h5]
  obtain ⟨bs, h1, h2, h3⟩ := this n (Nat.le_refl _)
  rw [List.take_of_length_le (by omega)] at h2 h3
  exact ⟨bs, h1, h2, by rw [← h3]⟩

end
theorem cells5 : Tryd.prog.cellsOf 5 = 1 := by kernel_rfl
theorem cells4 : Tryd.prog.cellsOf 4 = 1 := by kernel_rfl
theorem add_none (b o i : Nat) : (⟨b, o, none⟩ : Addr).add i = ⟨b, o + i, none⟩ := by
  unfold Addr.add
  by_cases h : i = 0
  · simp [h]
  · simp [h]

section
variable {w : World} {base : Nat} {cs : List Value}
theorem cells_of_run {a : Addr} {n : Nat} (hn : 0 < n) (h : w.cells? base a n = some cs) : a.spot = none ∧ a.block < w.heap.size ∧ Cells w ⟨a.block, a.off, none⟩ cs := by
  obtain ⟨_, hl, hc⟩ := World.cells?_some h
  have h0 := hc 0 hn
  rw [List.getElem?_eq_getElem (by omega)] at h0
  have hs : a.spot = none := by simpa [Addr.add] using World.cell?_spot h0
  obtain ⟨b, o, s⟩ := a
  dsimp only at hs
  subst hs
  refine ⟨rfl, World.block_lt_of_cell? _ _ h0, cells_mk fun i v hv => ?_⟩
  have hi : i < n := by have := (List.getElem?_eq_some_iff.1 hv).1; omega
  have := (hc i hi).trans hv
  rw [add_none] at this
  exact this

end
theorem ok_slice {P : Program} {w : World} {r : Reach} {base : Nat} {t e : TypeId} {v : Value} (ht : P.underlying t = some (.slice e)) (h : Value.okWide P w r base t v) :
    ∃ a len cap, v = .slice a len cap ∧ len ≤ cap ∧ (a = none → cap = 0) := by
  simp only [Value.okWide, ht, Cell.okWide] at h
  cases v with
  | slice a len cap =>
    cases a with
    | none =>
      refine ⟨none, len, cap, rfl, ?_⟩
      unfold Cell.ok at h
      rw [ht] at h
      split at h <;> simp_all
    | some a =>
      refine ⟨some a, len, cap, rfl, ?_, fun h => by cases h⟩
      unfold Cell.ok at h
      rw [ht] at h
      split at h <;> simp_all
  | _ => simp_all [Cell.ok]

theorem seat_own : ownKnob Tryd.prog.godebug = none := by kernel_rfl
theorem seat_laidOut : laidOutB Tryd.prog = true := by kernel_rfl
section
variable {H : Type} {enc : TypeId × Value → H} {P : Program} {w : World} {base : Nat} {spare : Nat → Bool} {held : Bool} {fuel : Nat} {t e : TypeId} {cs : List Value} {x : DataW H × List MemPlace}
/-- What every reading of a type's cells comes to. -/
def Opens (enc : TypeId × Value → H) (P : Program) (w : World) (base : Nat) (spare : Nat → Bool) (held : Bool) (t : TypeId) (R : List Value → Prop) : Prop :=
  ∀ fuel cs x, DataW.trod enc P w base spare held fuel t cs = some x → R cs
theorem Opens.field {fs : Array Field} {R : List Value → Prop} {i : Nat} {f : Field} {n : Nat} {xs : List (DataW H × List MemPlace)} {m : Nat} (hel : ∀ (i : Nat) (f : Field), fs[i]? = some f → DataW.trod enc P w base spare held m f.type ((cs.drop f.offset).take (P.cellsOf f.type)) = xs[i]?)
    (hl : xs.length = fs.size) (hi : fs[i]? = some f) {o : Nat} (hoo : f.offset = o) (hn : P.cellsOf f.type = n) (ho : Opens enc P w base spare held f.type R) : R ((cs.drop o).take n) := by
  subst hoo
  have h1 := hel i f hi
  have : i < fs.size := (Array.getElem?_eq_some_iff.1 hi).1
  rw [List.getElem?_eq_getElem (by omega), hn] at h1
  exact ho _ _ _ h1
theorem opens_u8 (ht : P.underlying t = some (.int .u8)) : Opens enc P w base spare held t fun cs => ∃ b : UInt8, cs = [u8 b] := fun fuel cs x h => by
  obtain ⟨b, h, _⟩ := open_u8 ht h
  exact ⟨b, h⟩
theorem opens_bool (ht : P.underlying t = some .bool) : Opens enc P w base spare held t fun cs => ∃ b : Bool, cs = [.bool b] := fun fuel cs x h => by
  obtain ⟨b, h, _⟩ := DataW.trod_bool ht h
  exact ⟨b, h⟩
theorem opens_int (ht : P.underlying t = some (.int .i64)) : Opens enc P w base spare held t fun cs => ∃ b : Int, cs = [.int .i64 b] := fun fuel cs x h => by
  obtain ⟨n, h, _, _⟩ := DataW.trod_int ht h
  exact ⟨n, h⟩
theorem opens_u64 (ht : P.underlying t = some (.int .u64)) : Opens enc P w base spare held t fun cs => ∃ n : Nat, n < 18446744073709551616 ∧ cs = [.int .u64 (n : Int)] := fun fuel cs x h => by
  obtain ⟨n, rfl, _, hw⟩ := DataW.trod_int ht h
  have hb : 0 ≤ n ∧ n ≤ 18446744073709551615 := by
    simp only [Lit.wf, decide_eq_true_eq, Bool.and_eq_true] at hw
    first
      | exact ⟨by simpa [IntKind.min, IntKind.signed, IntKind.bits] using hw.1, by simpa [IntKind.max, IntKind.signed, IntKind.bits] using hw.2⟩
      | (simp [IntKind.min, IntKind.max, IntKind.signed, IntKind.bits] at hw; omega)
  exact ⟨n.toNat, by omega, by congr 2; omega⟩
theorem opens_u8s {n : Nat} (ht : P.underlying t = some (.array n e)) (he : P.underlying e = some (.int .u8)) (hc : P.cellsOf e = 1) (hn : P.cellsOf t = n) : Opens enc P w base spare held t fun cs => ∃ bs : List UInt8, bs.length = n ∧ cs = bs.map u8 := fun fuel cs x h => by
  obtain ⟨bs, h1, h2, _⟩ := open_u8s ht he hc hn h
  exact ⟨bs, h1, h2⟩

theorem list_of {β : Type} {n : Nat} (i0 : β) {Q : Nat → β → Prop} (h : ∀ i, i < n → ∃ b, Q i b) : ∃ bs : List β, bs.length = n ∧ ∀ i (hi : i < bs.length), Q i bs[i] := by
  have h2 : ∀ i, ∃ b, i < n → Q i b := fun i => by
    by_cases hi : i < n
    · obtain ⟨b, hb⟩ := h i hi; exact ⟨b, fun _ => hb⟩
    · exact ⟨i0, fun h => absurd h hi⟩
  obtain ⟨g, hg⟩ := Classical.axiomOfChoice h2
  refine ⟨(List.range n).map g, by simp, fun i hi => ?_⟩
  simp only [List.getElem_map, List.getElem_range]
  exact hg i (by simpa using hi)
theorem flat_of {β : Type} {f : β → List Value} {sz : Nat} : ∀ (bs : List β) (cs : List Value), cs.length = bs.length * sz → (∀ i (h : i < bs.length), (cs.drop (i * sz)).take sz = f bs[i]) → cs = bs.flatMap f
  | [], cs, hl, _ => by simpa using hl
  | b :: r, cs, hl, h => by
    have h0 := h 0 (by simp)
    simp only [Nat.zero_mul, List.drop_zero, List.getElem_cons_zero] at h0
    rw [List.flatMap_cons, ← h0]
    conv => lhs; rw [← List.take_append_drop sz cs]
    congr 1
    refine flat_of (sz := sz) r (cs.drop sz) (by rw [List.length_drop, hl, List.length_cons, Nat.add_mul]; omega) fun i hi => ?_
    have h1 := h (i + 1) (by simpa using hi)
    rw [List.drop_drop]
    simpa [Nat.add_mul, Nat.add_comm] using h1
theorem opens_arr {β : Type} (i0 : β) {f : β → List Value} {Q : β → Prop} {n sz : Nat} (ht : P.underlying t = some (.array n e)) (hc : P.cellsOf e = sz) (hn : P.cellsOf t = n * sz) (ho : Opens enc P w base spare held e fun cs => ∃ b, Q b ∧ cs = f b) :
    Opens enc P w base spare held t fun cs => ∃ bs : List β, bs.length = n ∧ (∀ b ∈ bs, Q b) ∧ cs = bs.flatMap f := fun fuel cs x h => by
  obtain ⟨xs, m, rfl, rfl, hl, hx, hel⟩ := DataW.trod_array ht h
  rw [hn] at hl
  have each : ∀ i, i < n → ∃ b : β, Q b ∧ (cs.drop (i * sz)).take sz = f b := fun i hi => by
    have h1 := hel i hi
    rw [hc, List.getElem?_eq_getElem (by omega)] at h1
    exact ho _ _ _ h1
  obtain ⟨bs, h1, h2⟩ := list_of i0 each
  refine ⟨bs, h1, fun b hb => ?_, flat_of bs cs (by rw [hl, h1]) fun i hi => (h2 i hi).2⟩
  obtain ⟨i, hi, rfl⟩ := List.getElem_of_mem hb
  exact (h2 i hi).1
theorem opens_sl {β : Type} (i0 : β) {f : β → List Value} {Q : β → Prop} {sz : Nat} (hp : 0 < sz) (ht : P.underlying t = some (.slice e)) (hc : P.cellsOf e = sz) (ho : Opens enc P w base spare held e fun cs => ∃ b, Q b ∧ cs = f b) :
    Opens enc P w base spare held t fun cs => ∃ (p : Option Addr) (cap : Nat) (l : List β), cs = [.slice p l.length cap] ∧ l.length ≤ 9223372036854775807 ∧ (p = none → cap = 0) ∧ (∀ b ∈ l, Q b) ∧ ∃ b o, (l.length = 0 ∨ p = some ⟨b, o, none⟩) ∧ ∀ i (hi : i < l.length), b < w.heap.size ∧ Cells w ⟨b, o + i * sz, none⟩ (f l[i]) := fun fuel cs x h => by
  rcases DataW.trod_slice ht h with ⟨rfl, _⟩ | ⟨a, len, cap, elems, rest, n, _, rfl, _, _, hlc, hcm, hlen, hel, _, _⟩
  · exact ⟨none, 0, [], rfl, by simp, fun _ => rfl, by simp, 0, 0, .inl rfl, fun i hi => by simp at hi⟩
  · have each : ∀ i, i < len → ∃ m : β, Q m ∧ (a.add (i * sz)).spot = none ∧ (a.add (i * sz)).block < w.heap.size ∧ Cells w ⟨(a.add (i * sz)).block, (a.add (i * sz)).off, none⟩ (f m) := fun i hi => by
      have h1 := hel i hi
      rw [hc, List.getElem?_eq_getElem (by omega), Option.bind_eq_some_iff] at h1
      obtain ⟨cs, h2, h3⟩ := h1
      obtain ⟨m, hq, rfl⟩ := ho _ _ _ h3
      exact ⟨m, hq, cells_of_run hp h2⟩
    obtain ⟨l, h1, h2⟩ := list_of i0 each
    have hm : maxLen = 9223372036854775807 := rfl
    refine ⟨some a, cap, l, by rw [h1], by omega, (fun h => by cases h), fun b hb => ?_, a.block, a.off, ?_, fun i hi => ?_⟩
    · obtain ⟨i, hi, rfl⟩ := List.getElem_of_mem hb
      exact (h2 i hi).1
    · by_cases h00 : l.length = 0
      · exact .inl h00
      · right
        have hsp : a.spot = none := by
          have := (h2 0 (by omega)).2.1
          simpa [Addr.add] using this
        obtain ⟨b, o, s⟩ := a
        dsimp only at hsp
        subst hsp
        rfl
    · have hsp : a.spot = none := by
        have := (h2 0 (by omega)).2.1
        simpa [Addr.add] using this
      obtain ⟨b, o, s⟩ := a
      dsimp only at hsp
      subst hsp
      have := (h2 i hi).2.2
      rw [add_none] at this
      exact this
theorem cut (cs : List Value) (o n o' : Nat) (h : o + n = o') : cs.drop o = (cs.drop o).take n ++ cs.drop o' := by
  rw [← h, ← List.drop_drop, List.take_append_drop]
end
theorem cC (t n : Nat) (h : Tryd.prog.cellsOf t = n) : Tryd.prog.cellsOf t = n := h
theorem returns_and_sized {H : Type} {enc : TypeId × Value → H} {a : Assume} {C : Checked} {os : Os} {f : FuncId} {fn : Func} {s : ChangeSpec} {conds : List PathCond} {apart fresh handsOn again : Bool} {X : World → Array Value → Prop}
    (hX : ∀ (w w' : World) (args : Array Value), w.heap = w'.heap → X w args → X w' args)
    (own : ownKnob C.prog.godebug = none) (started : os.Started) (noInit : C.prog.inits.idxOf? f = none) (hfn : C.prog.funcs[f]? = some fn)
    (witness : ∃ (w : World) (tape : Tape) (i : Input), w.os = os ∧ (w.forCall tape i).Shaped C.prog ∧ i.vars = [] ∧ Input.okWide C.prog (w.forCall tape i) .any w.heap.size f i ∧
      ((s.pre enc C.prog fn conds apart (w.forCall tape i).memory i.args ∧ X (w.forCall tape i).memory i.args) ∧ sizedMet enc C.prog fn (OpenSpec.ofChange s) apart (w.forCall tape i).memory i.args) ∧ a.holds C.prog (lone (Frame.enter C.prog f i.args .normal) [] (w.forCall tape i)))
    (contract : ∀ (W : World) (base : Nat) (args : Array Value) (ds gs : List (DataW H)) (before : List MemPlace),
      (∀ (j : Nat) t v, fn.params[j]? = some t → args[j]? = some v → Value.okWide C.prog W .any base t v) →
      DataW.Whole enc C.prog fn.params.toList s.vars apart W args.toList ds gs before → X W args → W.ShapedOpen C.prog →
      (∃ ds gs before, DataW.Whole enc C.prog fn.params.toList (OpenSpec.ofChange s).vars apart W args.toList ds gs before ∧ ∀ n ∈ DataW.weightsEach C.prog (fn.params.toList ++ (OpenSpec.ofChange s).bare.plain.varTypes C.prog) (ds ++ gs), n ≤ reachBytes) →
      Calls C.prog f args W fun e W' => ∃ v, e = .returned v ∧ s.post enc C.prog fn apart fresh handsOn again W args v W') :
    ReturnsInHanded a C os f .any (fun w args => (s.pre enc C.prog fn conds apart w args ∧ X w args) ∧ sizedMet enc C.prog fn (OpenSpec.ofChange s) apart w args) (s.post enc C.prog fn apart fresh handsOn again) := by
  refine returnsInHanded_of_calls own started noInit witness ?_
  intro w tape i _ hsh _ hok hpre hholds
  obtain ⟨_, _, _, fn', hfn', _, _, _, _, hval⟩ := hok
  have e : fn' = fn := Option.some.inj (hfn'.symm.trans hfn)
  subst e
  obtain ⟨⟨⟨ds, gs, before, hw, hc⟩, hx⟩, hz⟩ := hpre
  have hw' := DataW.Whole.of_heap (w' := w.forCall tape i) (by rfl) hw
  obtain ⟨_, ds2, gs2, before2, hw2, hall⟩ := hz
  refine (contract (w.forCall tape i) w.heap.size i.args ds gs before hval hw' (hX _ _ _ (by rfl) hx) hsh ⟨ds2, gs2, before2, DataW.Whole.of_heap (w' := w.forCall tape i) (by rfl) hw2, fun n hn => of_decide_eq_true (List.all_eq_true.1 hall n hn)⟩).mono fun e W' ⟨v, he, hp⟩ => ?_
  subst he
  exact ChangeSpec.post_blind hp

section
variable {H : Type} {enc : TypeId × Value → H} {P : Program} {w : World} {base : Nat} {spare : Nat → Bool} {held : Bool} {fuel : Nat} {t : TypeId} {cs : List Value} {x : DataW H × List MemPlace}
/-- All weights of a reading lie within the reach. -/
def Wgt (P : Program) (t : TypeId) (d : DataW H) : Prop := ∀ n ∈ d.weights P t, n ≤ reachBytes
theorem wgt_mem {ds : List (DataW H)} {e : TypeId} (h : ∀ n ∈ DataW.weightsAll P e ds, n ≤ reachBytes) : ∀ d ∈ ds, Wgt P e d := by
  induction ds with
  | nil => intro d hd; cases hd
  | cons a r ih =>
    intro d hd
    simp only [DataW.weightsAll, List.mem_append] at h
    rcases List.mem_cons.1 hd with rfl | hd
    · exact fun n hn => h n (.inl hn)
    · exact ih (fun n hn => h n (.inr hn)) d hd
theorem wgt_slice {e : TypeId} (ht : P.underlying t = some (.slice e)) {a : Option Addr} {len cap : Nat} (h : DataW.trod enc P w base spare held fuel t [.slice a len cap] = some x) (hw : Wgt P t x.1) (hb : Nat.ble 1 (P.bytesOf e) = true) :
    len ≤ reachBytes ∧ ∀ i, i < len → ∃ aa cs n y, a = some aa ∧ w.cells? base (aa.add (i * P.cellsOf e)) (P.cellsOf e) = some cs ∧ DataW.trod enc P w base spare held n e cs = some y ∧ Wgt P e y.1 := by
  rcases DataW.trod_slice ht h with ⟨hcs, hx⟩ | ⟨aa, l, c, elems, rest, n, _, hcs, hx, _, _, _, hlen, hel, _, _⟩
  · simp only [List.cons.injEq, Value.slice.injEq, and_true] at hcs
    obtain ⟨rfl, rfl, rfl⟩ := hcs
    exact ⟨Nat.zero_le _, fun i hi => absurd hi (Nat.not_lt_zero _)⟩
  · simp only [List.cons.injEq, Value.slice.injEq, and_true] at hcs
    obtain ⟨rfl, rfl, rfl⟩ := hcs
    subst hx
    have hw' : ∀ m, m ∈ ((elems.map (·.1)).length + (rest.map (·.1)).length) * P.bytesOf e :: (DataW.weightsAll P e (elems.map (·.1)) ++ DataW.weightsAll P e (rest.map (·.1))) → m ≤ reachBytes := fun m hm => by
      refine hw m ?_
      simp only [DataW.weights, ht]
      exact hm
    have hb := Nat.le_of_ble_eq_true hb
    constructor
    · have h1 := hw' _ List.mem_cons_self
      simp only [List.length_map] at h1
      have : elems.length * 1 ≤ (elems.length + rest.length) * P.bytesOf e := Nat.mul_le_mul (Nat.le_add_right _ _) hb
      omega
    · intro i hi
      have h1 := hel i hi
      rw [List.getElem?_eq_getElem (by omega), Option.bind_eq_some_iff] at h1
      obtain ⟨cs, h2, h3⟩ := h1
      refine ⟨aa, cs, n, _, rfl, h2, h3, ?_⟩
      refine wgt_mem (ds := elems.map (·.1)) (fun m hm => hw' m (List.mem_cons_of_mem _ (List.mem_append_left _ hm))) _ ?_
      exact List.mem_map_of_mem (List.getElem_mem _)
theorem wgt_field {fs : Array Field} (ht : P.underlying t = some (.struct fs)) (h : DataW.trod enc P w base spare held fuel t cs = some x) (hw : Wgt P t x.1) {i : Nat} {f : Field} (hf : fs[i]? = some f) {T o k : Nat} {vs : List Value} (hT : f.type = T) (hO : f.offset = o) (hk : P.cellsOf T = k) (hv : (cs.drop o).take k = vs) :
    ∃ n y, DataW.trod enc P w base spare held n T vs = some y ∧ Wgt P T y.1 := by
  subst hT hO hk hv
  obtain ⟨xs, n, rfl, rfl, hl, hx, hel⟩ := DataW.trod_struct ht h
  have h1 := hel i f hf
  have hi : i < xs.length := by rw [hx]; exact (Array.getElem?_eq_some_iff.1 hf).1
  rw [List.getElem?_eq_getElem hi] at h1
  refine ⟨n, _, h1, fun m hm => hw m ?_⟩
  simp only [DataW.weights, ht]
  refine DataW.weights_mem_each (j := i) (t := f.type) (d := xs[i].1) ?_ ?_ m hm
  · rw [List.getElem?_map]
    have : fs.toList[i]? = some f := by simpa using hf
    rw [this]; rfl
  · rw [List.getElem?_map, List.getElem?_eq_getElem hi]; rfl
end

end Go.Proofs.YthmddpoodknclaaDoor
namespace Go.Proofs.YthmddpoodknclaaDoor
open Go.Vc Go.RowKit Go.Sei
open Go.ChangeShapes Go.WideShapes Go.ChangeAt
set_option linter.unusedVariables false

theorem cell_one {P : Program} {w : World} {r : Reach} {base : Nat} {u : TypeId} {v : Value} (h : Cell.okWide P w r base u v) : v.oneCell' = true := by
  cases v with
  | agg cs =>
    exfalso
    unfold Cell.okWide at h
    split at h <;> rename_i h1 <;> first | cases h1 | skip
    all_goals
      unfold Cell.ok at h
      split at h <;> rename_i h2 <;> first | cases h2 | exact h
  | tuple cs =>
    exfalso
    unfold Cell.okWide at h
    split at h <;> rename_i h1 <;> first | cases h1 | skip
    all_goals
      unfold Cell.ok at h
      split at h <;> rename_i h2 <;> first | cases h2 | exact h
  | _ => rfl
theorem okWide_one {P : Program} {w : World} {r : Reach} {base : Nat} {t : TypeId} {a : Array Value} {fs : Array Field} (ht : P.underlying t = some (.struct fs)) (h : Value.okWide P w r base t (.agg a)) : a.toList.all Value.oneCell' = true := by
  unfold Value.okWide at h
  rw [ht] at h
  obtain ⟨cs, h0, _, ts, _, _, h1⟩ := h
  simp only [Value.agg.injEq] at h0
  subst h0
  rw [List.all_eq_true]
  intro v hv
  obtain ⟨i, hi, rfl⟩ := List.getElem_of_mem hv
  obtain ⟨u, _, h2⟩ := h1 i a.toList[i] (by simp)
  exact cell_one h2

section
variable {H : Type} {enc : TypeId × Value → H} {P : Program} {w : World} {base : Nat} {spare : Nat → Bool} {held : Bool} {fuel F : Nat} {t e : TypeId} {cs : List Value} {x : DataW H × List MemPlace}
/-- What every small enough reading of a type's cells comes to. -/
def OpensW (enc : TypeId × Value → H) (P : Program) (w : World) (base : Nat) (spare : Nat → Bool) (held : Bool) (F : Nat) (t : TypeId) (R : List Value → Prop) : Prop :=
  ∀ n, n < F → ∀ cs x, DataW.trod enc P w base spare held n t cs = some x → Wgt P t x.1 → R cs
theorem opensW_of {R : List Value → Prop} (h : Opens enc P w base spare held t R) : OpensW enc P w base spare held F t R := fun n _ cs x h1 _ => h n cs x h1
theorem OpensW.field {fs : Array Field} {R : List Value → Prop} (ht : P.underlying t = some (.struct fs)) (h : DataW.trod enc P w base spare held fuel t cs = some x) (hw : Wgt P t x.1) (hF : fuel ≤ F) {i : Nat} {f : Field} (hf : fs[i]? = some f) {T o k : Nat} (hT : f.type = T) (hO : f.offset = o) (hk : P.cellsOf T = k)
    (ho : OpensW enc P w base spare held F T R) : R ((cs.drop o).take k) := by
  subst hT hO hk
  obtain ⟨xs, n, rfl, rfl, hl, hx, hel⟩ := DataW.trod_struct ht h
  have h1 := hel i f hf
  have hi : i < xs.length := by rw [hx]; exact (Array.getElem?_eq_some_iff.1 hf).1
  rw [List.getElem?_eq_getElem hi] at h1
  refine ho n (by omega) _ _ h1 fun m hm => hw m ?_
  simp only [DataW.weights, ht]
  refine DataW.weights_mem_each (j := i) (t := f.type) (d := xs[i].1) ?_ ?_ m hm
  · rw [List.getElem?_map]
    have : fs.toList[i]? = some f := by simpa using hf
    rw [this]; rfl
  · rw [List.getElem?_map, List.getElem?_eq_getElem hi]; rfl
theorem opensW_str (ht : P.underlying t = some .string) : OpensW enc P w base spare held F t fun cs => ∃ s : List UInt8, s.length ≤ 140737488351232 ∧ cs = [strV s] := fun n _ cs x h hw => by
  obtain ⟨s, rfl, rfl, _⟩ := DataW.trod_string ht h
  refine ⟨s.data.toList, hw _ (by simp [DataW.weights]), ?_⟩
  unfold strV bs
  rw [Array.toArray_toList]
theorem opensW_sl {β : Type} (i0 : β) {f : β → List Value} {Q : β → Prop} {sz : Nat} (hp : 0 < sz) (ht : P.underlying t = some (.slice e)) (hc : P.cellsOf e = sz) (hb : Nat.ble 1 (P.bytesOf e) = true) (ho : OpensW enc P w base spare held F e fun cs => ∃ b, Q b ∧ cs = f b) :
    OpensW enc P w base spare held (F + 1) t fun cs => ∃ (p : Option Addr) (cap : Nat) (l : List β), cs = [.slice p l.length cap] ∧ (l.length ≤ 140737488351232 ∧ l.length * P.bytesOf e ≤ 140737488351232) ∧ l.length ≤ cap ∧ (∀ b ∈ l, Q b) ∧ ∃ b o, (l.length = 0 ∨ p = some ⟨b, o, none⟩) ∧ ∀ i (hi : i < l.length), b < w.heap.size ∧ Cells w ⟨b, o + i * sz, none⟩ (f l[i]) := fun n hn cs x h hw => by
  rcases DataW.trod_slice ht h with ⟨rfl, _⟩ | ⟨a, len, cap, elems, rest, n, rfl, rfl, hx, _, hlc, hcm, hlen, hel, _, _⟩
  · exact ⟨none, 0, [], rfl, ⟨by simp, by simp⟩, by simp, by simp, 0, 0, .inl rfl, fun i hi => by simp at hi⟩
  · subst hx
    have hw' : ∀ m, m ∈ ((elems.map (·.1)).length + (rest.map (·.1)).length) * P.bytesOf e :: (DataW.weightsAll P e (elems.map (·.1)) ++ DataW.weightsAll P e (rest.map (·.1))) → m ≤ reachBytes := fun m hm => by
      refine hw m ?_
      simp only [DataW.weights, ht]
      exact hm
    have hb := Nat.le_of_ble_eq_true hb
    have hlb : len ≤ 140737488351232 ∧ len * P.bytesOf e ≤ 140737488351232 := by
      have h1 := hw' _ List.mem_cons_self
      simp only [List.length_map] at h1
      have : elems.length * 1 ≤ (elems.length + rest.length) * P.bytesOf e := Nat.mul_le_mul (Nat.le_add_right _ _) hb
      have h2 : elems.length * P.bytesOf e ≤ (elems.length + rest.length) * P.bytesOf e := Nat.mul_le_mul (Nat.le_add_right _ _) (Nat.le_refl _)
      have hr : reachBytes = 140737488351232 := rfl
      rw [← hlen]
      omega
    have each : ∀ i, i < len → ∃ m : β, Q m ∧ (a.add (i * sz)).spot = none ∧ (a.add (i * sz)).block < w.heap.size ∧ Cells w ⟨(a.add (i * sz)).block, (a.add (i * sz)).off, none⟩ (f m) := fun i hi => by
      have h1 := hel i hi
      rw [hc, List.getElem?_eq_getElem (by omega), Option.bind_eq_some_iff] at h1
      obtain ⟨cs, h2, h3⟩ := h1
      obtain ⟨m, hq, rfl⟩ := ho n (by omega) _ _ h3 (wgt_mem (ds := elems.map (·.1)) (fun m hm => hw' m (List.mem_cons_of_mem _ (List.mem_append_left _ hm))) _ (List.mem_map_of_mem (List.getElem_mem _)))
      exact ⟨m, hq, cells_of_run hp h2⟩
    obtain ⟨l, h1, h2⟩ := list_of i0 each
    refine ⟨some a, cap, l, by rw [h1], by rw [h1]; exact hlb, by omega, fun b hb => ?_, a.block, a.off, ?_, fun i hi => ?_⟩
    · obtain ⟨i, hi, rfl⟩ := List.getElem_of_mem hb
      exact (h2 i hi).1
    · by_cases h00 : l.length = 0
      · exact .inl h00
      · right
        have hsp : a.spot = none := by
          have := (h2 0 (by omega)).2.1
          simpa [Addr.add] using this
        obtain ⟨b, o, s⟩ := a
        dsimp only at hsp
        subst hsp
        rfl
    · have hsp : a.spot = none := by
        have := (h2 0 (by omega)).2.1
        simpa [Addr.add] using this
      obtain ⟨b, o, s⟩ := a
      dsimp only at hsp
      subst hsp
      have := (h2 i hi).2.2
      rw [add_none] at this
      exact this
theorem row_of {α : Type} {E : Enc α} {p : Option Addr} {l : List α} (h : ∃ b o, (l.length = 0 ∨ p = some ⟨b, o, none⟩) ∧ ∀ i (hi : i < l.length), b < w.heap.size ∧ Cells w ⟨b, o + i * E.sz, none⟩ (E.enc l[i])) : RowB E w.heap.size w p l := by
  obtain ⟨b, o, hp, hc⟩ := h
  by_cases h0 : l = []
  · exact .inl h0
  · have hl0 : 0 < l.length := List.length_pos_iff.2 h0
    rcases hp with hp | rfl
    · omega
    · exact RowB.of_slr (.inr ⟨b, o, rfl, (hc 0 hl0).1, fun i hi => (hc i hi).2⟩)
end
section
variable {H : Type} {enc : TypeId × Value → H} {w : World} {base : Nat} {spare : Nat → Bool} {held : Bool} {F : Nat}
theorem opens_arg : Opens enc Tryd.prog w base spare held 123 fun cs => ∃ (r : Bool) (n : UInt8), cs = [.bool r, u8 n] := fun fuel cs x h => by
  obtain ⟨xs, m, rfl, rfl, hl, hx, hel⟩ := DataW.trod_struct Tryd.underlying123 h
  rw [cC 123 2 (by kernel_rfl)] at hl
  obtain ⟨b0, e0⟩ := Opens.field (o := 0) (i := 0) hel hx rfl rfl cells4 (opens_bool Tryd.underlying4)
  obtain ⟨b1, e1⟩ := Opens.field (o := 1) (i := 1) hel hx rfl rfl cells5 (opens_u8 Tryd.underlying5)
  refine ⟨b0, b1, ?_⟩
  have h0 : cs = cs.drop 0 := rfl
  have h9 : cs.drop 2 = [] := List.drop_of_length_le (by omega)
  rw [h0, cut cs 0 1 1 rfl, cut cs 1 1 2 rfl, e0, e1, h9]
  rfl
theorem opens_ins : Opens enc Tryd.prog w base spare held 125 fun cs => ∃ x : InsD, True ∧ cs = insE.enc x := fun fuel cs x h => by
  obtain ⟨xs, m, rfl, rfl, hl, hx, hel⟩ := DataW.trod_struct Tryd.underlying125 h
  rw [cC 125 10 (by kernel_rfl)] at hl
  obtain ⟨b0, e0⟩ := Opens.field (o := 0) (i := 0) hel hx rfl rfl cells5 (opens_u8 Tryd.underlying5)
  obtain ⟨b1, e1⟩ := Opens.field (o := 1) (i := 1) hel hx rfl rfl cells5 (opens_u8 Tryd.underlying5)
  obtain ⟨b2, e2⟩ := Opens.field (o := 2) (i := 2) hel hx rfl rfl cells5 (opens_u8 Tryd.underlying5)
  obtain ⟨r3, n3, e3⟩ := Opens.field (o := 3) (i := 3) hel hx rfl rfl (cC 123 2 (by kernel_rfl)) opens_arg
  obtain ⟨r4, n4, e4⟩ := Opens.field (o := 5) (i := 4) hel hx rfl rfl (cC 123 2 (by kernel_rfl)) opens_arg
  obtain ⟨b5, e5⟩ := Opens.field (o := 7) (i := 5) hel hx rfl rfl cells5 (opens_u8 Tryd.underlying5)
  obtain ⟨b6, e6⟩ := Opens.field (o := 8) (i := 6) hel hx rfl rfl cells5 (opens_u8 Tryd.underlying5)
  obtain ⟨b7, e7⟩ := Opens.field (o := 9) (i := 7) hel hx rfl rfl cells5 (opens_u8 Tryd.underlying5)
  refine ⟨⟨b0, b1, b2, r3, n3, r4, n4, b5, b6, b7⟩, trivial, ?_⟩
  have h0 : cs = cs.drop 0 := rfl
  have h9 : cs.drop 10 = [] := List.drop_of_length_le (by omega)
  rw [h0, cut cs 0 1 1 rfl, cut cs 1 1 2 rfl, cut cs 2 1 3 rfl, cut cs 3 2 5 rfl, cut cs 5 2 7 rfl, cut cs 7 1 8 rfl, cut cs 8 1 9 rfl, cut cs 9 1 10 rfl, e0, e1, e2, e3, e4, e5, e6, e7, h9]
  rfl
theorem opensW_thr : OpensW enc Tryd.prog w base spare held F 121 fun cs => ∃ x : ThrR, (x.1.length ≤ 140737488351232 ∧ RowB insE w.heap.size w x.2.1 x.1) ∧ cs = thrE.enc x := fun n hn cs x h hw => by
  obtain ⟨p, cap, l, h1, h2, _, _, h3⟩ := opensW_sl (F := n) (⟨0, 0, 0, false, 0, false, 0, 0, 0, 0⟩ : InsD) (f := insE.enc) (Q := fun _ => True) (sz := 10) (by decide) Tryd.underlying121 (by kernel_rfl) (by kernel_rfl) (opensW_of opens_ins) n (Nat.lt_succ_self n) cs x h hw
  exact ⟨(l, p, cap), ⟨h2.1, row_of h3⟩, h1⟩
/-- A condition's reading, of any depth. -/
theorem opensW_cnd : ∀ F, OpensW enc Tryd.prog w base spare held F 27 fun cs => ∃ x : Cnd × Option Addr × Nat, KidsV w.heap.size w x.2.1 x.1.kids ∧ cs = cndCells x.1 x.2.1 x.2.2
  | 0 => fun n hn => absurd hn (Nat.not_lt_zero _)
  | F + 1 => fun n hn cs x h hw => by
    have ih := opensW_cnd F
    have hF : n ≤ F + 1 := by omega
    have hl : cs.length = 5 := by
      obtain ⟨xs, m, _, _, hl, _, _⟩ := DataW.trod_struct Tryd.underlying27 h
      rw [cC 27 5 (by kernel_rfl)] at hl
      exact hl
    obtain ⟨b0, e0⟩ := OpensW.field (F := F + 1) (o := 0) (i := 0) Tryd.underlying27 h hw hF rfl rfl rfl cells5 (opensW_of (opens_u8 Tryd.underlying5))
    obtain ⟨b1, e1⟩ := OpensW.field (F := F + 1) (o := 1) (i := 1) Tryd.underlying27 h hw hF rfl rfl rfl cells5 (opensW_of (opens_u8 Tryd.underlying5))
    obtain ⟨b2, e2⟩ := OpensW.field (F := F + 1) (o := 2) (i := 2) Tryd.underlying27 h hw hF rfl rfl rfl cells5 (opensW_of (opens_u8 Tryd.underlying5))
    obtain ⟨b3, e3⟩ := OpensW.field (F := F + 1) (o := 3) (i := 3) Tryd.underlying27 h hw hF rfl rfl rfl cells5 (opensW_of (opens_u8 Tryd.underlying5))
    obtain ⟨p, cap, l, e4, hll, _, hQ, b, o, hp, hc⟩ := OpensW.field (F := F + 1) (o := 4) (i := 4) Tryd.underlying27 h hw hF rfl rfl rfl (cC 25 1 (by kernel_rfl))
      (opensW_sl (F := F) ((.mk 0 0 0 0 [], none, 0) : Cnd × Option Addr × Nat) (f := fun x => cndCells x.1 x.2.1 x.2.2) (Q := fun x => KidsV w.heap.size w x.2.1 x.1.kids) (sz := 5) (by decide) Tryd.underlying25 (by kernel_rfl) (by kernel_rfl) ih)
    refine ⟨(.mk b0 b1 b2 b3 (l.map (·.1)), p, cap), ?_, ?_⟩
    · refine .mk p (l.map (·.1)) (by rw [List.length_map]; have := hll.2; rw [show Tryd.prog.bytesOf 27 = 32 by kernel_rfl] at this; exact this) b o (by rw [List.length_map]; exact hp) (fun i => (l.getD i (.mk 0 0 0 0 [], none, 0)).2.1) (fun i => (l.getD i (.mk 0 0 0 0 [], none, 0)).2.2) (fun i hi => ?_) (fun i hi => ?_)
      · have hi' : i < l.length := by rw [List.length_map] at hi; exact hi
        have e : l.getD i (.mk 0 0 0 0 [], none, 0) = l[i] := by rw [List.getD_eq_getElem?_getD, List.getElem?_eq_getElem hi']; rfl
        rw [e, List.getElem_map]
        exact hc i hi'
      · have hi' : i < l.length := by rw [List.length_map] at hi; exact hi
        have e : l.getD i (.mk 0 0 0 0 [], none, 0) = l[i] := by rw [List.getD_eq_getElem?_getD, List.getElem?_eq_getElem hi']; rfl
        rw [e, List.getElem_map]
        exact hQ _ (List.getElem_mem hi')
    · have h0 : cs = cs.drop 0 := rfl
      have h9 : cs.drop 5 = [] := List.drop_of_length_le (by omega)
      rw [h0, cut cs 0 1 1 rfl, cut cs 1 1 2 rfl, cut cs 2 1 3 rfl, cut cs 3 1 4 rfl, cut cs 4 1 5 rfl, e0, e1, e2, e3, e4, h9]
      simp [cndCells, Cnd.kind, Cnd.thread, Cnd.n, Cnd.val, Cnd.kids]
theorem opensW_prg : OpensW enc Tryd.prog w base spare held F 29 fun cs => ∃ p : Prg, PrgV w.heap.size w cs p := fun n hn cs x h hw => by
  have hF : n ≤ n + 1 := Nat.le_succ n
  have hl : cs.length = 10 := by
    obtain ⟨xs, m, _, _, hl, _, _⟩ := DataW.trod_struct Tryd.underlying29 h
    rw [cC 29 10 (by kernel_rfl)] at hl
    exact hl
  obtain ⟨nm, k0, e0⟩ := OpensW.field (F := n + 1) (o := 0) (i := 0) Tryd.underlying29 h hw hF rfl rfl rfl (cC 9 1 (by kernel_rfl)) (opensW_str Tryd.underlying9)
  obtain ⟨p1, c1, l1, e1, k1, kc1, q1, r1⟩ := OpensW.field (F := n + 1) (o := 1) (i := 1) Tryd.underlying29 h hw hF rfl rfl rfl (cC 22 1 (by kernel_rfl))
    (opensW_sl (F := n) ([] : List UInt8) (f := namE.enc) (Q := fun s => s.length ≤ 140737488351232) (sz := 1) (by decide) Tryd.underlying22 (by kernel_rfl) (by kernel_rfl) (opensW_str Tryd.underlying9))
  obtain ⟨p2, c2, l2, e2, k2, kc2, q2, r2⟩ := OpensW.field (F := n + 1) (o := 2) (i := 2) Tryd.underlying29 h hw hF rfl rfl rfl (cC 23 1 (by kernel_rfl))
    (opensW_sl (F := n) (0 : UInt8) (f := byteE.enc) (Q := fun _ => True) (sz := 1) (by decide) Tryd.underlying23 cells5 (by kernel_rfl) (opensW_of (fun fuel cs x h => by
      obtain ⟨b, hb⟩ := opens_u8 Tryd.underlying5 fuel cs x h
      exact ⟨b, trivial, hb⟩)))
  obtain ⟨p3, c3, l3, e3, k3, kc3, q3, r3⟩ := OpensW.field (F := n + 1) (o := 3) (i := 3) Tryd.underlying29 h hw hF rfl rfl rfl (cC 24 1 (by kernel_rfl))
    (opensW_sl (F := n) (([], none, 0) : ThrR) (f := thrE.enc) (Q := fun x => x.1.length ≤ 140737488351232 ∧ RowB insE w.heap.size w x.2.1 x.1) (sz := 1) (by decide) Tryd.underlying24 (by kernel_rfl) (by kernel_rfl) opensW_thr)
  obtain ⟨b4, e4⟩ := OpensW.field (F := n + 1) (o := 4) (i := 4) Tryd.underlying29 h hw hF rfl rfl rfl cells5 (opensW_of (opens_u8 Tryd.underlying5))
  obtain ⟨⟨c, p4, c4⟩, hk, e5⟩ := OpensW.field (F := n + 1) (o := 5) (i := 5) Tryd.underlying29 h hw hF rfl rfl rfl (cC 27 5 (by kernel_rfl)) (opensW_cnd (n + 1))
  refine ⟨⟨nm, l1, l2, l3.map (·.1), b4, c⟩, ⟨k0, k1.1, q1, k2.1, by rw [List.length_map]; exact k3.1, fun l hl => ?_⟩, p1, c1, p2, c2, p3, c3, p4, c4, ?_, row_of r1, row_of r2, ⟨l3, rfl, row_of r3, fun x hx => (q3 x hx).2⟩, hk, kc1⟩
  · obtain ⟨x, hx, rfl⟩ := List.mem_map.1 hl
    exact (q3 x hx).1
  · have h0 : cs = cs.drop 0 := rfl
    have h9 : cs.drop 10 = [] := List.drop_of_length_le (by omega)
    rw [h0, cut cs 0 1 1 rfl, cut cs 1 1 2 rfl, cut cs 2 1 3 rfl, cut cs 3 1 4 rfl, cut cs 4 1 5 rfl, cut cs 5 5 10 rfl, e0, e1, e2, e3, e4, e5, h9]
    simp [prgCells, cndCells]
theorem opens_geo : Opens enc Tryd.prog w base spare held 31 fun cs => ∃ g : Geo, cs = g.enc := fun fuel cs x h => by
  obtain ⟨xs, m, rfl, rfl, hl, hx, hel⟩ := DataW.trod_struct Tryd.underlying31 h
  rw [cC 31 5 (by kernel_rfl)] at hl
  obtain ⟨b0, e0⟩ := Opens.field (o := 0) (i := 0) hel hx rfl rfl (cC 3 1 (by kernel_rfl)) (opens_int Tryd.underlying3)
  obtain ⟨b1, e1⟩ := Opens.field (o := 1) (i := 1) hel hx rfl rfl (cC 3 1 (by kernel_rfl)) (opens_int Tryd.underlying3)
  obtain ⟨b2, e2⟩ := Opens.field (o := 2) (i := 2) hel hx rfl rfl (cC 3 1 (by kernel_rfl)) (opens_int Tryd.underlying3)
  obtain ⟨b3, e3⟩ := Opens.field (o := 3) (i := 3) hel hx rfl rfl (cC 3 1 (by kernel_rfl)) (opens_int Tryd.underlying3)
  obtain ⟨b4, e4⟩ := Opens.field (o := 4) (i := 4) hel hx rfl rfl (cC 3 1 (by kernel_rfl)) (opens_int Tryd.underlying3)
  refine ⟨⟨b0, b1, b2, b3, b4⟩, ?_⟩
  have h0 : cs = cs.drop 0 := rfl
  have h9 : cs.drop 5 = [] := List.drop_of_length_le (by omega)
  rw [h0, cut cs 0 1 1 rfl, cut cs 1 1 2 rfl, cut cs 2 1 3 rfl, cut cs 3 1 4 rfl, cut cs 4 1 5 rfl, e0, e1, e2, e3, e4, h9]
  rfl
theorem opens_rules : Opens enc Tryd.prog w base spare held 33 fun cs => ∃ m v : UInt8, cs[0]? = some (u8 m) ∧ cs[1]? = some (u8 v) := fun fuel cs x h => by
  obtain ⟨xs, m, rfl, rfl, hl, hx, hel⟩ := DataW.trod_struct Tryd.underlying33 h
  obtain ⟨b0, e0⟩ := Opens.field (o := 0) (i := 0) hel hx rfl rfl cells5 (opens_u8 Tryd.underlying5)
  obtain ⟨b1, e1⟩ := Opens.field (o := 1) (i := 1) hel hx rfl rfl cells5 (opens_u8 Tryd.underlying5)
  refine ⟨b0, b1, ?_, ?_⟩
  · have := congrArg (fun l => l[0]?) e0
    simpa using this
  · have := congrArg (fun l => l[0]?) e1
    simpa using this
theorem opensW_wld : OpensW enc Tryd.prog w base spare held F 44 fun cs => ∃ (p : Prg) (g : Geo) (md : UInt8), WldV w.heap.size w cs p g md := fun n hn cs x h hw => by
  have hF : n ≤ n + 1 := Nat.le_succ n
  have hl : cs.length = 585 := by
    obtain ⟨xs, m, _, _, hl, _, _⟩ := DataW.trod_struct Tryd.underlying44 h
    rw [cC 44 585 (by kernel_rfl)] at hl
    exact hl
  obtain ⟨p, hp⟩ := OpensW.field (F := n + 1) (o := 0) (i := 0) Tryd.underlying44 h hw hF rfl rfl rfl (cC 29 10 (by kernel_rfl)) opensW_prg
  obtain ⟨g, e1⟩ := OpensW.field (F := n + 1) (o := 10) (i := 1) Tryd.underlying44 h hw hF rfl rfl rfl (cC 31 5 (by kernel_rfl)) (opensW_of opens_geo)
  obtain ⟨mode, v, _, e2⟩ := OpensW.field (F := n + 1) (o := 15) (i := 2) Tryd.underlying44 h hw hF rfl rfl rfl (cC 33 5 (by kernel_rfl)) (opensW_of opens_rules)
  refine ⟨p, g, v, (cs.drop 0).take 10, cs.drop 15, ?_, hp, ?_, by rw [List.length_drop]; omega⟩
  · rw [← e1, ← cut cs 10 5 15 rfl, ← cut cs 0 10 10 rfl]; rfl
  · rw [List.getElem?_take, if_pos (by decide)] at e2
    exact e2
theorem open_wldv {a : Array Value} {d : DataW H} {p : List MemPlace} (h : DataW.Trod enc Tryd.prog w base spare held 44 (.agg a) d p) (hw : Wgt Tryd.prog 44 d) : ∃ (p : Prg) (g : Geo) (md : UInt8), WldV w.heap.size w a.toList p g md := by
  obtain ⟨fuel, h⟩ := h
  exact opensW_wld (F := fuel + 1) fuel (Nat.lt_succ_self _) _ _ h hw
end
end Go.Proofs.YthmddpoodknclaaDoor
namespace Go.Proofs.YthmddpoodknclaaDoor
open Go.Vc Go.RowKit Go.Sei
open Go.ChangeShapes Go.WideShapes Go.ChangeAt
set_option linter.unusedVariables false

theorem open_byte {P : Program} {w : World} {r : Reach} {base : Nat} {t : TypeId} {v : Value} (ht : P.underlying t = some (.int .u8)) (h : Value.okWide P w r base t v) : ∃ b : UInt8, v = u8 b := by
  unfold Value.okWide at h
  rw [ht] at h
  cases v with
  | int k n =>
    have h1 : k = .u8 ∧ IntKind.has .u8 n := by
      simp only [Cell.okWide, Cell.ok, ht] at h
      obtain ⟨rfl, h⟩ := h
      exact ⟨rfl, h⟩
    obtain ⟨rfl, h2⟩ := h1
    have h3 : 0 ≤ n ∧ n ≤ 255 := ⟨by have := h2.1; simpa [IntKind.min, IntKind.signed, IntKind.bits] using this, by have := h2.2; simpa [IntKind.max, IntKind.signed, IntKind.bits] using this⟩
    have e : ((UInt8.ofNat n.toNat).toNat : Int) = n := by
      rw [UInt8.toNat_ofNat']; omega
    exact ⟨UInt8.ofNat n.toNat, by rw [u8, e]⟩
  | _ => simp_all [Cell.okWide, Cell.ok]
abbrev seatLaid : List (String × DataW Unit) := [("seisin/geo.bounds", Rows.laid_seisin_geo_bounds), ("seisin/check.needs", Rows.laid_seisin_check_needs)]
theorem globt_of_laid {W : World} (h : laidMetH Tryd.prog seatLaid W) (hsh : W.ShapedOpen Tryd.prog) : GlobT W := by
  have h0 : laidMet Tryd.prog seatLaid W := h
  have h1 := h0.tail
  have bnd : Cells W ⟨1, 0, none⟩ (bndL.map i64) := by
    obtain ⟨ps, ⟨g', t', cs, fuel, p, q, hg', ht', hv, hd, _, _⟩, _⟩ := h0
    obtain rfl := Option.some.inj ((show Tryd.prog.globalNamed "seisin/geo.bounds" = some 1 by kernel_rfl).symm.trans hg')
    obtain rfl := Option.some.inj ((show (Tryd.prog.globals[1]?).map (·.type) = some 175 by kernel_rfl).symm.trans ht')
    obtain ⟨bs, h1, h2, h3⟩ := open_is Tryd.underlying175 Tryd.underlying3 (by kernel_rfl) (by kernel_rfl) hd
    have hbs : bs = bndL := by
      match bs, h1 with
      | [b0, b1, b2, b3, b4], _ =>
        simp only [Rows.laid_seisin_geo_bounds, List.map_cons, List.map_nil, DataW.agg.injEq, List.cons.injEq, DataW.lit.injEq, Lit.int.injEq, true_and, and_true] at h3
        simp only [bndL, List.cons.injEq, and_true]
        obtain ⟨a0, a1, a2, a3, a4⟩ := h3
        exact ⟨a0.symm, a1.symm, a2.symm, a3.symm, a4.symm⟩
    subst hbs
    refine cells_mk fun i v hvv => ?_
    have hc := World.var?_cell hg' hv i
    rw [← hvv, ← h2]
    simpa using hc
  have cls : Cells W ⟨0, 0, none⟩ (needL.map u8) := by
    obtain ⟨ps, ⟨g', t', cs, fuel, p, q, hg', ht', hv, hd, _, _⟩, _⟩ := h1
    obtain rfl := Option.some.inj ((show Tryd.prog.globalNamed "seisin/check.needs" = some 0 by kernel_rfl).symm.trans hg')
    obtain rfl := Option.some.inj ((show (Tryd.prog.globals[0]?).map (·.type) = some 167 by kernel_rfl).symm.trans ht')
    obtain ⟨bs, h1, h2, h3⟩ := open_u8s Tryd.underlying167 Tryd.underlying5 (by kernel_rfl) (by kernel_rfl) hd
    have hbs : bs = needL := by
      match bs, h1 with
      | [b0, b1, b2, b3, b4, b5, b6, b7, b8], _ =>
        simp only [Rows.laid_seisin_check_needs, List.map_cons, List.map_nil, DataW.agg.injEq, List.cons.injEq, DataW.lit.injEq, Lit.int.injEq, true_and, and_true] at h3
        simp only [needL, List.cons.injEq, and_true]
        obtain ⟨a0, a1, a2, a3, a4, a5, a6, a7, a8⟩ := h3
        refine ⟨?_, ?_, ?_, ?_, ?_, ?_, ?_, ?_, ?_⟩ <;> (apply UInt8.toNat_inj.1; simp; omega)
    subst hbs
    refine cells_mk fun i v hvv => ?_
    have hc := World.var?_cell hg' hv i
    rw [← hvv, ← h2]
    simpa using hc
  exact ⟨cls, bnd⟩

def lit1 : DataW Unit → List Value
  | .lit (.int k n) => [.int k n]
  | .lit (.string s) => [.string ⟨s.toArray⟩]
  | _ => []
def lit2 : DataW Unit → List Value
  | .agg ps => ps.flatMap lit1
  | x => lit1 x
def lit3 : DataW Unit → List Value
  | .agg ps => ps.flatMap lit2
  | x => lit1 x
def setG (h : Array Obj) (g : Nat) (cs : List Value) : Array Obj := h.modify g fun
  | .cells _ t frozen => .cells cs.toArray t frozen
  | o => o
def layH (h : Array Obj) : Array Obj :=
  let h1 := setG h 1 (lit3 Rows.laid_seisin_geo_bounds)
  setG h1 0 (lit3 Rows.laid_seisin_check_needs)
noncomputable def laidWorld (os : Os) : World :=
  { World.holding Tryd.prog os ⟨#[], #[], []⟩ with heap := layH (World.holding Tryd.prog os ⟨#[], #[], []⟩).heap }
theorem laidWorld_met (os : Os) (args : Array Value) : laidMetH Tryd.prog seatLaid ((laidWorld os).forCall (fun _ _ => 0) ⟨#[], args, []⟩).memory := by
  show laidMet Tryd.prog seatLaid _
  exact laidMet_of_run' 8 (by kernel_rfl) (by kernel_rfl)
end Go.Proofs.YthmddpoodknclaaDoor
namespace Go.Proofs.YthmddpoodknclaaDoor
open Go.Vc Go.RowKit Go.Sei
open Go.ChangeShapes Go.WideShapes Go.ChangeAt
set_option linter.unusedVariables false

theorem flat_flat {α β : Type} (f : α → List β) : ∀ l : List (List α), l.flatMap (fun x => x.flatMap f) = l.flatten.flatMap f
  | [] => rfl
  | a :: r => by rw [List.flatMap_cons, flat_flat f r, List.flatten_cons, List.flatMap_append]
def zeroCor : Cor := ⟨0, 0, 0, 0, 0, 0, 0, 0, 0, [], false, false⟩
def zeroLin : Lin := ⟨0, 0, 0, false, 0, 0, 0, 0⟩
def zeroNte : Nte := ⟨0, 0, 0, 0, 0, 0, 0⟩
def zeroCac : Cac := ⟨[], [], 0, 0, 0, 0⟩
def zeroH : Hom := eHom
theorem cells28 : Tryd.prog.cellsOf 65 = 4 := by kernel_rfl
theorem cells30 : Tryd.prog.cellsOf 73 = 11 := by kernel_rfl
section
variable {H : Type} {enc : TypeId × Value → H} {P : Program} {w : World} {base : Nat} {spare : Nat → Bool} {held : Bool} {fuel : Nat} {t e : TypeId} {cs : List Value} {x : DataW H × List MemPlace}
theorem opens_i8 (ht : P.underlying t = some (.int .i8)) : Opens enc P w base spare held t fun cs => ∃ b : UInt8, cs = [.int .i8 (s8 b)] := fun fuel cs x h => by
  obtain ⟨n, rfl, _, hw⟩ := DataW.trod_int ht h
  have hb : -128 ≤ n ∧ n ≤ 127 := by
    simp only [Lit.wf, decide_eq_true_eq, Bool.and_eq_true] at hw
    first
      | exact ⟨by simpa [IntKind.min, IntKind.signed, IntKind.bits] using hw.1, by simpa [IntKind.max, IntKind.signed, IntKind.bits] using hw.2⟩
      | (simp [IntKind.min, IntKind.max, IntKind.signed, IntKind.bits] at hw; omega)
  refine ⟨UInt8.ofNat (n % 256).toNat, ?_⟩
  have e : ((UInt8.ofNat (n % 256).toNat).toNat : Int) = n % 256 := by rw [UInt8.toNat_ofNat']; omega
  unfold s8
  split <;> (congr 2; omega)
end
section
variable {H : Type} {enc : TypeId × Value → H} {w : World} {base : Nat} {spare : Nat → Bool} {held : Bool} {fuel : Nat} {cs : List Value} {x : DataW H × List MemPlace}
set_option maxRecDepth 100000 in
theorem open_msg (h : DataW.trod enc Tryd.prog w base spare held fuel 73 cs = some x) : ∃ m : Msg, cs = m.enc := by
  obtain ⟨xs, n, rfl, rfl, hl, hx, hel⟩ := DataW.trod_struct Tryd.underlying73 h
  rw [cells30] at hl
  have hx : xs.length = 8 := hx
  have e0 : DataW.trod enc Tryd.prog w base spare held n 5 ((cs.drop 0).take (Tryd.prog.cellsOf 5)) = xs[0]? := hel 0 _ rfl
  have e1 : DataW.trod enc Tryd.prog w base spare held n 5 ((cs.drop 1).take (Tryd.prog.cellsOf 5)) = xs[1]? := hel 1 _ rfl
  have e2 : DataW.trod enc Tryd.prog w base spare held n 5 ((cs.drop 2).take (Tryd.prog.cellsOf 5)) = xs[2]? := hel 2 _ rfl
  have e3 : DataW.trod enc Tryd.prog w base spare held n 5 ((cs.drop 3).take (Tryd.prog.cellsOf 5)) = xs[3]? := hel 3 _ rfl
  have e4 : DataW.trod enc Tryd.prog w base spare held n 5 ((cs.drop 4).take (Tryd.prog.cellsOf 5)) = xs[4]? := hel 4 _ rfl
  have e5 : DataW.trod enc Tryd.prog w base spare held n 5 ((cs.drop 5).take (Tryd.prog.cellsOf 5)) = xs[5]? := hel 5 _ rfl
  have e6 : DataW.trod enc Tryd.prog w base spare held n 4 ((cs.drop 6).take (Tryd.prog.cellsOf 4)) = xs[6]? := hel 6 _ rfl
  have e7 : DataW.trod enc Tryd.prog w base spare held n 65 ((cs.drop 7).take (Tryd.prog.cellsOf 65)) = xs[7]? := hel 7 _ rfl
  rw [List.getElem?_eq_getElem (by omega)] at e0 e1 e2 e3 e4 e5 e6 e7
  rw [cells5] at e0 e1 e2 e3 e4 e5
  rw [cells4] at e6
  rw [cells28] at e7
  obtain ⟨b0, e0, _⟩ := open_u8 Tryd.underlying5 e0
  obtain ⟨b1, e1, _⟩ := open_u8 Tryd.underlying5 e1
  obtain ⟨b2, e2, _⟩ := open_u8 Tryd.underlying5 e2
  obtain ⟨b3, e3, _⟩ := open_u8 Tryd.underlying5 e3
  obtain ⟨b4, e4, _⟩ := open_u8 Tryd.underlying5 e4
  obtain ⟨b5, e5, _⟩ := open_u8 Tryd.underlying5 e5
  obtain ⟨b6, e6, _⟩ := DataW.trod_bool Tryd.underlying4 e6
  obtain ⟨bs, h7, e7, _⟩ := open_u8s Tryd.underlying65 Tryd.underlying5 cells5 cells28 e7
  match cs, hl with
  | [c0, c1, c2, c3, c4, c5, c6, c7, c8, c9, c10], _ =>
    match bs, h7 with
    | [d0, d1, d2, d3], _ =>
      simp at e0 e1 e2 e3 e4 e5 e6 e7
      obtain ⟨rfl, rfl, rfl, rfl⟩ := e7
      subst e0 e1 e2 e3 e4 e5 e6
      exact ⟨⟨b0, b1, b2, b3, b4, b5, b6, d0, d1, d2, d3⟩, rfl⟩

theorem open_msgv {a : Array Value} {d : DataW H} {p : List MemPlace} (h : DataW.Trod enc Tryd.prog w base spare held 73 (.agg a) d p) : ∃ m : Msg, Value.agg a = m.val := by
  obtain ⟨fuel, h⟩ := h
  obtain ⟨m, hm⟩ := open_msg h
  have : a.toList = m.enc := hm
  exact ⟨m, by unfold Msg.val; rw [← this]⟩
theorem open_bytes {v : Value} {p : List MemPlace} {d : DataW H} {a0 : Option Addr} {len0 cap0 : Nat} (hv : v = .slice a0 len0 cap0)
    (h : DataW.Trod enc Tryd.prog w base spare held 23 v d p) : ∃ l : List UInt8, l.length = len0 ∧ SlR byteE w a0 l := by
  subst hv
  obtain ⟨fuel, h⟩ := h
  rcases DataW.trod_slice Tryd.underlying23 h with ⟨hcs, _⟩ | ⟨a, len, cap, elems, rest, n, _, hcs, _, _, _, _, hlen, hel, _, _⟩
  · simp [Value.cells] at hcs
    obtain ⟨rfl, rfl, rfl⟩ := hcs
    exact ⟨[], rfl, .nil⟩
  · simp [Value.cells] at hcs
    obtain ⟨rfl, rfl, rfl⟩ := hcs
    have each : ∀ i, i < len0 → ∃ m : UInt8, (a.add (i * 1)).spot = none ∧ (a.add (i * 1)).block < w.heap.size ∧ Cells w ⟨(a.add (i * 1)).block, (a.add (i * 1)).off, none⟩ (byteE.enc m) := fun i hi => by
      have h1 := hel i hi
      rw [cells5, List.getElem?_eq_getElem (by omega), Option.bind_eq_some_iff] at h1
      obtain ⟨cs, h2, h3⟩ := h1
      obtain ⟨m, rfl, _⟩ := open_u8 Tryd.underlying5 h3
      exact ⟨m, cells_of_run (by decide) h2⟩
    by_cases h00 : len0 = 0
    · exact ⟨[], h00.symm, .nil⟩
    have hsp : a.spot = none := by
      obtain ⟨m, h3, _⟩ := each 0 (by omega)
      simpa [Addr.add] using h3
    obtain ⟨b, o, s⟩ := a
    dsimp only at hsp
    subst hsp
    have each : ∀ i, i < len0 → ∃ m : UInt8, b < w.heap.size ∧ Cells w ⟨b, o + i * 1, none⟩ (byteE.enc m) := fun i hi => by
      obtain ⟨m, _, h4, h5⟩ := each i hi
      rw [add_none] at h4 h5
      exact ⟨m, h4, h5⟩
    have all : ∀ k, k ≤ len0 → ∃ l : List UInt8, l.length = k ∧ ∀ i (h : i < l.length), Cells w ⟨b, o + i * 1, none⟩ (byteE.enc l[i]) := by
      intro k
      induction k with
      | zero => exact fun _ => ⟨[], rfl, fun i h => absurd h (by simp)⟩
      | succ k ih =>
        intro hk
        obtain ⟨l, h1, h2⟩ := ih (by omega)
        obtain ⟨m, _, h3⟩ := each k (by omega)
        refine ⟨l ++ [m], by simp [h1], fun i hi => ?_⟩
        by_cases hik : i < l.length
        · rw [List.getElem_append_left hik]; exact h2 i hik
        · have : i = k := by simp [h1] at hi; omega
          subst this
          rw [List.getElem_append_right (by omega)]
          simpa [h1] using h3
    obtain ⟨l, h1, h2⟩ := all len0 (Nat.le_refl _)
    refine ⟨l, h1, ?_⟩
    obtain ⟨m, h4, _⟩ := each 0 (by omega)
    exact .inr ⟨b, o, rfl, h4, h2⟩
theorem open_ints {v : Value} {p : List MemPlace} {d : DataW H} {a0 : Option Addr} {len0 cap0 : Nat} (hv : v = .slice a0 len0 cap0)
    (h : DataW.Trod enc Tryd.prog w base spare held 45 v d p) : ∃ l : List Int, l.length = len0 ∧ SlR Go.Sei.intE w a0 l := by
  subst hv
  obtain ⟨fuel, h⟩ := h
  rcases DataW.trod_slice Tryd.underlying45 h with ⟨hcs, _⟩ | ⟨a, len, cap, elems, rest, n, _, hcs, _, _, _, _, hlen, hel, _, _⟩
  · simp [Value.cells] at hcs
    obtain ⟨rfl, rfl, rfl⟩ := hcs
    exact ⟨[], rfl, .nil⟩
  · simp [Value.cells] at hcs
    obtain ⟨rfl, rfl, rfl⟩ := hcs
    have each : ∀ i, i < len0 → ∃ m : Int, (a.add (i * 1)).spot = none ∧ (a.add (i * 1)).block < w.heap.size ∧ Cells w ⟨(a.add (i * 1)).block, (a.add (i * 1)).off, none⟩ (Go.Sei.intE.enc m) := fun i hi => by
      have h1 := hel i hi
      rw [cC 3 1 (by kernel_rfl), List.getElem?_eq_getElem (by omega), Option.bind_eq_some_iff] at h1
      obtain ⟨cs, h2, h3⟩ := h1
      obtain ⟨m, rfl, _⟩ := open_i Tryd.underlying3 h3
      exact ⟨m, cells_of_run (by decide) h2⟩
    by_cases h00 : len0 = 0
    · exact ⟨[], h00.symm, .nil⟩
    have hsp : a.spot = none := by
      obtain ⟨m, h3, _⟩ := each 0 (by omega)
      simpa [Addr.add] using h3
    obtain ⟨b, o, s⟩ := a
    dsimp only at hsp
    subst hsp
    have each : ∀ i, i < len0 → ∃ m : Int, b < w.heap.size ∧ Cells w ⟨b, o + i * 1, none⟩ (Go.Sei.intE.enc m) := fun i hi => by
      obtain ⟨m, _, h4, h5⟩ := each i hi
      rw [add_none] at h4 h5
      exact ⟨m, h4, h5⟩
    have all : ∀ k, k ≤ len0 → ∃ l : List Int, l.length = k ∧ ∀ i (h : i < l.length), Cells w ⟨b, o + i * 1, none⟩ (Go.Sei.intE.enc l[i]) := by
      intro k
      induction k with
      | zero => exact fun _ => ⟨[], rfl, fun i h => absurd h (by simp)⟩
      | succ k ih =>
        intro hk
        obtain ⟨l, h1, h2⟩ := ih (by omega)
        obtain ⟨m, _, h3⟩ := each k (by omega)
        refine ⟨l ++ [m], by simp [h1], fun i hi => ?_⟩
        by_cases hik : i < l.length
        · rw [List.getElem_append_left hik]; exact h2 i hik
        · have : i = k := by simp [h1] at hi; omega
          subst this
          rw [List.getElem_append_right (by omega)]
          simpa [h1] using h3
    obtain ⟨l, h1, h2⟩ := all len0 (Nat.le_refl _)
    refine ⟨l, h1, ?_⟩
    obtain ⟨m, h4, _⟩ := each 0 (by omega)
    exact .inr ⟨b, o, rfl, h4, h2⟩
end
section
variable {H : Type} {enc : TypeId × Value → H} {w : World} {base : Nat} {spare : Nat → Bool} {held : Bool}
theorem opens_sto : Opens enc Tryd.prog w base spare held 130 fun cs => ∃ x : Sto, True ∧ cs = stoE.enc x := fun fuel cs x h => by
  obtain ⟨xs, m, rfl, rfl, hl, hx, hel⟩ := DataW.trod_struct Tryd.underlying130 h
  rw [cC 130 2 (by kernel_rfl)] at hl
  obtain ⟨b0, e0⟩ := Opens.field (o := 0) (i := 0) hel hx rfl rfl cells5 (opens_u8 Tryd.underlying5)
  obtain ⟨b1, e1⟩ := Opens.field (o := 1) (i := 1) hel hx rfl rfl cells5 (opens_u8 Tryd.underlying5)
  refine ⟨⟨b0, b1⟩, trivial, ?_⟩
  have h0 : cs = cs.drop 0 := rfl
  have h9 : cs.drop 2 = [] := List.drop_of_length_le (by omega)
  rw [h0, cut cs 0 1 1 rfl, cut cs 1 1 2 rfl, e0, e1, h9]
  rfl
theorem opens_lin : Opens enc Tryd.prog w base spare held 134 fun cs => ∃ x : Lin, True ∧ cs = linE.enc x := fun fuel cs x h => by
  obtain ⟨xs, m, rfl, rfl, hl, hx, hel⟩ := DataW.trod_struct Tryd.underlying134 h
  rw [cC 134 8 (by kernel_rfl)] at hl
  obtain ⟨b0, e0⟩ := Opens.field (o := 0) (i := 0) hel hx rfl rfl cells5 (opens_u8 Tryd.underlying5)
  obtain ⟨b1, e1⟩ := Opens.field (o := 1) (i := 1) hel hx rfl rfl cells5 (opens_u8 Tryd.underlying5)
  obtain ⟨b2, e2⟩ := Opens.field (o := 2) (i := 2) hel hx rfl rfl (cC 132 1 (by kernel_rfl)) (opens_i8 Tryd.underlying132)
  obtain ⟨b3, e3⟩ := Opens.field (o := 3) (i := 3) hel hx rfl rfl cells4 (opens_bool Tryd.underlying4)
  obtain ⟨bs, h4, e4⟩ := Opens.field (o := 4) (i := 4) hel hx rfl rfl cells28 (opens_u8s Tryd.underlying65 Tryd.underlying5 cells5 cells28)
  match bs, h4 with
  | [d0, d1, d2, d3], _ =>
  refine ⟨⟨b0, b1, b2, b3, d0, d1, d2, d3⟩, trivial, ?_⟩
  have h0 : cs = cs.drop 0 := rfl
  have h9 : cs.drop 8 = [] := List.drop_of_length_le (by omega)
  rw [h0, cut cs 0 1 1 rfl, cut cs 1 1 2 rfl, cut cs 2 1 3 rfl, cut cs 3 1 4 rfl, cut cs 4 4 8 rfl, e0, e1, e2, e3, e4, h9]
  rfl
theorem opens_nte : Opens enc Tryd.prog w base spare held 138 fun cs => ∃ x : Nte, True ∧ cs = nteE.enc x := fun fuel cs x h => by
  obtain ⟨xs, m, rfl, rfl, hl, hx, hel⟩ := DataW.trod_struct Tryd.underlying138 h
  rw [cC 138 7 (by kernel_rfl)] at hl
  obtain ⟨b0, e0⟩ := Opens.field (o := 0) (i := 0) hel hx rfl rfl cells5 (opens_u8 Tryd.underlying5)
  obtain ⟨b1, e1⟩ := Opens.field (o := 1) (i := 1) hel hx rfl rfl (cC 3 1 (by kernel_rfl)) (opens_int Tryd.underlying3)
  obtain ⟨bs, h4, e2⟩ := Opens.field (o := 2) (i := 2) hel hx rfl rfl (cC 64 4 (by kernel_rfl)) (opens_u8s Tryd.underlying64 Tryd.underlying5 cells5 (cC 64 4 (by kernel_rfl)))
  obtain ⟨b3, e3⟩ := Opens.field (o := 6) (i := 3) hel hx rfl rfl cells5 (opens_u8 Tryd.underlying5)
  match bs, h4 with
  | [d0, d1, d2, d3], _ =>
  refine ⟨⟨b0, b1, d0, d1, d2, d3, b3⟩, trivial, ?_⟩
  have h0 : cs = cs.drop 0 := rfl
  have h9 : cs.drop 7 = [] := List.drop_of_length_le (by omega)
  rw [h0, cut cs 0 1 1 rfl, cut cs 1 1 2 rfl, cut cs 2 4 6 rfl, cut cs 6 1 7 rfl, e0, e1, e2, e3, h9]
  rfl
theorem opens_op : Opens enc Tryd.prog w base spare held 90 fun cs => ∃ k l a b : UInt8, cs = [u8 k, u8 l, u8 a, u8 b] := fun fuel cs x h => by
  obtain ⟨xs, m, rfl, rfl, hl, hx, hel⟩ := DataW.trod_struct Tryd.underlying90 h
  rw [cC 90 4 (by kernel_rfl)] at hl
  obtain ⟨b0, e0⟩ := Opens.field (o := 0) (i := 0) hel hx rfl rfl cells5 (opens_u8 Tryd.underlying5)
  obtain ⟨b1, e1⟩ := Opens.field (o := 1) (i := 1) hel hx rfl rfl cells5 (opens_u8 Tryd.underlying5)
  obtain ⟨b2, e2⟩ := Opens.field (o := 2) (i := 2) hel hx rfl rfl cells5 (opens_u8 Tryd.underlying5)
  obtain ⟨b3, e3⟩ := Opens.field (o := 3) (i := 3) hel hx rfl rfl cells5 (opens_u8 Tryd.underlying5)
  refine ⟨b0, b1, b2, b3, ?_⟩
  have h0 : cs = cs.drop 0 := rfl
  have h9 : cs.drop 4 = [] := List.drop_of_length_le (by omega)
  rw [h0, cut cs 0 1 1 rfl, cut cs 1 1 2 rfl, cut cs 2 1 3 rfl, cut cs 3 1 4 rfl, e0, e1, e2, e3, h9]
  rfl
theorem opens_cac : Opens enc Tryd.prog w base spare held 141 fun cs => ∃ x : Cac, (x.ways.length = 16 ∧ x.notes.length = 4) ∧ cs = cacCells x := fun fuel cs x h => by
  obtain ⟨xs, m, rfl, rfl, hl, hx, hel⟩ := DataW.trod_struct Tryd.underlying141 h
  rw [cC 141 160 (by kernel_rfl)] at hl
  have row : Opens enc Tryd.prog w base spare held 135 fun cs => ∃ bs : List Lin, bs.length = 4 ∧ (∀ b ∈ bs, True) ∧ cs = bs.flatMap linE.enc := opens_arr zeroLin (sz := 8) Tryd.underlying135 (by kernel_rfl) (by kernel_rfl) opens_lin
  have ways := opens_arr (enc := enc) (w := w) (base := base) (spare := spare) (held := held) (β := List Lin) [] (f := fun bs => bs.flatMap linE.enc) (Q := fun bs => bs.length = 4) (n := 4) (sz := 32) Tryd.underlying136 (by kernel_rfl) (by kernel_rfl) (fun fuel cs x h => by
    obtain ⟨bs, h1, _, h2⟩ := row fuel cs x h
    exact ⟨bs, h1, h2⟩)
  obtain ⟨wss, w1, w2, e0⟩ := Opens.field (o := 0) (i := 0) hel hx rfl rfl (cC 136 128 (by kernel_rfl)) ways
  obtain ⟨ns, n1, _, e1⟩ := Opens.field (o := 128) (i := 1) hel hx rfl rfl (cC 139 28 (by kernel_rfl)) (opens_arr zeroNte (sz := 7) Tryd.underlying139 (by kernel_rfl) (by kernel_rfl) opens_nte)
  obtain ⟨k, l, a, b, e2⟩ := Opens.field (o := 156) (i := 2) hel hx rfl rfl (cC 90 4 (by kernel_rfl)) opens_op
  have hfl : wss.flatten.length = 16 := by
    match wss, w1 with
    | [a, b, c, d], _ =>
      have := w2 a (by simp); have := w2 b (by simp); have := w2 c (by simp); have := w2 d (by simp)
      simp only [List.flatten_cons, List.flatten_nil, List.length_append, List.length_nil]; omega
  refine ⟨⟨wss.flatten, ns, k, l, a, b⟩, ⟨hfl, n1⟩, ?_⟩
  have h0 : cs = cs.drop 0 := rfl
  have h9 : cs.drop 160 = [] := List.drop_of_length_le (by omega)
  rw [h0, cut cs 0 128 128 rfl, cut cs 128 28 156 rfl, cut cs 156 4 160 rfl, e0, e1, e2, h9, flat_flat]
  simp [cacCells, opCells]
theorem opens_view : Opens enc Tryd.prog w base spare held 63 fun cs => ∃ (k : UInt8) (n : Nat) (b : Bool), n < 18446744073709551616 ∧ cs = [u8 k, .int .u64 (n : Int), .bool b] := fun fuel cs x h => by
  obtain ⟨xs, m, rfl, rfl, hl, hx, hel⟩ := DataW.trod_struct Tryd.underlying63 h
  rw [cC 63 3 (by kernel_rfl)] at hl
  obtain ⟨b0, e0⟩ := Opens.field (o := 0) (i := 0) hel hx rfl rfl cells5 (opens_u8 Tryd.underlying5)
  obtain ⟨n, hn, e1⟩ := Opens.field (o := 1) (i := 1) hel hx rfl rfl (cC 61 1 (by kernel_rfl)) (opens_u64 Tryd.underlying61)
  obtain ⟨b2, e2⟩ := Opens.field (o := 2) (i := 2) hel hx rfl rfl cells4 (opens_bool Tryd.underlying4)
  refine ⟨b0, n, b2, hn, ?_⟩
  have h0 : cs = cs.drop 0 := rfl
  have h9 : cs.drop 3 = [] := List.drop_of_length_le (by omega)
  rw [h0, cut cs 0 1 1 rfl, cut cs 1 1 2 rfl, cut cs 2 1 3 rfl, e0, e1, e2, h9]
  rfl
theorem opens_hom : Opens enc Tryd.prog w base spare held 67 fun cs => ∃ x : Hom, True ∧ cs = homE.enc x := fun fuel cs x h => by
  obtain ⟨xs, m, rfl, rfl, hl, hx, hel⟩ := DataW.trod_struct Tryd.underlying67 h
  rw [cC 67 11 (by kernel_rfl)] at hl
  obtain ⟨b0, e0⟩ := Opens.field (o := 0) (i := 0) hel hx rfl rfl cells5 (opens_u8 Tryd.underlying5)
  obtain ⟨b1, e1⟩ := Opens.field (o := 1) (i := 1) hel hx rfl rfl cells5 (opens_u8 Tryd.underlying5)
  obtain ⟨k, n, al, hn, e2⟩ := Opens.field (o := 2) (i := 2) hel hx rfl rfl (cC 63 3 (by kernel_rfl)) opens_view
  obtain ⟨b3, e3⟩ := Opens.field (o := 5) (i := 3) hel hx rfl rfl cells5 (opens_u8 Tryd.underlying5)
  obtain ⟨b4, e4⟩ := Opens.field (o := 6) (i := 4) hel hx rfl rfl cells5 (opens_u8 Tryd.underlying5)
  obtain ⟨bs, h4, e5⟩ := Opens.field (o := 7) (i := 5) hel hx rfl rfl cells28 (opens_u8s Tryd.underlying65 Tryd.underlying5 cells5 cells28)
  match bs, h4 with
  | [d0, d1, d2, d3], _ =>
  have by8 : ∀ k : Nat, (UInt8.ofNat (k % 256)).toNat = k % 256 := fun k => by rw [UInt8.toNat_ofNat']; omega
  refine ⟨⟨b0, b1, k, UInt8.ofNat (n % 256), UInt8.ofNat (n / 256 % 256), UInt8.ofNat (n / 65536 % 256), UInt8.ofNat (n / 16777216 % 256), UInt8.ofNat (n / 4294967296 % 256), UInt8.ofNat (n / 1099511627776 % 256), UInt8.ofNat (n / 281474976710656 % 256), UInt8.ofNat (n / 72057594037927936 % 256), al, b3, b4, d0, d1, d2, d3⟩, trivial, ?_⟩
  have h0 : cs = cs.drop 0 := rfl
  have h9 : cs.drop 11 = [] := List.drop_of_length_le (by omega)
  rw [h0, cut cs 0 1 1 rfl, cut cs 1 1 2 rfl, cut cs 2 3 5 rfl, cut cs 5 1 6 rfl, cut cs 6 1 7 rfl, cut cs 7 4 11 rfl, e0, e1, e2, e3, e4, e5, h9]
  have e : leM ⟨b0, b1, k, UInt8.ofNat (n % 256), UInt8.ofNat (n / 256 % 256), UInt8.ofNat (n / 65536 % 256), UInt8.ofNat (n / 16777216 % 256), UInt8.ofNat (n / 4294967296 % 256), UInt8.ofNat (n / 1099511627776 % 256), UInt8.ofNat (n / 281474976710656 % 256), UInt8.ofNat (n / 72057594037927936 % 256), al, b3, b4, d0, d1, d2, d3⟩ = n := by
    unfold leM
    simp only [by8]
    omega
  simp only [homE, e]
  rfl
theorem opens_core : Opens enc Tryd.prog w base spare held 113 fun cs => ∃ x : Cor × Option Addr × Nat, (x.1.buf.length ≤ 9223372036854775807 ∧ RowB stoE w.heap.size w x.2.1 x.1.buf) ∧ cs = corCells x.1 (.slice x.2.1 x.1.buf.length x.2.2) := fun fuel cs x h => by
  obtain ⟨xs, m, rfl, rfl, hl, hx, hel⟩ := DataW.trod_struct Tryd.underlying113 h
  rw [cC 113 12 (by kernel_rfl)] at hl
  obtain ⟨b0, e0⟩ := Opens.field (o := 0) (i := 0) hel hx rfl rfl cells5 (opens_u8 Tryd.underlying5)
  obtain ⟨bs, h8, e1⟩ := Opens.field (o := 1) (i := 1) hel hx rfl rfl (cC 110 8 (by kernel_rfl)) (opens_u8s Tryd.underlying110 Tryd.underlying5 cells5 (cC 110 8 (by kernel_rfl)))
  obtain ⟨p, cap, l, e2, hlen, _, _, b, o, hp, hc⟩ := Opens.field (o := 9) (i := 2) hel hx rfl rfl (cC 111 1 (by kernel_rfl)) (opens_sl (⟨0, 0⟩ : Sto) (sz := 2) (by decide) Tryd.underlying111 (by kernel_rfl) opens_sto)
  obtain ⟨b3, e3⟩ := Opens.field (o := 10) (i := 3) hel hx rfl rfl cells4 (opens_bool Tryd.underlying4)
  obtain ⟨b4, e4⟩ := Opens.field (o := 11) (i := 4) hel hx rfl rfl cells4 (opens_bool Tryd.underlying4)
  match bs, h8 with
  | [r0, r1, r2, r3, r4, r5, r6, r7], _ =>
  refine ⟨(⟨b0, r0, r1, r2, r3, r4, r5, r6, r7, l, b3, b4⟩, p, cap), ⟨hlen, ?_⟩, ?_⟩
  · rcases hp with hp | rfl
    · exact .inl (List.eq_nil_of_length_eq_zero hp)
    · by_cases h0 : l = []
      · exact .inl h0
      · have hl0 : 0 < l.length := List.length_pos_iff.2 h0
        have hlt := (hc 0 hl0).1
        exact RowB.of_slr (.inr ⟨b, o, rfl, hlt, fun i hi => (hc i hi).2⟩)
  · have h0 : cs = cs.drop 0 := rfl
    have h9 : cs.drop 12 = [] := List.drop_of_length_le (by omega)
    rw [h0, cut cs 0 1 1 rfl, cut cs 1 8 9 rfl, cut cs 9 1 10 rfl, cut cs 10 1 11 rfl, cut cs 11 1 12 rfl, e0, e1, e2, e3, e4, h9]
    rfl
/-- The bounds of what was read. -/
structure LensOk (s : Sy) : Prop where
  c : s.cores.length ≤ 9223372036854775807
theorem opens_sys : Opens enc Tryd.prog w base spare held 71 fun cs => ∃ s : Sy, SysV w.heap.size w cs s ∧ LensOk s := fun fuel cs x h => by
  obtain ⟨xs, m, rfl, rfl, hl, hx, hel⟩ := DataW.trod_struct Tryd.underlying71 h
  rw [cC 71 69 (by kernel_rfl)] at hl
  obtain ⟨p0, c0, l0, e0, k0, _, q0, b0, o0, hp0, hc0⟩ := Opens.field (o := 0) (i := 0) hel hx rfl rfl (cC 58 1 (by kernel_rfl)) (opens_sl ((zeroCor, none, 0) : Cor × Option Addr × Nat) (f := fun x => corCells x.1 (.slice x.2.1 x.1.buf.length x.2.2)) (sz := 12) (by decide) Tryd.underlying58 (by kernel_rfl) opens_core)
  obtain ⟨p1, c1, l1, e1, k1, _, q1, b1, o1, hp1, hc1⟩ := Opens.field (o := 1) (i := 1) hel hx rfl rfl (cC 59 1 (by kernel_rfl)) (opens_sl zeroCac (sz := 160) (by decide) Tryd.underlying59 (by kernel_rfl) opens_cac)
  obtain ⟨hs, h6, _, e2⟩ := Opens.field (o := 2) (i := 2) hel hx rfl rfl (cC 68 66 (by kernel_rfl)) (opens_arr zeroH (sz := 11) Tryd.underlying68 (by kernel_rfl) (by kernel_rfl) opens_hom)
  obtain ⟨p3, c3, l3, e3, k3, hn3, q3, b3, o3, hp3, hc3⟩ := Opens.field (o := 68) (i := 3) hel hx rfl rfl (cC 69 1 (by kernel_rfl)) (opens_sl (⟨0, 0, 0, 0, 0, 0, false, 0, 0, 0, 0⟩ : Msg) (f := Msg.enc) (Q := fun _ => True) (sz := 11) (by decide) Tryd.underlying69 (by kernel_rfl) (fun fuel cs x h => by
    obtain ⟨m, hm⟩ := open_msg h
    exact ⟨m, trivial, hm⟩))
  refine ⟨⟨l0.map (·.1), l1, hs, l3⟩, ⟨⟨p0, c0, p1, c1, p3, c3, ?_, ⟨b0, o0, by simpa using hp0, fun i hi => ?_⟩, ⟨b1, o1, hp1, fun i hi => ?_⟩, ?_, hn3⟩, h6⟩, ⟨by simpa using k0⟩⟩
  · have h0 : cs = cs.drop 0 := rfl
    have h9 : cs.drop 69 = [] := List.drop_of_length_le (by omega)
    rw [h0, cut cs 0 1 1 rfl, cut cs 1 1 2 rfl, cut cs 2 66 68 rfl, cut cs 68 1 69 rfl, e0, e1, e2, e3, h9]
    simp
  · simp only [List.length_map] at hi
    obtain ⟨g1, g2⟩ := hc0 i hi
    obtain ⟨_, g3⟩ := q0 _ (List.getElem_mem hi)
    simp only [List.getElem_map]
    exact ⟨l0[i].2.1, l0[i].2.2, g1, g2, g3⟩
  · obtain ⟨g1, g2⟩ := hc1 i hi
    obtain ⟨g3, g4⟩ := q1 _ (List.getElem_mem hi)
    exact ⟨g1, g2, g3, g4⟩
  · rcases hp3 with hp | rfl
    · exact .inl (List.eq_nil_of_length_eq_zero hp)
    · by_cases h0 : l3 = []
      · exact .inl h0
      · have hl0 : 0 < l3.length := List.length_pos_iff.2 h0
        have hlt := (hc3 0 hl0).1
        exact RowB.of_slr (E := Msg.E) (.inr ⟨b3, o3, rfl, hlt, fun i hi => (hc3 i hi).2⟩)
theorem open_sysv {a : Array Value} {d : DataW H} {p : List MemPlace} (h : DataW.Trod enc Tryd.prog w base spare held 71 (.agg a) d p) : ∃ s : Sy, SysV w.heap.size w a.toList s ∧ LensOk s := by
  obtain ⟨fuel, h⟩ := h
  exact opens_sys _ _ _ h
theorem lens_sys {a : Array Value} {d : DataW H} {p : List MemPlace} {s : Sy} (h : DataW.Trod enc Tryd.prog w base spare held 71 (.agg a) d p) (hw : Wgt Tryd.prog 71 d) (hS : SysV w.heap.size w a.toList s) : Lens s := by
  obtain ⟨fuel, h⟩ := h
  obtain ⟨⟨p1, c1, p2, c2, p3, c3, hvs, hco, hca, hne, hnil⟩, h6⟩ := hS
  have hH : (s.homes.flatMap homE.enc).length = 66 := by rw [flat_len, h6]; rfl
  have hcs : (Value.agg a).cells.toList = a.toList := rfl
  rw [hcs, hvs] at h
  have k3 : List.take 1 (List.drop 68 (Value.slice p1 s.cores.length c1 :: .slice p2 s.caches.length c2 :: (s.homes.flatMap homE.enc ++ [.slice p3 s.net.length c3]))) = [.slice p3 s.net.length c3] := by
    show List.take 1 (List.drop 66 (s.homes.flatMap homE.enc ++ [.slice p3 s.net.length c3])) = _
    rw [List.drop_append, List.drop_of_length_le (by omega), hH]; rfl
  obtain ⟨n0, y0, e0, w0⟩ := wgt_field (i := 0) (vs := [.slice p1 s.cores.length c1]) Tryd.underlying71 h hw rfl rfl rfl (cC 58 1 (by kernel_rfl)) rfl
  obtain ⟨n1, y1, e1, w1⟩ := wgt_field (i := 1) (vs := [.slice p2 s.caches.length c2]) Tryd.underlying71 h hw rfl rfl rfl (cC 59 1 (by kernel_rfl)) rfl
  obtain ⟨n3, y3, e3, w3⟩ := wgt_field (i := 3) Tryd.underlying71 h hw rfl rfl rfl (cC 69 1 (by kernel_rfl)) k3
  obtain ⟨l0, el0⟩ := wgt_slice Tryd.underlying58 e0 w0 (by kernel_rfl)
  obtain ⟨l1, _⟩ := wgt_slice Tryd.underlying59 e1 w1 (by kernel_rfl)
  obtain ⟨l3, _⟩ := wgt_slice Tryd.underlying69 e3 w3 (by kernel_rfl)
  refine ⟨l0, l1, l3, fun c hc => ?_⟩
  obtain ⟨i, hi, rfl⟩ := List.getElem_of_mem hc
  obtain ⟨aa, cs, n, y, rfl, hcr, htr, hwt⟩ := el0 i hi
  obtain ⟨b, o, hp, hat⟩ := hco
  obtain ⟨q, qc, _, hcb, _⟩ := hat i hi
  rcases hp with hp | hp
  · omega
  simp only [Option.some.injEq] at hp
  subst hp
  rw [cC 113 12 (by kernel_rfl), add_none] at hcr
  obtain ⟨_, _, hcc⟩ := cells_of_run (by decide) hcr
  obtain ⟨_, hcl, _⟩ := World.cells?_some hcr
  have h9 : 9 < cs.length := by omega
  have e9 : cs[9] = .slice q s.cores[i].buf.length qc := by
    have g1 := cells_at hcc (i := 9) (List.getElem?_eq_getElem h9)
    have g2 := cells_at hcb (i := 9) (v := .slice q s.cores[i].buf.length qc) rfl
    exact Option.some.inj (g1.symm.trans g2)
  have k4 : List.take 1 (List.drop 9 cs) = [.slice q s.cores[i].buf.length qc] := by
    rw [List.drop_eq_getElem_cons h9, e9]; rfl
  obtain ⟨n4, y4, e4, w4⟩ := wgt_field (i := 2) Tryd.underlying113 htr hwt rfl rfl rfl (cC 111 1 (by kernel_rfl)) k4
  exact (wgt_slice Tryd.underlying111 e4 w4 (by kernel_rfl)).1
end
end Go.Proofs.YthmddpoodknclaaDoor
namespace Go.Proofs.YthmddpoodknclaaDoor
open Go.Vc Go.RowKit Go.Sei
open Go.ChangeShapes Go.WideShapes Go.ChangeAt
set_option linter.unusedVariables false

structure GlobV (W : World) : Prop where
  tz : TzM W
  bnd : BndM W
  needs : GlobC W
abbrev seatLaidV : List (String × DataW Unit) := [("math/bits.deBruijn64tab", Rows.laid_math_bits_deBruijn64tab), ("seisin/geo.bounds", Rows.laid_seisin_geo_bounds), ("seisin/check.needs", Rows.laid_seisin_check_needs)]
theorem globV_of_laid {W : World} (h : laidMetH Tryd.prog seatLaidV W) (hsh : W.ShapedOpen Tryd.prog) : GlobV W := by
  have h0 : laidMet Tryd.prog seatLaidV W := h
  have h1 := h0.tail
  have h2 := h1.tail
  have tz : TzM W := by
    obtain ⟨ps, ⟨g', t', cs, fuel, p, q, hg', ht', hv, hd, _, _⟩, _⟩ := h0
    obtain rfl := Option.some.inj ((show Tryd.prog.globalNamed "math/bits.deBruijn64tab" = some 2 by kernel_rfl).symm.trans hg')
    obtain rfl := Option.some.inj ((show (Tryd.prog.globals[2]?).map (·.type) = some 187 by kernel_rfl).symm.trans ht')
    obtain ⟨bs, h1, h2, h3⟩ := open_u8s Tryd.underlying187 Tryd.underlying5 (by kernel_rfl) (by kernel_rfl) hd
    match bs, h1, h2, h3 with
    | b0 :: b1 :: br, h1, h2, h3 =>
      simp only [Rows.laid_math_bits_deBruijn64tab, List.map_cons, DataW.agg.injEq, List.cons.injEq, DataW.lit.injEq, Lit.int.injEq, true_and] at h3
      obtain ⟨a0, a1, _⟩ := h3
      have e0 : b0 = 0 := by apply UInt8.toNat_inj.1; simp; omega
      have e1 : b1 = 1 := by apply UInt8.toNat_inj.1; simp; omega
      subst e0 e1
      refine ⟨br.map u8, cells_mk fun i v hvv => ?_, by simpa using h1⟩
      have hc := World.var?_cell hg' hv i
      have e : (u8 0 :: u8 1 :: br.map u8) = (0 :: 1 :: br : List UInt8).map u8 := rfl
      rw [← hvv, e, ← h2]
      simpa using hc
  have bnd : BndM W := by
    obtain ⟨ps, ⟨g', t', cs, fuel, p, q, hg', ht', hv, hd, _, _⟩, _⟩ := h1
    obtain rfl := Option.some.inj ((show Tryd.prog.globalNamed "seisin/geo.bounds" = some 1 by kernel_rfl).symm.trans hg')
    obtain rfl := Option.some.inj ((show (Tryd.prog.globals[1]?).map (·.type) = some 175 by kernel_rfl).symm.trans ht')
    obtain ⟨bs, h1, h2, h3⟩ := open_is Tryd.underlying175 Tryd.underlying3 (by kernel_rfl) (by kernel_rfl) hd
    have hbs : bs = bndL := by
      match bs, h1 with
      | [b0, b1, b2, b3, b4], _ =>
        simp only [Rows.laid_seisin_geo_bounds, List.map_cons, List.map_nil, DataW.agg.injEq, List.cons.injEq, DataW.lit.injEq, Lit.int.injEq, true_and, and_true] at h3
        simp only [bndL, List.cons.injEq, and_true]
        obtain ⟨a0, a1, a2, a3, a4⟩ := h3
        exact ⟨a0.symm, a1.symm, a2.symm, a3.symm, a4.symm⟩
    subst hbs
    refine cells_mk fun i v hvv => ?_
    have hc := World.var?_cell hg' hv i
    rw [← hvv, ← h2]
    simpa using hc
  have needs : GlobC W := by
    obtain ⟨ps, ⟨g', t', cs, fuel, p, q, hg', ht', hv, hd, _, _⟩, _⟩ := h2
    obtain rfl := Option.some.inj ((show Tryd.prog.globalNamed "seisin/check.needs" = some 0 by kernel_rfl).symm.trans hg')
    obtain rfl := Option.some.inj ((show (Tryd.prog.globals[0]?).map (·.type) = some 167 by kernel_rfl).symm.trans ht')
    obtain ⟨bs, h1, h2, h3⟩ := open_u8s Tryd.underlying167 Tryd.underlying5 (by kernel_rfl) (by kernel_rfl) hd
    have hbs : bs = needL := by
      match bs, h1 with
      | [b0, b1, b2, b3, b4, b5, b6, b7, b8], _ =>
        simp only [Rows.laid_seisin_check_needs, List.map_cons, List.map_nil, DataW.agg.injEq, List.cons.injEq, DataW.lit.injEq, Lit.int.injEq, true_and, and_true] at h3
        simp only [needL, List.cons.injEq, and_true]
        obtain ⟨a0, a1, a2, a3, a4, a5, a6, a7, a8⟩ := h3
        refine ⟨?_, ?_, ?_, ?_, ?_, ?_, ?_, ?_, ?_⟩ <;> (apply UInt8.toNat_inj.1; simp; omega)
    subst hbs
    refine cells_mk fun i v hvv => ?_
    have hc := World.var?_cell hg' hv i
    rw [← hvv, ← h2]
    simpa using hc
  exact ⟨tz, bnd, needs⟩

def lit1V : DataW Unit → List Value
  | .lit (.int k n) => [.int k n]
  | .lit (.string s) => [.string ⟨s.toArray⟩]
  | _ => []
def lit2V : DataW Unit → List Value
  | .agg ps => ps.flatMap lit1V
  | x => lit1V x
def setGV (h : Array Obj) (g : Nat) (cs : List Value) : Array Obj := h.modify g fun
  | .cells _ t frozen => .cells cs.toArray t frozen
  | o => o
def layHV (h : Array Obj) : Array Obj :=
  let h1 := setGV h 2 (lit2V Rows.laid_math_bits_deBruijn64tab)
  let h2 := setGV h1 1 (lit2V Rows.laid_seisin_geo_bounds)
  setGV h2 0 (lit2V Rows.laid_seisin_check_needs)
noncomputable def laidWorldV (os : Os) : World :=
  { World.holding Tryd.prog os ⟨#[], #[], []⟩ with heap := layHV (World.holding Tryd.prog os ⟨#[], #[], []⟩).heap }
theorem laidWorldV_met (os : Os) (args : Array Value) : laidMetH Tryd.prog seatLaidV ((laidWorldV os).forCall (fun _ _ => 0) ⟨#[], args, []⟩).memory := by
  show laidMet Tryd.prog seatLaidV _
  exact laidMet_of_run' 8 (by kernel_rfl) (by kernel_rfl)
end Go.Proofs.YthmddpoodknclaaDoor
