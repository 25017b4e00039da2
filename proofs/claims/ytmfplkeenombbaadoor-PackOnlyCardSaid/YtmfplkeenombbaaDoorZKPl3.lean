/- Law22: PackSame: equality of systems is an equivalence, and goes by the key. -/
import Derived.Test.YtmfplkeenombbaaDoorZKPl2
set_option linter.unusedSimpArgs false
namespace Go.Proofs.YtmfplkeenombbaaDoor
open Go.Vc Go.RowKit Go.Sei

theorem put_sys {X : World} {g : Nat} {cs : List Value} {vs : List Value} (hg : X.heap[g]? = some (.cells cs.toArray 58 (0, 0))) (hc : cs.length = 69) (hv : vs.length = 69) (h1 : vs.all Value.oneCell' = true) {K : World → Prop}
    (k : ∀ Y, X.grownBy Y (some g) → Y.heap[g]? = some (.cells vs.toArray 58 (0, 0)) → Y.heap.size = X.heap.size → K Y) : SatR ((storeVar 58 ⟨g, 0, none⟩ (.agg vs.toArray)).run Tryd.prog X) fun _ w' => K w' :=
  store_box (v := .agg vs.toArray) (ttOk.get 58 _ rfl) hg (by show vs.length = 69; exact hv) (by show cs.length = 69; exact hc) h1 (k _ (grown_setRow X g _) (setRow_new hg) (by simp))
theorem sys_nil {B : Nat} {w : World} {vs : List Value} {s : Sy} (h : SysV B w vs s) : SysV B w (vs.take 68 ++ [.slice none 0 0] ++ vs.drop 69) { s with net := [] } := by
  obtain ⟨⟨p1, c1, p2, c2, p3, c3, hvs, hco, hca, hne, hnil⟩, h6⟩ := h
  have hH : (s.homes.flatMap homE.enc).length = 66 := by rw [flat_len, h6]; rfl
  rw [hvs, sys_set hH]
  exact ⟨⟨p1, c1, p2, c2, none, 0, rfl, hco, hca, .inl rfl, fun _ => rfl⟩, h6⟩
theorem eqN_symm {mode : UInt8} {l r : List Msg} (h : eqN mode l r) : eqN mode r l := ⟨fun hk => (h.1 hk).symm, fun hk => (h.2 hk).symm⟩
theorem zero_len : zeroSysC.length = 69 := rfl
theorem iff_bool {a b : Bool} {p : Prop} (h1 : a = true ↔ p) (h2 : b = true ↔ p) : a = b := by
  cases a <;> cases b <;> simp_all

theorem packSame_c {wv va vb : List Value} {g : Geo} {mode : UInt8} {a b : Sy} {w : World} (hW : WorV wv g.enc mode) (hA : SysV w.heap.size w va a) (hna : a.cores.length ≤ 9223372036854775807) (hB : SysV w.heap.size w vb b) (hnb : b.cores.length ≤ 9223372036854775807) (hG : GlobP w) :
    Calls Tryd.prog 6 #[.agg wv.toArray, .agg va.toArray, .agg vb.toArray] w fun e w' => e = .returned (.bool true) ∧ Below w.heap.size w w' := by
  have hla := hA.len
  have hlb := hB.len
  have hlw := hW.len
  refine calls_of_M (S := sg 89) (sgOk _) (args := [.agg wv.toArray, .agg va.toArray, .agg vb.toArray]) (.s .p (.c .p (.c .p (.c .p (.c .p (.c .p (.s .p (.c .p (.c .p (.c .p .p)))))))))) Tryd.func6 rfl rfl (Nat.le_of_ble_eq_true rfl) rfl ?_
  obtain ⟨W0, hW0⟩ : ∃ W0, ((w.alloc (.cells wv.toArray 44)).alloc (.cells va.toArray 58)).alloc (.cells vb.toArray 58) = W0 := ⟨_, rfl⟩
  have e1 : (w.alloc (.cells wv.toArray 44)).heap.size = w.heap.size + 1 := World.size_alloc _ _
  have e2 : ((w.alloc (.cells wv.toArray 44)).alloc (.cells va.toArray 58)).heap.size = w.heap.size + 2 := by rw [World.size_alloc, e1]
  have hb0 : Below w.heap.size w W0 := by rw [← hW0]; exact (((Below.refl _ _).alloc (Nat.le_refl _) _).alloc (by simp) _).alloc (by simp; omega) _
  have f0 : W0.heap[w.heap.size]? = some (.cells wv.toArray 44 (0, 0)) := by rw [← hW0]; exact hold _ (hold _ (hnew w _))
  have f1 : W0.heap[w.heap.size + 1]? = some (.cells va.toArray 58 (0, 0)) := by
    rw [← hW0, ← e1]; exact hold _ (hnew (w.alloc (.cells wv.toArray 44)) (.cells va.toArray 58))
  have f2 : W0.heap[w.heap.size + 2]? = some (.cells vb.toArray 58 (0, 0)) := by
    rw [← hW0, ← e2]; exact hnew _ _
  have ptr1 : some (Value.pointer (some ⟨(w.alloc (.cells wv.toArray 44)).heap.size, 0, none⟩)) = some (Value.pointer (some ⟨w.heap.size + 1, 0, none⟩)) := by rw [e1]
  have ptr2 : some (Value.pointer (some ⟨((w.alloc (.cells wv.toArray 44)).alloc (.cells va.toArray 58)).heap.size, 0, none⟩)) = some (Value.pointer (some ⟨w.heap.size + 2, 0, none⟩)) := by rw [e2]
  have hwv : ∀ V, Below W0.heap.size W0 V → Below w.heap.size w V := fun V hV => hb0.trans (hV.mono hb0.size)
  have hs0 := hb0.size
  refine ⟨Unit, fun _ => ⟨[(3, .pointer (some ⟨w.heap.size, 0, none⟩)), (4, .pointer (some ⟨w.heap.size + 1, 0, none⟩)), (5, .pointer (some ⟨w.heap.size + 2, 0, none⟩))], []⟩, fun _ V => Below W0.heap.size W0 V, ?_, ?_⟩
  · clear f0 f1 f2
    subst hW0
    refine Calls.mono (awake_c _ (hG.below hb0).bnd (hG.below hb0).cls) ?_
    rintro e V ⟨rfl, hbV⟩
    refine And.intro (fun h => by cases h) (fun _ => ?_)
    exact ⟨(), ⟨.cons rfl (.cons ptr1 (.cons ptr2 .nil)), rfl⟩, hbV⟩
  clear hW0 ptr1 ptr2 e1 e2
  have hAV : ∀ V, Below W0.heap.size W0 V → SysV V.heap.size V va a := fun V hV => (hA.below (hwv V hV)).mono (hwv V hV).size
  have hBV : ∀ V, Below W0.heap.size W0 V → SysV V.heap.size V vb b := fun V hV => (hB.below (hwv V hV)).mono (hwv V hV).size
  have hGV : ∀ V, Below W0.heap.size W0 V → GlobP V := fun V hV => hG.below (hwv V hV)
  rintro _ V hbV
  dsimp only at hbV ⊢
  refine ⟨Unit, fun _ => ⟨[(3, .pointer (some ⟨w.heap.size, 0, none⟩)), (4, .pointer (some ⟨w.heap.size + 1, 0, none⟩)), (5, .pointer (some ⟨w.heap.size + 2, 0, none⟩))], []⟩, fun _ V => Below W0.heap.size W0 V, ?_, ?_⟩
  · have f1V := block_below hbV f1
    have f2V := block_below hbV f2
    refine ⟨va, hla, cells_block f1V, hlt f1V, ?_⟩
    refine Calls.mono (great_c (hAV V hbV) hna) ?_
    rintro e X ⟨v, rfl, hbX⟩
    have hX := hbV.trans (hbX.mono hbV.size)
    refine And.intro (fun h => ?_) (fun h => ?_)
    · subst h
      exact And.intro (fun _ => ⟨rfl, hwv X hX⟩) (fun h => by cases h)
    · subst h
      refine ⟨vb, hlb, cells_block (block_below hbX f2V), hlt (block_below hbX f2V), ?_⟩
      refine Calls.mono (great_c (hBV X hX) hnb) ?_
      rintro e Y ⟨v, rfl, hbY⟩
      have hY := hX.trans (hbY.mono hX.size)
      refine And.intro (fun h => ?_) (fun h => ?_)
      · exact ⟨rfl, hwv Y hY⟩
      · exact ⟨(), ⟨.cons rfl (.cons rfl (.cons rfl .nil)), rfl⟩, hY⟩
  clear hbV V
  rintro _ V hbV
  dsimp only at hbV ⊢
  refine ⟨Bool, fun v => ⟨[(3, .pointer (some ⟨w.heap.size, 0, none⟩)), (4, .pointer (some ⟨w.heap.size + 1, 0, none⟩)), (5, .pointer (some ⟨w.heap.size + 2, 0, none⟩)), (7, .bool v)], []⟩, fun v V => (v = true ↔ fitsB g a = true ∧ fitsB g b = true ∧ ({ a with net := [] } : Sy) = { b with net := [] } ∧ eqN mode a.net b.net) ∧ Below W0.heap.size W0 V, ?_, ?_⟩
  · have f0V := block_below hbV f0
    have f1V := block_below hbV f1
    have f2V := block_below hbV f2
    refine ⟨wv, hlw, cells_block f0V, hlt f0V, ?_⟩
    refine ⟨va, hla, cells_block f1V, hlt f1V, ?_⟩
    refine ⟨vb, hlb, cells_block f2V, hlt f2V, ?_⟩
    refine Calls.mono (Same_s hW (hAV V hbV) (hBV V hbV) (hGV V hbV).bnd (hGV V hbV).cls) ?_
    rintro e X ⟨v, rfl, hv, hbX⟩
    exact ⟨v, ⟨.cons rfl (.cons rfl (.cons rfl (.cons rfl .nil))), rfl⟩, hv, hbV.trans (hbX.mono hbV.size)⟩
  clear hbV V
  rintro is V ⟨his, hbV⟩
  dsimp only at his hbV ⊢
  refine ⟨Unit, fun _ => ⟨[(3, .pointer (some ⟨w.heap.size, 0, none⟩)), (4, .pointer (some ⟨w.heap.size + 1, 0, none⟩)), (5, .pointer (some ⟨w.heap.size + 2, 0, none⟩)), (7, .bool is)], []⟩, fun _ V => (fitsB g a = true ∧ fitsB g b = true) ∧ Below W0.heap.size W0 V, ?_, ?_⟩
  · have f0V := block_below hbV f0
    have f1V := block_below hbV f1
    have f2V := block_below hbV f2
    refine ⟨wv, hlw, cells_block f0V, hlt f0V, ?_⟩
    refine ⟨va, hla, cells_block f1V, hlt f1V, ?_⟩
    refine Calls.mono (Fits_c hW (hAV V hbV) (hGV V hbV).bnd) ?_
    rintro e X ⟨rfl, hbX⟩
    have hX := hbV.trans (hbX.mono hbV.size)
    refine And.intro (fun h => ?_) (fun h => ?_)
    · have h := bt h
      refine And.intro (fun _ => ?_) (fun h => by cases h)
      have hi : is = false := by
        cases is with
        | false => rfl
        | true => have := (his.1 rfl).1; rw [h] at this; cases this
      subst hi
      exact ⟨rfl, hwv X hX⟩
    have h := bf h
    refine ⟨wv, hlw, cells_block (block_below hbX f0V), hlt (block_below hbX f0V), ?_⟩
    refine ⟨vb, hlb, cells_block (block_below hbX f2V), hlt (block_below hbX f2V), ?_⟩
    refine Calls.mono (Fits_c hW (hBV X hX) (hGV X hX).bnd) ?_
    rintro e Y ⟨rfl, hbY⟩
    have hY := hX.trans (hbY.mono hX.size)
    refine And.intro (fun h2 => ?_) (fun h2 => ?_)
    · have h2 := bt h2
      have hi : is = false := by
        cases is with
        | false => rfl
        | true => have := (his.1 rfl).2.1; rw [h2] at this; cases this
      subst hi
      exact ⟨rfl, hwv Y hY⟩
    · exact ⟨(), ⟨.cons rfl (.cons rfl (.cons rfl (.cons rfl .nil))), rfl⟩, ⟨h, bf h2⟩, hY⟩
  clear hbV V
  rintro _ V ⟨⟨hfa, hfb⟩, hbV⟩
  dsimp only at hbV ⊢
  have his : is = true ↔ ({ a with net := [] } : Sy) = { b with net := [] } ∧ eqN mode a.net b.net := his.trans ⟨fun h => h.2.2, fun h => ⟨hfa, hfb, h⟩⟩
  refine ⟨Nat × Nat, fun k => ⟨[(3, .pointer (some ⟨w.heap.size, 0, none⟩)), (4, .pointer (some ⟨w.heap.size + 1, 0, none⟩)), (5, .pointer (some ⟨w.heap.size + 2, 0, none⟩)), (7, .bool is), (8, .pointer (some ⟨k.1, 0, none⟩)), (9, .pointer (some ⟨k.2, 0, none⟩))], []⟩, fun k X => W0.heap.size ≤ k.1 ∧ W0.heap.size ≤ k.2 ∧ k.1 ≠ k.2 ∧ X.heap[k.1]? = some (.cells va.toArray 58 (0, 0)) ∧ X.heap[k.2]? = some (.cells vb.toArray 58 (0, 0)) ∧ Below W0.heap.size W0 X, ?_, ?_⟩
  · have f1V := hdr (block_below hbV f1)
    have f2V := hdr (block_below hbV f2)
    have hd := hbV.drew
    generalize hVd : V.drew = U at hd f1V f2V ⊢
    have hoA := hA.one
    have hoB := hB.one
    obtain ⟨U2, hU2⟩ : ∃ U2, U2 = (U.alloc (.cells zeroSysC.toArray 58)).alloc (.cells zeroSysC.toArray 58) := ⟨_, rfl⟩
    have hbU2 : Below W0.heap.size W0 U2 := by rw [hU2]; exact (hd.alloc hd.size _).alloc (by have := hd.size; simp; omega) _
    have z1 : U2.heap[U.heap.size]? = some (.cells zeroSysC.toArray 58 (0, 0)) := by rw [hU2]; exact hold _ (hnew U _)
    have z2 : U2.heap[(U.alloc (.cells zeroSysC.toArray 58)).heap.size]? = some (.cells zeroSysC.toArray 58 (0, 0)) := by rw [hU2]; exact hnew _ _
    have hs1 : (U.alloc (.cells zeroSysC.toArray 58)).heap.size = U.heap.size + 1 := World.size_alloc _ _
    have f2U : U2.heap[w.heap.size + 2]? = some (.cells vb.toArray 58 (0, 0)) := by rw [hU2]; exact hold _ (hold _ f2V)
    have hds := hd.size
    have l2 := hlt f2V
    have l02 := hlt f2
    -- the two stores, from any order of the boxes
    have fin : ∀ (x y : Nat) (X : World), U2.grownBy X (some x) → X.heap[x]? = some (.cells va.toArray 58 (0, 0)) → (x = U.heap.size ∧ y = (U.alloc (.cells zeroSysC.toArray 58)).heap.size ∨ y = U.heap.size ∧ x = (U.alloc (.cells zeroSysC.toArray 58)).heap.size) →
        X.heap[y]? = some (.cells zeroSysC.toArray 58 (0, 0)) ∧ X.heap[w.heap.size + 2]? = some (.cells vb.toArray 58 (0, 0)) ∧ ∀ Y, X.grownBy Y (some y) → Y.heap[y]? = some (.cells vb.toArray 58 (0, 0)) → W0.heap.size ≤ x ∧ W0.heap.size ≤ y ∧ x ≠ y ∧ Y.heap[x]? = some (.cells va.toArray 58 (0, 0)) ∧ Y.heap[y]? = some (.cells vb.toArray 58 (0, 0)) ∧ Below W0.heap.size W0 Y := fun x y X hX hx hxy => by
      have hzy : U2.heap[y]? = some (.cells zeroSysC.toArray 58 (0, 0)) := by
        rcases hxy with ⟨_, h⟩ | ⟨h, _⟩
        · rw [h]; exact z2
        · rw [h]; exact z1
      have hne : x ≠ y := by omega
      have hBX : Below W0.heap.size W0 X := hbU2.grown hX hbU2.size (fun k e => by simp only [Option.some.injEq] at e; omega)
      refine ⟨(hX.block y (hlt hzy) (fun e => by simp only [Option.some.injEq] at e; omega)).trans hzy, (hX.block (w.heap.size + 2) (hlt f2U) (fun e => by simp only [Option.some.injEq] at e; omega)).trans f2U, fun Y hY hy => ⟨by omega, by omega, hne, (hY.block x (hlt hx) (fun e => by simp only [Option.some.injEq] at e; omega)).trans hx, hy, hBX.grown hY hBX.size (fun k e => by simp only [Option.some.injEq] at e; omega)⟩⟩
    refine DrawE.treeQ [4, 5] (.op 0 (.alt (.op 2 (.alt (.op 3 (.alt (.op 4 (.op 1 (.op 5 (.nil)))) (.op 1 (.op 4 (.op 5 (.nil)))))) (.op 1 (.op 3 (.op 4 (.op 5 (.nil))))))) (.alt (.op 3 (.alt (.op 2 (.alt (.op 4 (.op 1 (.op 5 (.nil)))) (.op 1 (.op 4 (.op 5 (.nil)))))) (.op 1 (.op 2 (.op 4 (.op 5 (.nil))))))) (.op 1 (.alt (.op 2 (.op 3 (.op 4 (.op 5 (.nil))))) (.op 3 (.op 2 (.op 4 (.op 5 (.nil)))))))))) (by kernel_rfl) ?_
    rw [hVd]
    refine ⟨va, hla, cells_block f1V, hlt f1V, ?_⟩
    have ld : ∀ X, X.heap[w.heap.size + 2]? = some (.cells vb.toArray 58 (0, 0)) → Cells X ⟨w.heap.size + 2, 0, none⟩ vb ∧ w.heap.size + 2 < X.heap.size := fun X h => ⟨cells_block h, hlt h⟩
    have f2U1 : (U.alloc (.cells zeroSysC.toArray 58)).heap[w.heap.size + 2]? = some (.cells vb.toArray 58 (0, 0)) := hold _ f2V
    subst hU2
    refine And.intro ?_ (And.intro ?_ ?_)
    · refine ⟨(Below.refl _ _).alloc (Nat.le_refl _) _, ?_⟩
      refine And.intro ?_ ?_
      · refine ⟨(Below.refl _ _).alloc (Nat.le_refl _) _, ?_⟩
        refine And.intro ?_ ?_
        · refine put_sys z1 zero_len hla hoA fun X hgX hx sX => ?_
          obtain ⟨q1, q2, q3⟩ := fin (U.heap.size) ((U.alloc (.cells zeroSysC.toArray 58)).heap.size) X hgX hx (.inl ⟨rfl, rfl⟩)
          refine ⟨vb, hlb, (ld _ q2).1, (ld _ q2).2, ?_⟩
          refine put_sys q1 zero_len hlb hoB fun Y hgY hy sY => ?_
          exact ⟨(U.heap.size, (U.alloc (.cells zeroSysC.toArray 58)).heap.size), ⟨.cons rfl (.cons rfl (.cons rfl (.cons rfl (.cons rfl (.cons rfl .nil))))), rfl⟩, q3 Y hgY hy⟩
        · refine ⟨vb, hlb, (ld _ f2U).1, (ld _ f2U).2, ?_⟩
          refine put_sys z1 zero_len hla hoA fun X hgX hx sX => ?_
          obtain ⟨q1, q2, q3⟩ := fin (U.heap.size) ((U.alloc (.cells zeroSysC.toArray 58)).heap.size) X hgX hx (.inl ⟨rfl, rfl⟩)
          refine put_sys q1 zero_len hlb hoB fun Y hgY hy sY => ?_
          exact ⟨(U.heap.size, (U.alloc (.cells zeroSysC.toArray 58)).heap.size), ⟨.cons rfl (.cons rfl (.cons rfl (.cons rfl (.cons rfl (.cons rfl .nil))))), rfl⟩, q3 Y hgY hy⟩
      · refine ⟨vb, hlb, (ld _ f2U1).1, (ld _ f2U1).2, ?_⟩
        refine ⟨(Below.refl _ _).alloc (Nat.le_refl _) _, ?_⟩
        refine put_sys z1 zero_len hla hoA fun X hgX hx sX => ?_
        obtain ⟨q1, q2, q3⟩ := fin (U.heap.size) ((U.alloc (.cells zeroSysC.toArray 58)).heap.size) X hgX hx (.inl ⟨rfl, rfl⟩)
        refine put_sys q1 zero_len hlb hoB fun Y hgY hy sY => ?_
        exact ⟨(U.heap.size, (U.alloc (.cells zeroSysC.toArray 58)).heap.size), ⟨.cons rfl (.cons rfl (.cons rfl (.cons rfl (.cons rfl (.cons rfl .nil))))), rfl⟩, q3 Y hgY hy⟩
    · refine ⟨(Below.refl _ _).alloc (Nat.le_refl _) _, ?_⟩
      refine And.intro ?_ ?_
      · refine ⟨(Below.refl _ _).alloc (Nat.le_refl _) _, ?_⟩
        refine And.intro ?_ ?_
        · refine put_sys z2 zero_len hla hoA fun X hgX hx sX => ?_
          obtain ⟨q1, q2, q3⟩ := fin ((U.alloc (.cells zeroSysC.toArray 58)).heap.size) (U.heap.size) X hgX hx (.inr ⟨rfl, rfl⟩)
          refine ⟨vb, hlb, (ld _ q2).1, (ld _ q2).2, ?_⟩
          refine put_sys q1 zero_len hlb hoB fun Y hgY hy sY => ?_
          exact ⟨((U.alloc (.cells zeroSysC.toArray 58)).heap.size, U.heap.size), ⟨.cons rfl (.cons rfl (.cons rfl (.cons rfl (.cons rfl (.cons rfl .nil))))), rfl⟩, q3 Y hgY hy⟩
        · refine ⟨vb, hlb, (ld _ f2U).1, (ld _ f2U).2, ?_⟩
          refine put_sys z2 zero_len hla hoA fun X hgX hx sX => ?_
          obtain ⟨q1, q2, q3⟩ := fin ((U.alloc (.cells zeroSysC.toArray 58)).heap.size) (U.heap.size) X hgX hx (.inr ⟨rfl, rfl⟩)
          refine put_sys q1 zero_len hlb hoB fun Y hgY hy sY => ?_
          exact ⟨((U.alloc (.cells zeroSysC.toArray 58)).heap.size, U.heap.size), ⟨.cons rfl (.cons rfl (.cons rfl (.cons rfl (.cons rfl (.cons rfl .nil))))), rfl⟩, q3 Y hgY hy⟩
      · refine ⟨vb, hlb, (ld _ f2U1).1, (ld _ f2U1).2, ?_⟩
        refine ⟨(Below.refl _ _).alloc (Nat.le_refl _) _, ?_⟩
        refine put_sys z2 zero_len hla hoA fun X hgX hx sX => ?_
        obtain ⟨q1, q2, q3⟩ := fin ((U.alloc (.cells zeroSysC.toArray 58)).heap.size) (U.heap.size) X hgX hx (.inr ⟨rfl, rfl⟩)
        refine put_sys q1 zero_len hlb hoB fun Y hgY hy sY => ?_
        exact ⟨((U.alloc (.cells zeroSysC.toArray 58)).heap.size, U.heap.size), ⟨.cons rfl (.cons rfl (.cons rfl (.cons rfl (.cons rfl (.cons rfl .nil))))), rfl⟩, q3 Y hgY hy⟩
    · refine ⟨vb, hlb, (ld _ f2V).1, (ld _ f2V).2, ?_⟩
      refine And.intro ?_ ?_
      · refine ⟨(Below.refl _ _).alloc (Nat.le_refl _) _, ?_⟩
        refine ⟨(Below.refl _ _).alloc (Nat.le_refl _) _, ?_⟩
        refine put_sys z1 zero_len hla hoA fun X hgX hx sX => ?_
        obtain ⟨q1, q2, q3⟩ := fin (U.heap.size) ((U.alloc (.cells zeroSysC.toArray 58)).heap.size) X hgX hx (.inl ⟨rfl, rfl⟩)
        refine put_sys q1 zero_len hlb hoB fun Y hgY hy sY => ?_
        exact ⟨(U.heap.size, (U.alloc (.cells zeroSysC.toArray 58)).heap.size), ⟨.cons rfl (.cons rfl (.cons rfl (.cons rfl (.cons rfl (.cons rfl .nil))))), rfl⟩, q3 Y hgY hy⟩
      · refine ⟨(Below.refl _ _).alloc (Nat.le_refl _) _, ?_⟩
        refine ⟨(Below.refl _ _).alloc (Nat.le_refl _) _, ?_⟩
        refine put_sys z2 zero_len hla hoA fun X hgX hx sX => ?_
        obtain ⟨q1, q2, q3⟩ := fin ((U.alloc (.cells zeroSysC.toArray 58)).heap.size) (U.heap.size) X hgX hx (.inr ⟨rfl, rfl⟩)
        refine put_sys q1 zero_len hlb hoB fun Y hgY hy sY => ?_
        exact ⟨((U.alloc (.cells zeroSysC.toArray 58)).heap.size, U.heap.size), ⟨.cons rfl (.cons rfl (.cons rfl (.cons rfl (.cons rfl (.cons rfl .nil))))), rfl⟩, q3 Y hgY hy⟩
  clear hbV V
  rintro ⟨x, y⟩ V ⟨hx, hy, hxy, fx, fy, hbV⟩
  dsimp only at hx hy hxy fx fy hbV ⊢
  refine store_cell (ttOk.get 56 _ rfl) rfl fx (o := 68) (by show 68 < va.toArray.size; simp [hla]) (v := .slice none 0 0) rfl rfl ?_
  intro V1 fx1 gx1 sx1
  have hV1 : Below W0.heap.size W0 V1 := hbV.grown gx1 hbV.size (fun k e => by simp only [Option.some.injEq] at e; omega)
  have fy1 : V1.heap[y]? = some (.cells vb.toArray 58 (0, 0)) := (gx1.block y (hlt fy) (fun e => by simp only [Option.some.injEq] at e; omega)).trans fy
  refine ⟨List Value × List Value, fun _ => ⟨[(3, .pointer (some ⟨w.heap.size, 0, none⟩)), (4, .pointer (some ⟨w.heap.size + 1, 0, none⟩)), (5, .pointer (some ⟨w.heap.size + 2, 0, none⟩)), (7, .bool is), (8, .pointer (some ⟨x, 0, none⟩)), (9, .pointer (some ⟨y, 0, none⟩))], []⟩, fun k X => X.heap[x]? = some (.cells k.1.toArray 58 (0, 0)) ∧ X.heap[y]? = some (.cells k.2.toArray 58 (0, 0)) ∧ SysV X.heap.size X k.1 { a with net := [] } ∧ SysV X.heap.size X k.2 { b with net := [] } ∧ Below W0.heap.size W0 X, ?_, ?_⟩
  · refine store_cell (ttOk.get 56 _ rfl) rfl fy1 (o := 68) (by show 68 < vb.toArray.size; simp [hlb]) (v := .slice none 0 0) rfl rfl ?_
    intro V2 fy2 gy2 sy2
    have hV2 : Below W0.heap.size W0 V2 := hV1.grown gy2 hV1.size (fun k e => by simp only [Option.some.injEq] at e; omega)
    have fx2 : V2.heap[x]? = _ := (gy2.block x (hlt fx1) (fun e => by simp only [Option.some.injEq] at e; omega)).trans fx1
    exact ⟨(_, _), ⟨.cons rfl (.cons rfl (.cons rfl (.cons rfl (.cons rfl (.cons rfl .nil))))), rfl⟩, fx2, fy2, sys_nil (hAV V2 hV2), sys_nil (hBV V2 hV2), hV2⟩
  clear fx fy fx1 fy1 gx1 sx1 hV1 hbV V V1
  rintro ⟨vx, vy⟩ V ⟨fx, fy, hSx, hSy, hbV⟩
  dsimp only at fx fy hSx hSy hbV ⊢
  obtain ⟨m1, m2, m3, m4⟩ := sys_small hA.okm hfa
  obtain ⟨k1, k2, k3, k4⟩ := sys_small hB.okm hfb
  refine ⟨Unit, fun _ => ⟨[(3, .pointer (some ⟨w.heap.size, 0, none⟩)), (4, .pointer (some ⟨w.heap.size + 1, 0, none⟩)), (5, .pointer (some ⟨w.heap.size + 2, 0, none⟩)), (7, .bool is), (10, .bool (decide (({ a with net := [] } : Sy) = { b with net := [] })))], []⟩, fun _ X => Below W0.heap.size W0 X, ?_, ?_⟩
  · refine ⟨vx, hSx.len, cells_block fx, hlt fx, ?_⟩
    refine ⟨vy, hSy.len, cells_block fy, hlt fy, ?_⟩
    refine Calls.mono (SameSys_c hSx hSy m1 m2 (by simp) m4) ?_
    rintro e X ⟨rfl, hbX⟩
    exact ⟨(), ⟨.cons rfl (.cons rfl (.cons rfl (.cons rfl (.cons rfl .nil)))), rfl⟩, hbV.trans (hbX.mono hbV.size)⟩
  clear fx fy hSx hSy hbV vx vy V
  rintro _ V hbV
  dsimp only at hbV ⊢
  refine ⟨Unit, fun _ => ⟨[(3, .pointer (some ⟨w.heap.size, 0, none⟩)), (4, .pointer (some ⟨w.heap.size + 1, 0, none⟩)), (5, .pointer (some ⟨w.heap.size + 2, 0, none⟩)), (7, .bool is), (10, .bool (decide (({ a with net := [] } : Sy) = { b with net := [] })))], []⟩, fun _ X => knownB mode = true ∧ Below W0.heap.size W0 X, ?_, ?_⟩
  · have f0V := block_below hbV f0
    have f1V := block_below hbV f1
    have f2V := block_below hbV f2
    have hun0 : knownB mode = false → is = decide (a = b) := fun hk => iff_bool his (decide_eq_true_iff.trans ⟨fun h => (by subst h; exact ⟨rfl, fun h' => (by rw [hk] at h'; cases h'), fun _ => rfl⟩), fun h => by
      obtain ⟨h1, h2⟩ := h
      have h2 := h2.2 hk
      cases a; cases b
      simp only [Sy.mk.injEq] at h1 h2 ⊢
      exact ⟨h1.1, h1.2.1, h1.2.2.1, h2⟩⟩)
    refine ⟨_, cells_at (cells_block f0V) (i := 15) hW.mode, ?_⟩
    refine And.intro (fun h => ?_) (fun h => ?_)
    · have h : (mode.toNat : Int) < 1 := of_decide_eq_true h
      have hun := hun0 (by unfold knownB; rw [decide_eq_false (by omega)]; rfl)
      refine And.intro (fun _ => ?_) (fun h => by cases h)
      refine ⟨va, hla, cells_block f1V, hlt f1V, ?_⟩
      refine ⟨vb, hlb, cells_block f2V, hlt f2V, ?_⟩
      refine Calls.mono (SameSys_c (hAV V hbV) (hBV V hbV) m1 m2 m3 m4) ?_
      rintro e X ⟨rfl, hbX⟩
      refine ⟨_, fun w => eql_bool _ _ is (decide (a = b)) w, ?_⟩
      exact ⟨congrArg (fun b => Ending.returned (.bool b)) (decide_eq_true hun), hwv X (hbV.trans (hbX.mono hbV.size))⟩
    · have h : ¬ (mode.toNat : Int) < 1 := of_decide_eq_false h
      refine ⟨_, cells_at (cells_block f0V) (i := 15) hW.mode, ?_⟩
      refine And.intro (fun h2 => ?_) (fun h2 => ?_)
      · have h2 : 3 < (mode.toNat : Int) := of_decide_eq_true h2
        have hun := hun0 (by unfold knownB; rw [decide_eq_false (p := (mode.toNat : Int) ≤ 3) (by omega), Bool.and_false])
        refine ⟨va, hla, cells_block f1V, hlt f1V, ?_⟩
        refine ⟨vb, hlb, cells_block f2V, hlt f2V, ?_⟩
        refine Calls.mono (SameSys_c (hAV V hbV) (hBV V hbV) m1 m2 m3 m4) ?_
        rintro e X ⟨rfl, hbX⟩
        refine ⟨_, fun w => eql_bool _ _ is (decide (a = b)) w, ?_⟩
        exact ⟨congrArg (fun b => Ending.returned (.bool b)) (decide_eq_true hun), hwv X (hbV.trans (hbX.mono hbV.size))⟩
      · have h2 : ¬ 3 < (mode.toNat : Int) := of_decide_eq_false h2
        exact ⟨(), ⟨.cons rfl (.cons rfl (.cons rfl (.cons rfl (.cons rfl .nil)))), rfl⟩, by unfold knownB; rw [decide_eq_true (by omega), decide_eq_true (by omega)]; rfl, hbV⟩
  clear hbV V
  rintro _ V ⟨hk, hbV⟩
  dsimp only at hk hbV ⊢
  have f0V := hdr (block_below hbV f0)
  have f1V := hdr (block_below hbV f1)
  have f2V := hdr (block_below hbV f2)
  have hd := hbV.drew
  have hnil1 := hAV V.drew hd
  have hnil2 := hBV V.drew hd
  obtain ⟨⟨p1, c1, p2, c2, p3, c3, hvs, _, _, hne, hnil⟩, h6⟩ := hnil1
  obtain ⟨⟨q1, d1, q2, d2, q3, d3, hvs2, _, _, hne2, hnil2⟩, h62⟩ := hnil2
  have hHa : (a.homes.flatMap homE.enc).length = 66 := by rw [flat_len, h6]; rfl
  have hHb : (b.homes.flatMap homE.enc).length = 66 := by rw [flat_len, h62]; rfl
  refine DrawE.ord [] [0, 1, 2, 3, 4, 5, 6, 7, 8, 9, 10, 11, 12, 13, 14, 15, 16, 18, 19, 17, 20, 21, 22, 23, 24, 25, 26, 27, 29, 28, 30, 31, 32] (by kernel_rfl) ?_
  refine And.intro (fun h => ?_) (fun h => ?_)
  · have h : ({ a with net := [] } : Sy) = { b with net := [] } := of_decide_eq_true h
    refine ⟨_, cells_at (cells_block f1V) (i := 68) (by rw [hvs]; exact sys_net hHa), ?_⟩
    refine ⟨_, cells_at (cells_block f2V) (i := 68) (by rw [hvs2]; exact sys_net hHb), ?_⟩
    refine ⟨_, cells_at (cells_block f0V) (i := 15) hW.mode, ?_⟩
    refine Calls.mono (Same_c p3 q3 c3 d3 a.net b.net mode V.drew (hne.slr (Nat.le_refl _)) (hne2.slr (Nat.le_refl _)) hnil hnil2 (hGV _ hd).cls m3 k3) ?_
    rintro e X ⟨v2, rfl, hv2, hbX⟩
    refine ⟨hbX, ?_⟩
    have hX := hd.trans (hbX.mono hd.size)
    refine ⟨_, fun w => eql_bool _ _ is v2 w, ?_⟩
    have hi2 : is = v2 := iff_bool his (hv2.trans ⟨fun h' => ⟨h, fun _ => h'.2, fun hk' => (by rw [hk] at hk'; cases hk')⟩, fun h' => ⟨hk, h'.2.1 hk⟩⟩)
    rw [decide_eq_true hi2]
    refine And.intro (fun _ => ?_) (fun h => by cases h)
    have h1V := block_below hbX f0V
    have h2V := block_below hbX f1V
    have h3V := block_below hbX f2V
    refine ⟨wv, hlw, cells_block h1V, hlt h1V, ?_⟩
    refine ⟨va, hla, cells_block h2V, hlt h2V, ?_⟩
    refine ⟨wv, hlw, cells_block h1V, hlt h1V, ?_⟩
    refine ⟨vb, hlb, cells_block h3V, hlt h3V, ?_⟩
    refine Calls.mono (Key_s hW (hAV X hX) (hGV X hX).bnd (hGV X hX).cls) ?_
    rintro e Y ⟨s1, rfl, hs1, hbY⟩
    refine ⟨hbY, ?_⟩
    have hY := hX.trans (hbY.mono hX.size)
    refine Calls.mono (Key_s hW (hBV Y hY) (hGV Y hY).bnd (hGV Y hY).cls) ?_
    rintro e Z ⟨s2, rfl, hs2, hbZ⟩
    refine ⟨hbZ, ?_⟩
    have hZ := hY.trans (hbZ.mono hY.size)
    refine ⟨_, fun w => eql_str _ _ s1 s2 w, ?_⟩
    refine ⟨_, fun w => eql_bool _ _ is (decide (s1 = s2)) w, ?_⟩
    have hk : is = decide (s1 = s2) := iff_bool his (decide_eq_true_iff.trans (key_eq hA.okm hB.okm hs1 hs2 hfa hfb))
    rw [decide_eq_true hk]
    refine And.intro (fun _ => ?_) (fun h => by cases h)
    have h1Z := block_below hbZ (block_below hbY h1V)
    have h2Z := block_below hbZ (block_below hbY h2V)
    have h3Z := block_below hbZ (block_below hbY h3V)
    refine ⟨wv, hlw, cells_block h1Z, hlt h1Z, ?_⟩
    refine ⟨vb, hlb, cells_block h3Z, hlt h3Z, ?_⟩
    refine ⟨va, hla, cells_block h2Z, hlt h2Z, ?_⟩
    refine Calls.mono (Same_s hW (hBV Z hZ) (hAV Z hZ) (hGV Z hZ).bnd (hGV Z hZ).cls) ?_
    rintro e Q ⟨v3, rfl, hv3, hbQ⟩
    refine ⟨hbQ, ?_⟩
    refine ⟨_, fun w => eql_bool _ _ v3 is w, ?_⟩
    have h3 : v3 = is := iff_bool hv3 (his.trans ⟨fun h => ⟨hfb, hfa, h.1.symm, eqN_symm h.2⟩, fun h => ⟨h.2.2.1.symm, eqN_symm h.2.2.2⟩⟩)
    exact ⟨congrArg (fun b => Ending.returned (.bool b)) (decide_eq_true h3), hwv Q (hZ.trans (hbQ.mono hZ.size))⟩
  · have h : ¬ ({ a with net := [] } : Sy) = { b with net := [] } := of_decide_eq_false h
    have hi2 : is = false := by
      cases is with
      | false => rfl
      | true => exact absurd (his.1 rfl).1 h
    refine ⟨_, fun w => eql_bool _ _ is false w, ?_⟩
    rw [decide_eq_true hi2]
    refine And.intro (fun _ => ?_) (fun h => by cases h)
    obtain ⟨X, hXe⟩ : ∃ X, X = V.drew := ⟨_, rfl⟩
    have hX : Below W0.heap.size W0 X := by rw [hXe]; exact hd
    rw [← hXe] at f0V f1V f2V ⊢
    have h1V := block_below (Below.refl _ X) f0V
    have h2V := block_below (Below.refl _ X) f1V
    have h3V := block_below (Below.refl _ X) f2V
    refine ⟨wv, hlw, cells_block h1V, hlt h1V, ?_⟩
    refine ⟨va, hla, cells_block h2V, hlt h2V, ?_⟩
    refine ⟨wv, hlw, cells_block h1V, hlt h1V, ?_⟩
    refine ⟨vb, hlb, cells_block h3V, hlt h3V, ?_⟩
    refine Calls.mono (Key_s hW (hAV X hX) (hGV X hX).bnd (hGV X hX).cls) ?_
    rintro e Y ⟨s1, rfl, hs1, hbY⟩
    refine ⟨hbY, ?_⟩
    have hY := hX.trans (hbY.mono hX.size)
    refine Calls.mono (Key_s hW (hBV Y hY) (hGV Y hY).bnd (hGV Y hY).cls) ?_
    rintro e Z ⟨s2, rfl, hs2, hbZ⟩
    refine ⟨hbZ, ?_⟩
    have hZ := hY.trans (hbZ.mono hY.size)
    refine ⟨_, fun w => eql_str _ _ s1 s2 w, ?_⟩
    refine ⟨_, fun w => eql_bool _ _ is (decide (s1 = s2)) w, ?_⟩
    have hk : is = decide (s1 = s2) := iff_bool his (decide_eq_true_iff.trans (key_eq hA.okm hB.okm hs1 hs2 hfa hfb))
    rw [decide_eq_true hk]
    refine And.intro (fun _ => ?_) (fun h => by cases h)
    have h1Z := block_below hbZ (block_below hbY h1V)
    have h2Z := block_below hbZ (block_below hbY h2V)
    have h3Z := block_below hbZ (block_below hbY h3V)
    refine ⟨wv, hlw, cells_block h1Z, hlt h1Z, ?_⟩
    refine ⟨vb, hlb, cells_block h3Z, hlt h3Z, ?_⟩
    refine ⟨va, hla, cells_block h2Z, hlt h2Z, ?_⟩
    refine Calls.mono (Same_s hW (hBV Z hZ) (hAV Z hZ) (hGV Z hZ).bnd (hGV Z hZ).cls) ?_
    rintro e Q ⟨v3, rfl, hv3, hbQ⟩
    refine ⟨hbQ, ?_⟩
    refine ⟨_, fun w => eql_bool _ _ v3 is w, ?_⟩
    have h3 : v3 = is := iff_bool hv3 (his.trans ⟨fun h => ⟨hfb, hfa, h.1.symm, eqN_symm h.2⟩, fun h => ⟨h.2.2.1.symm, eqN_symm h.2.2.2⟩⟩)
    exact ⟨congrArg (fun b => Ending.returned (.bool b)) (decide_eq_true h3), hwv Q (hZ.trans (hbQ.mono hZ.size))⟩
end Go.Proofs.YtmfplkeenombbaaDoor
