/- Law22: PackBack: what was packed reads back. -/
import Derived.Test.YtmfplkeenombbaaDoorZKPl1
set_option linter.unusedSimpArgs false
namespace Go.Proofs.YtmfplkeenombbaaDoor
open Go.Vc Go.RowKit Go.Sei

/-- Own bytes, as Read takes them. -/
theorem own_read {B cap : Nat} {w : World} {p : Option Addr} {l : List UInt8} (h : OwnS byteE 5 B w p cap l) : RowB byteE w.heap.size w p l ∧ l.length ≤ cap := by
  refine ⟨RowB.of_slr h.row, ?_⟩
  rcases h.inv with ⟨_, h2, h3⟩ | ⟨g, cur, h1, _, _, h2, _⟩
  · subst h3; exact Nat.zero_le _
  · exact h2
theorem enc_pos {n : Nat} {s : Sy} (h : okSy n s) : 109 ≤ (encSy s).length := by rw [sy_len h]; omega
theorem enc_cap {n : Nat} {s : Sy} (h : okSy n s) (hn : n ≤ 4) : (encSy s).length ≤ 4000 := by
  have h1 := bufsL_le h.cor
  have := h.cores
  have := h.net
  rw [sy_len h]; omega
theorem bytes_cap {g : Geo} {s : Sy} (hm : okMem s) : (bytesL g s).length ≤ 4000 := by
  cases hf : fitsB g s with
  | false => rw [bytes_not hf]; simp
  | true =>
    rw [bytes_fit hf]
    obtain ⟨h1, h2, _⟩ := fits_ok hm hf
    exact enc_cap h1 h2
theorem read_enc {g : Geo} {s : Sy} (hm : okMem s) (hf : fitsB g s = true) : readS g (encSy s) = some s := by
  obtain ⟨h1, _, _, h2⟩ := fits_ok hm hf
  unfold readS
  rw [h2, if_pos rfl]
  exact dec_enc h1
theorem sys_small {g : Geo} {s : Sy} (hm : okMem s) (hf : fitsB g s = true) : s.cores.length ≤ 1000000000 ∧ s.caches.length ≤ 1000000000 ∧ s.net.length ≤ 1000000000 ∧ ∀ c ∈ s.cores, c.buf.length ≤ 1000000000 := by
  obtain ⟨h1, h2, _⟩ := fits_ok hm hf
  have := h1.cores
  have := h1.caches
  have := h1.net
  refine ⟨by omega, by omega, by omega, fun c hc => ?_⟩
  have : c.buf.length ≤ 255 := h1.cor c hc
  omega

theorem packBack_c {wv va vb : List Value} {g : Geo} {mode : UInt8} {a b : Sy} {w : World} (hW : WorV wv g.enc mode) (hA : SysV w.heap.size w va a) (hna : a.cores.length ≤ 9223372036854775807) (hB : SysV w.heap.size w vb b) (hnb : b.cores.length ≤ 9223372036854775807) (hG : GlobP w) :
    Calls Tryd.prog 3 #[.agg wv.toArray, .agg va.toArray, .agg vb.toArray] w fun e w' => e = .returned (.bool true) ∧ Below w.heap.size w w' := by
  have hla := hA.len
  have hlb := hB.len
  have hlw := hW.len
  refine calls_of_M (S := sg 79) (sgOk _) (args := [.agg wv.toArray, .agg va.toArray, .agg vb.toArray]) (.s .p (.c .p (.c .p (.c .p (.c .p (.c .p (.c .p .p))))))) Tryd.func3 rfl rfl (Nat.le_of_ble_eq_true rfl) rfl ?_
  obtain ⟨W0, hW0⟩ : ∃ W0, ((w.alloc (.cells wv.toArray 44)).alloc (.cells va.toArray 58)).alloc (.cells vb.toArray 58) = W0 := ⟨_, rfl⟩
  have e1 : (w.alloc (.cells wv.toArray 44)).heap.size = w.heap.size + 1 := World.size_alloc _ _
  have e2 : ((w.alloc (.cells wv.toArray 44)).alloc (.cells va.toArray 58)).heap.size = w.heap.size + 2 := by rw [World.size_alloc, e1]
  have hb0 : Below w.heap.size w W0 := by rw [← hW0]; exact (((Below.refl _ _).alloc (Nat.le_refl _) _).alloc (by simp) _).alloc (by simp; omega) _
  have f0 : W0.heap[w.heap.size]? = some (.cells wv.toArray 44 (0, 0)) := by rw [← hW0]; exact hold _ (hold _ (hnew w _))
  have f1 : W0.heap[w.heap.size + 1]? = some (.cells va.toArray 58 (0, 0)) := by
    rw [← hW0, ← e1]; exact hold _ (hnew (w.alloc (.cells wv.toArray 44)) (.cells va.toArray 58))
  have f2 : W0.heap[w.heap.size + 2]? = some (.cells vb.toArray 58 (0, 0)) := by
    rw [← hW0, ← e2]; exact hnew _ _
  have ptr1 : some (Value.pointer (some ⟨(w.alloc (.cells wv.toArray 44)).heap.size, 0, none⟩)) = some (Value.pointer (some ⟨w.heap.size + 1, 0, none⟩)) := by rw [e1]
  have ptr2 : some (Value.pointer (some ⟨((w.alloc (.cells wv.toArray 44)).alloc (.cells va.toArray 58)).heap.size, 0, none⟩)) = some (Value.pointer (some ⟨w.heap.size + 2, 0, none⟩)) := by rw [e2]
  have hwv : ∀ V, Below W0.heap.size W0 V → Below w.heap.size w V := fun V hV => hb0.trans (hV.mono hb0.size)
  have hs0 := hb0.size
  refine ⟨Unit, fun _ => ⟨[(3, .pointer (some ⟨w.heap.size, 0, none⟩)), (4, .pointer (some ⟨w.heap.size + 1, 0, none⟩)), (5, .pointer (some ⟨w.heap.size + 2, 0, none⟩))], []⟩, fun _ V => Below W0.heap.size W0 V, ?_, ?_⟩
  · clear f0 f1 f2
    subst hW0
    refine Calls.mono (awake_c _ (hG.below hb0).bnd (hG.below hb0).cls) ?_
    rintro e V ⟨rfl, hbV⟩
    refine And.intro (fun h => by cases h) (fun _ => ?_)
    exact ⟨(), ⟨.cons rfl (.cons ptr1 (.cons ptr2 .nil)), rfl⟩, hbV⟩
  clear hW0 ptr1 ptr2 e1 e2
  have hAV : ∀ V, Below W0.heap.size W0 V → SysV V.heap.size V va a := fun V hV => (hA.below (hwv V hV)).mono (hwv V hV).size
  have hBV : ∀ V, Below W0.heap.size W0 V → SysV V.heap.size V vb b := fun V hV => (hB.below (hwv V hV)).mono (hwv V hV).size
  have hGV : ∀ V, Below W0.heap.size W0 V → GlobP V := fun V hV => hG.below (hwv V hV)
  rintro _ V hbV
  dsimp only at hbV ⊢
  refine ⟨Unit, fun _ => ⟨[(3, .pointer (some ⟨w.heap.size, 0, none⟩)), (4, .pointer (some ⟨w.heap.size + 1, 0, none⟩)), (5, .pointer (some ⟨w.heap.size + 2, 0, none⟩))], []⟩, fun _ V => Below W0.heap.size W0 V, ?_, ?_⟩
  · have f1V := block_below hbV f1
    have f2V := block_below hbV f2
    refine ⟨va, hla, cells_block f1V, hlt f1V, ?_⟩
    refine Calls.mono (great_c (hAV V hbV) hna) ?_
    rintro e X ⟨v, rfl, hbX⟩
    have hX := hbV.trans (hbX.mono hbV.size)
    refine And.intro (fun h => ?_) (fun h => ?_)
    · subst h
      exact And.intro (fun _ => ⟨rfl, hwv X hX⟩) (fun h => by cases h)
    · subst h
      refine ⟨vb, hlb, cells_block (block_below hbX f2V), hlt (block_below hbX f2V), ?_⟩
      refine Calls.mono (great_c (hBV X hX) hnb) ?_
      rintro e Y ⟨v, rfl, hbY⟩
      have hY := hX.trans (hbY.mono hX.size)
      refine And.intro (fun h => ?_) (fun h => ?_)
      · exact ⟨rfl, hwv Y hY⟩
      · exact ⟨(), ⟨.cons rfl (.cons rfl (.cons rfl .nil)), rfl⟩, hY⟩
  clear hbV V
  rintro _ V hbV
  dsimp only at hbV ⊢
  refine ⟨(Option Addr × Nat) × (Option Addr × Nat), fun k => ⟨[(3, .pointer (some ⟨w.heap.size, 0, none⟩)), (4, .pointer (some ⟨w.heap.size + 1, 0, none⟩)), (5, .pointer (some ⟨w.heap.size + 2, 0, none⟩)), (7, .slice k.1.1 (bytesL g a).length k.1.2), (8, .slice k.2.1 (bytesL g b).length k.2.2)], []⟩, fun k V => (RowB byteE V.heap.size V k.1.1 (bytesL g a) ∧ (bytesL g a).length ≤ k.1.2) ∧ SlR byteE V k.2.1 (bytesL g b) ∧ Below W0.heap.size W0 V, ?_, ?_⟩
  · have f0V := block_below hbV f0
    have f1V := block_below hbV f1
    have f2V := block_below hbV f2
    refine DrawE.ord [] [0, 1, 3, 4, 2, 5, 6, 7] (by kernel_rfl) ?_
    refine ⟨wv, hlw, cells_block (hdr f0V), hlt (hdr f0V), ?_⟩
    refine ⟨va, hla, cells_block (hdr f1V), hlt (hdr f1V), ?_⟩
    refine ⟨wv, hlw, cells_block (hdr f0V), hlt (hdr f0V), ?_⟩
    refine ⟨vb, hlb, cells_block (hdr f2V), hlt (hdr f2V), ?_⟩
    have hd := hbV.drew
    refine Calls.mono (Bytes_s hW (hAV _ hd) (hGV _ hd).bnd) ?_
    rintro e X ⟨p, cap, rfl, ho, hbX⟩
    refine ⟨hbX, ?_⟩
    have hX := hd.trans (hbX.mono hd.size)
    refine Calls.mono (Bytes_s hW (hBV X hX) (hGV X hX).bnd) ?_
    rintro e Y ⟨q, cq, rfl, ho2, hbY⟩
    refine ⟨hbY, ?_⟩
    exact ⟨((p, cap), (q, cq)), ⟨.cons rfl (.cons rfl (.cons rfl (.cons rfl (.cons rfl .nil)))), rfl⟩, own_read (ho.below hbY), ho2.row, hX.trans (hbY.mono hX.size)⟩
  clear hbV V
  rintro ⟨⟨p, cap⟩, ⟨q, cq⟩⟩ V ⟨⟨hrp, hcp⟩, hrq, hbV⟩
  dsimp only at hrp hcp hrq hbV ⊢
  refine ⟨Unit, fun _ => ⟨[(3, .pointer (some ⟨w.heap.size, 0, none⟩)), (4, .pointer (some ⟨w.heap.size + 1, 0, none⟩)), (5, .pointer (some ⟨w.heap.size + 2, 0, none⟩)), (7, .slice p (bytesL g a).length cap), (8, .slice q (bytesL g b).length cq)], []⟩, fun _ X => fitsB g a = true ∧ Below V.heap.size V X ∧ Below W0.heap.size W0 X, ?_, ?_⟩
  · have f0V := block_below hbV f0
    have f1V := block_below hbV f1
    refine ⟨wv, hlw, cells_block f0V, hlt f0V, ?_⟩
    refine ⟨va, hla, cells_block f1V, hlt f1V, ?_⟩
    refine Calls.mono (Fits_c hW (hAV V hbV) (hGV V hbV).bnd) ?_
    rintro e X ⟨rfl, hbX⟩
    have hX := hbV.trans (hbX.mono hbV.size)
    have f0X := block_below hbX f0V
    have f1X := block_below hbX f1V
    refine And.intro (fun h => ?_) (fun h => ?_)
    · have h := bt h
      rw [bytes_not h]
      refine And.intro (fun _ => ?_) (fun h => absurd rfl (of_decide_eq_false h))
      refine ⟨wv, hlw, cells_block f0X, hlt f0X, ?_⟩
      refine ⟨va, hla, cells_block f1X, hlt f1X, ?_⟩
      refine Calls.mono (Key_s hW (hAV X hX) (hGV X hX).bnd (hGV X hX).cls) ?_
      rintro e Y ⟨k, rfl, hk, hbY⟩
      have hY := hX.trans (hbY.mono hX.size)
      have hk := hk.2 h
      subst hk
      refine ⟨_, fun w => eql_str _ _ [] [] w, ?_⟩
      refine And.intro (fun _ => ?_) (fun h => absurd rfl (of_decide_eq_false h))
      have f0Y := block_below hbY f0X
      have f1Y := block_below hbY f1X
      refine ⟨wv, hlw, cells_block f0Y, hlt f0Y, ?_⟩
      refine ⟨va, hla, cells_block f1Y, hlt f1Y, ?_⟩
      refine ⟨va, hla, cells_block f1Y, hlt f1Y, ?_⟩
      refine Calls.mono (Same_s hW (hAV Y hY) (hAV Y hY) (hGV Y hY).bnd (hGV Y hY).cls) ?_
      rintro e Z ⟨v, rfl, hv, hbZ⟩
      have hvf : v = false := by
        cases v with
        | false => rfl
        | true => have := (hv.1 rfl).1; rw [h] at this; cases this
      subst hvf
      exact ⟨rfl, hwv Z (hY.trans (hbZ.mono hY.size))⟩
    · exact ⟨(), ⟨.cons rfl (.cons rfl (.cons rfl (.cons rfl (.cons rfl .nil)))), rfl⟩, bf h, hbX, hX⟩
  rintro _ X ⟨hf, hbX, hX⟩
  dsimp only at hf hbX hX ⊢
  rw [bytes_fit hf] at hrp hcp ⊢
  have hrpX := (hrp.below hbX).mono hbX.size
  have hrqX := hrq.below hbX
  clear hrp hrq hbX hbV V
  obtain ⟨hoa, hc4, _, hgr⟩ := fits_ok hA.okm hf
  have hcap := enc_cap hoa hc4
  refine ⟨Nat × List Value, fun k => ⟨[(3, .pointer (some ⟨w.heap.size, 0, none⟩)), (4, .pointer (some ⟨w.heap.size + 1, 0, none⟩)), (5, .pointer (some ⟨w.heap.size + 2, 0, none⟩)), (7, .slice p (encSy a).length cap), (8, .slice q (bytesL g b).length cq), (9, .pointer (some ⟨k.1, 0, none⟩)), (10, .int .i64 0)], []⟩, fun k Y => Y.heap[k.1]? = some (.cells k.2.toArray 58 (0, 0)) ∧ SysV Y.heap.size Y k.2 a ∧ Below X.heap.size X Y ∧ Below W0.heap.size W0 Y, ?_, ?_⟩
  · have f0X := block_below hX f0
    refine ⟨wv, hlw, cells_block f0X, hlt f0X, ?_⟩
    refine Calls.mono (Read_s hW (hGV X hX).bnd hrpX hcp (by omega)) ?_
    rintro e Y ⟨v, rfl, vs, en, rfl, hbY, hS, _, hen⟩
    have hen : en = 0 := hen (by rw [read_enc hA.okm hf]; simp)
    subst hen
    rw [read_enc hA.okm hf] at hS
    have hS : SysV Y.heap.size Y vs a := hS
    refine store_new (X := Y) (v := .agg vs.toArray) (ttOk.get 58 _ rfl) (by show vs.length = 69; exact hS.len) (by rfl) hS.one fun Z hbZ fZ sZ => ?_
    have hXZ := hbY.trans (hbZ.mono hbY.size)
    exact ⟨(Y.heap.size, vs), ⟨.cons rfl (.cons rfl (.cons rfl (.cons rfl (.cons rfl (.cons rfl (.cons rfl .nil)))))), rfl⟩, fZ, (hS.below hbZ).mono hbZ.size, hXZ, hX.trans (hXZ.mono hX.size)⟩
  rintro ⟨gs, vs⟩ Y ⟨fs, hS, hbY, hY⟩
  dsimp only at fs hS hbY hY ⊢
  have hrpY := (hrpX.below hbY).mono hbY.size
  have hrqY := hrqX.below hbY
  clear hrpX hrqX hbY hX X
  obtain ⟨m1, m2, m3, m4⟩ := sys_small hA.okm hf
  refine ⟨Unit, fun _ => ⟨[(3, .pointer (some ⟨w.heap.size, 0, none⟩)), (4, .pointer (some ⟨w.heap.size + 1, 0, none⟩)), (5, .pointer (some ⟨w.heap.size + 2, 0, none⟩)), (7, .slice p (encSy a).length cap), (8, .slice q (bytesL g b).length cq)], []⟩, fun _ Z => Below Y.heap.size Y Z ∧ Below W0.heap.size W0 Z, ?_, ?_⟩
  · have f1Y := block_below hY f1
    refine And.intro (fun h => by cases h) (fun _ => ?_)
    refine ⟨vs, hS.len, cells_block fs, hlt fs, ?_⟩
    refine ⟨va, hla, cells_block f1Y, hlt f1Y, ?_⟩
    refine Calls.mono (SameSys_c hS (hAV Y hY) m1 m2 m3 m4) ?_
    rintro e Z ⟨rfl, hbZ⟩
    have hZ := hY.trans (hbZ.mono hY.size)
    rw [decide_eq_true rfl]
    refine And.intro (fun h => by cases h) (fun _ => ?_)
    have hpos := enc_pos hoa
    refine And.intro (fun h => ?_) (fun _ => ?_)
    · have h : ((encSy a).length : Int) = 0 := of_decide_eq_true h
      omega
    · exact ⟨(), ⟨.cons rfl (.cons rfl (.cons rfl (.cons rfl (.cons rfl .nil)))), rfl⟩, hbZ, hZ⟩
  rintro _ Z ⟨hbZ, hZ⟩
  dsimp only at hbZ hZ ⊢
  have hrp := ((hrpY.below hbZ).slr hbZ.size)
  have hrq := hrqY.below hbZ
  clear hrpY hrqY hbZ hY fs hS Y
  have f0Z := block_below hZ f0
  have f1Z := block_below hZ f1
  have f2Z := block_below hZ f2
  refine DrawE.ord [] [0, 1, 2, 3, 4, 5, 6, 7, 8, 9, 10, 11, 12, 13, 14, 15] (by kernel_rfl) ?_
  have hd := hZ.drew
  refine ⟨wv, hlw, cells_block (hdr f0Z), hlt (hdr f0Z), ?_⟩
  refine ⟨vb, hlb, cells_block (hdr f2Z), hlt (hdr f2Z), ?_⟩
  refine Calls.mono (Fits_c hW (hBV _ hd) (hGV _ hd).bnd) ?_
  rintro e X ⟨rfl, hbX⟩
  refine ⟨hbX, ?_⟩
  have hX := hd.trans (hbX.mono hd.size)
  refine And.intro (fun h => ?_) (fun h => ?_)
  · exact ⟨rfl, hwv X hX⟩
  have h := bf h
  rw [bytes_fit h] at hrq ⊢
  have hdX := (Below.refl _ Z).drew.trans (hbX.mono (Nat.le_refl _))
  refine ⟨_, fun w2 hb2 => conv_arg (hrp.below hdX) w2 hb2, ?_⟩
  refine ⟨_, fun w2 hb2 => conv_arg (hrq.below hdX) w2 hb2, ?_⟩
  refine ⟨_, fun w => eql_str _ _ (encSy a) (encSy b) w, ?_⟩
  have f1X := block_below hdX f1Z
  have f2X := block_below hdX f2Z
  refine ⟨va, hla, cells_block f1X, hlt f1X, ?_⟩
  refine ⟨vb, hlb, cells_block f2X, hlt f2X, ?_⟩
  refine Calls.mono (SameSys_c (hAV X hX) (hBV X hX) m1 m2 m3 m4) ?_
  rintro e Y ⟨rfl, hbY⟩
  refine ⟨hbY, ?_⟩
  refine ⟨_, fun w => eql_bool _ _ (decide (encSy a = encSy b)) (decide (a = b)) w, ?_⟩
  refine ⟨?_, hwv Y (hX.trans (hbY.mono hX.size))⟩
  have hob := (fits_ok hB.okm h).1
  have : decide (decide (encSy a = encSy b) = decide (a = b)) = true := by
    rw [decide_eq_true_iff]
    by_cases hab : a = b
    · subst hab; simp
    · rw [decide_eq_false hab, decide_eq_false (fun h => hab (enc_inj hoa hob rfl h))]
  exact congrArg (fun b => Ending.returned (.bool b)) this
end Go.Proofs.YtmfplkeenombbaaDoor
