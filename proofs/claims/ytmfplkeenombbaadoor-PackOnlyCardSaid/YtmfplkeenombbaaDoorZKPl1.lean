/- Law22: PackLong: the length of an encoding. -/
import Derived.Test.YtmfplkeenombbaaDoorZ5
import Derived.Test.YtmfplkeenombbaaDoorZ3
set_option linter.unusedSimpArgs false
namespace Go.Proofs.YtmfplkeenombbaaDoor
open Go.Vc Go.RowKit Go.Sei

theorem GlobP.below {w w2 : World} (h : GlobP w) (hb : Below w.heap.size w w2) : GlobP w2 := ⟨h.bnd.below hb, h.cls.below hb⟩
theorem bytes_fit {g : Geo} {s : Sy} (h : fitsB g s = true) : bytesL g s = encSy s := by unfold bytesL; rw [h]; rfl
theorem bytes_not {g : Geo} {s : Sy} (h : fitsB g s = false) : bytesL g s = [] := by unfold bytesL; rw [h]; rfl
theorem bt {b : Bool} (h : (!b) = true) : b = false := by cases b <;> simp_all
theorem bf {b : Bool} (h : (!b) = false) : b = true := by cases b <;> simp_all
theorem bufsL_take {l : List Cor} {k : Nat} (h : k < l.length) : bufsL (l.take (k + 1)) = bufsL (l.take k) + l[k].buf.length := by
  unfold bufsL
  rw [List.take_succ_eq_append_getElem h, List.map_append, List.sum_append]; simp
theorem bufsL_le : ∀ {l : List Cor} (_ : ∀ c ∈ l, c.buf.length ≤ 255), bufsL l ≤ 255 * l.length
  | [], _ => by simp [bufsL]
  | c :: r, h => by
    have := bufsL_le (l := r) fun d hd => h d (by simp [hd])
    have := h c (by simp)
    unfold bufsL at *
    simp only [List.map_cons, List.sum_cons, List.length_cons]; omega

theorem packLong_c {wv vs : List Value} {g : Geo} {mode : UInt8} {s : Sy} (m : Msg) {w : World} (hW : WorV wv g.enc mode) (hS : SysV w.heap.size w vs s) (hn : s.cores.length ≤ 9223372036854775807) (hG : GlobP w) :
    Calls Tryd.prog 5 #[.agg wv.toArray, .agg vs.toArray, m.val] w fun e w' => e = .returned (.bool true) ∧ Below w.heap.size w w' := by
  have hla := hS.len
  have hlw := hW.len
  refine calls_of_M (S := sg 86) (sgOk _) (args := [.agg wv.toArray, .agg vs.toArray, m.val]) (.s .p (.c .p (.c .p (.s .p (.c .p (.c .p (.c .p (.c .p (.s .p .p))))))))) Tryd.func5 rfl rfl (Nat.le_of_ble_eq_true rfl) rfl ?_
  obtain ⟨W0, hW0⟩ : ∃ W0, ((w.alloc (.cells wv.toArray 44)).alloc (.cells vs.toArray 58)).alloc (.cells m.val.cells 71) = W0 := ⟨_, rfl⟩
  have e1 : (w.alloc (.cells wv.toArray 44)).heap.size = w.heap.size + 1 := World.size_alloc _ _
  have e2 : ((w.alloc (.cells wv.toArray 44)).alloc (.cells vs.toArray 58)).heap.size = w.heap.size + 2 := by rw [World.size_alloc, e1]
  have hb0 : Below w.heap.size w W0 := by rw [← hW0]; exact (((Below.refl _ _).alloc (Nat.le_refl _) _).alloc (by simp) _).alloc (by simp; omega) _
  have f0 : W0.heap[w.heap.size]? = some (.cells wv.toArray 44 (0, 0)) := by rw [← hW0]; exact hold _ (hold _ (hnew w _))
  have f1 : W0.heap[w.heap.size + 1]? = some (.cells vs.toArray 58 (0, 0)) := by
    rw [← hW0, ← e1]; exact hold _ (hnew (w.alloc (.cells wv.toArray 44)) (.cells vs.toArray 58))
  have f2 : W0.heap[w.heap.size + 2]? = some (.cells m.val.cells 71 (0, 0)) := by
    rw [← hW0, ← e2]; exact hnew _ _
  have ptr1 : some (Value.pointer (some ⟨(w.alloc (.cells wv.toArray 44)).heap.size, 0, none⟩)) = some (Value.pointer (some ⟨w.heap.size + 1, 0, none⟩)) := by rw [e1]
  have ptr2 : some (Value.pointer (some ⟨((w.alloc (.cells wv.toArray 44)).alloc (.cells vs.toArray 58)).heap.size, 0, none⟩)) = some (Value.pointer (some ⟨w.heap.size + 2, 0, none⟩)) := by rw [e2]
  have hwv : ∀ V, Below W0.heap.size W0 V → Below w.heap.size w V := fun V hV => hb0.trans (hV.mono hb0.size)
  have hs0 := hb0.size
  refine ⟨Unit, fun _ => ⟨[(3, .pointer (some ⟨w.heap.size, 0, none⟩)), (4, .pointer (some ⟨w.heap.size + 1, 0, none⟩)), (5, .pointer (some ⟨w.heap.size + 2, 0, none⟩))], []⟩, fun _ V => Below W0.heap.size W0 V, ?_, ?_⟩
  · clear f0 f1 f2
    subst hW0
    refine Calls.mono (awake_c _ (hG.below hb0).bnd (hG.below hb0).cls) ?_
    rintro e V ⟨rfl, hbV⟩
    refine And.intro (fun h => by cases h) (fun _ => ?_)
    exact ⟨(), ⟨.cons rfl (.cons ptr1 (.cons ptr2 .nil)), rfl⟩, hbV⟩
  clear hW0 ptr1 ptr2 e1 e2
  rintro _ V hbV
  dsimp only at hbV ⊢
  refine ⟨Unit, fun _ => ⟨[(3, .pointer (some ⟨w.heap.size, 0, none⟩)), (4, .pointer (some ⟨w.heap.size + 1, 0, none⟩)), (5, .pointer (some ⟨w.heap.size + 2, 0, none⟩))], []⟩, fun _ V => Below W0.heap.size W0 V ∧ fitsB g s = true, ?_, ?_⟩
  · have f0V := block_below hbV f0
    have f1V := block_below hbV f1
    have hwV := hwv V hbV
    refine ⟨vs, hla, cells_block f1V, hlt f1V, ?_⟩
    refine Calls.mono (great_c ((hS.below hwV).mono hwV.size) hn) ?_
    rintro e X ⟨v, rfl, hbX⟩
    have hX := hbV.trans (hbX.mono hbV.size)
    have hwX := hwv X hX
    refine And.intro (fun h => ?_) (fun h => ?_)
    · subst h
      exact And.intro (fun _ => ⟨rfl, hwX⟩) (fun h => by cases h)
    · subst h
      refine ⟨wv, hlw, cells_block (block_below hbX f0V), hlt (block_below hbX f0V), ?_⟩
      refine ⟨vs, hla, cells_block (block_below hbX f1V), hlt (block_below hbX f1V), ?_⟩
      refine Calls.mono (Fits_c hW ((hS.below hwX).mono hwX.size) (hG.below hwX).bnd) ?_
      rintro e Y ⟨rfl, hbY⟩
      have hY := hX.trans (hbY.mono hX.size)
      refine And.intro (fun h => ?_) (fun h => ?_)
      · exact ⟨rfl, hwv Y hY⟩
      · exact ⟨(), ⟨.cons rfl (.cons rfl (.cons rfl .nil)), rfl⟩, hY, bf h⟩
  clear hbV V
  rintro _ V ⟨hbV, hfit⟩
  dsimp only at hbV ⊢
  obtain ⟨hok, hc4, hc1, hgr⟩ := fits_ok hS.okm hfit
  have hsl := sy_len hok
  have hbl : ∀ k, bufsL (s.cores.take k) ≤ 1020 := fun k => by
    have h1 := bufsL_le (l := s.cores.take k) fun c hc => hok.cor c (List.mem_of_mem_take hc)
    have h2 : (s.cores.take k).length ≤ s.cores.length := by rw [List.length_take]; omega
    have := hok.cores
    omega
  have hnet := hok.net
  have hcl : ∀ X, Below W0.heap.size W0 X → ∃ p1 c1 p2 c2 p3 c3, vs = .slice p1 s.cores.length c1 :: .slice p2 s.caches.length c2 :: (s.homes.flatMap homE.enc ++ [.slice p3 s.net.length c3]) ∧ Cells X ⟨w.heap.size + 1, 0, none⟩ vs := fun X hX => by
    obtain ⟨⟨p1, c1, p2, c2, p3, c3, hvs, _⟩, _⟩ := hS
    exact ⟨p1, c1, p2, c2, p3, c3, hvs, cells_block (block_below hX f1)⟩
  have hH : (s.homes.flatMap homE.enc).length = 66 := by rw [flat_len, hok.homes]; rfl
  obtain ⟨p1, c1, p2, c2, p3, c3, hvs, hclV⟩ := hcl V hbV
  have hgeo : Cells V ⟨w.heap.size, 10, none⟩ g.enc := by
    have := cells_sub (n := 10) (m := 5) (cells_block (block_below hbV f0))
    simp only [Nat.zero_add] at this
    rw [← hW.geo]; exact this
  refine ⟨_, cells_at hgeo (i := 0) rfl, ?_⟩
  refine ⟨_, wrap_i64 (by omega), ?_⟩
  refine ⟨_, wrap_i64 (by omega), ?_⟩
  refine ⟨_, cells_at hclV (i := 68) (by rw [hvs]; exact sys_net hH), ?_⟩
  refine ⟨_, wrap_i64 (by omega), ?_⟩
  refine ⟨_, wrap_i64 (by omega), ?_⟩
  refine ⟨Unit, fun _ => ⟨[(3, .pointer (some ⟨w.heap.size, 0, none⟩)), (4, .pointer (some ⟨w.heap.size + 1, 0, none⟩)), (5, .pointer (some ⟨w.heap.size + 2, 0, none⟩)), (7, .int .i64 ((encSy s).length : Nat))], []⟩, fun _ X => Below W0.heap.size W0 X, ?_, ?_⟩
  · refine ⟨Nat, fun k => ⟨[(3, .pointer (some ⟨w.heap.size, 0, none⟩)), (4, .pointer (some ⟨w.heap.size + 1, 0, none⟩)), (5, .pointer (some ⟨w.heap.size + 2, 0, none⟩)), (7, .int .i64 ((171 * g.c.toNat + 109 + 11 * s.net.length + 2 * bufsL (s.cores.take k) : Nat) : Int)), (8, .int .i64 (k : Nat))], []⟩, fun k X => k ≤ s.cores.length ∧ Below W0.heap.size W0 X, fun k => s.cores.length - k, 0, ⟨.cons rfl (.cons rfl (.cons rfl (.cons ?_ (.cons rfl .nil)))), rfl⟩, ⟨Nat.zero_le _, hbV⟩, ?_⟩
    · have : bufsL (s.cores.take 0) = 0 := rfl
      rw [this]
      have : (171 * g.c + 109 + 11 * (s.net.length : Int) : Int) = ((171 * g.c.toNat + 109 + 11 * s.net.length + 2 * 0 : Nat) : Int) := by omega
      rw [← this]; rfl
    rintro k X ⟨hk, hX⟩
    dsimp only at hk hX ⊢
    have hclX := (cells_block (block_below hX f1) : Cells X ⟨w.heap.size + 1, 0, none⟩ vs)
    refine ⟨_, cells_at hclX (i := 0) (by rw [hvs]; rfl), ?_⟩
    refine And.intro (fun hc => ?_) (fun hc => ?_)
    · have hc : (k : Int) < s.cores.length := of_decide_eq_true hc
      have hks : k < s.cores.length := by omega
      obtain ⟨⟨q1, d1, q2, d2, q3, d3, hvs2, ⟨b, o, hp, hat⟩, hca, hne, hnil⟩, h6⟩ := hS.below (hwv X hX)
      rw [hvs2] at hvs
      simp only [List.cons.injEq, Value.slice.injEq, true_and] at hvs
      obtain ⟨⟨rfl, rfl⟩, ⟨rfl, rfl⟩, _⟩ := hvs
      obtain ⟨pb, cb, hbB, hcb, _⟩ := hat k hks
      rcases hp with hp | hp
      · omega
      subst hp
      refine ⟨_, cells_at hclX (i := 0) (by rw [hvs2]; rfl), ?_⟩
      refine ⟨k, rfl, hks, ?_⟩
      refine ⟨_, cells_at hcb (i := 9) rfl, ?_⟩
      have hbk := bufsL_take hks
      have hb1 := hbl (k + 1)
      refine ⟨_, wrap_i64 (by omega), ?_⟩
      refine ⟨((171 * g.c.toNat + 109 + 11 * s.net.length + 2 * bufsL (s.cores.take (k + 1)) : Nat) : Int), (wrap_i64 (by omega)).trans (by omega), ?_⟩
      refine ⟨(k + 1 : Nat), (wrap_i64 (by omega)).trans (by omega), ?_⟩
      exact ⟨k + 1, ⟨.cons rfl (.cons rfl (.cons rfl (.cons rfl (.cons rfl .nil)))), rfl⟩, ⟨hks, hX⟩, by omega⟩
    · have hc : ¬ (k : Int) < s.cores.length := of_decide_eq_false hc
      refine ⟨(), ⟨.cons rfl (.cons rfl (.cons rfl (.cons ?_ .nil))), rfl⟩, hX⟩
      have hke : k = s.cores.length := by omega
      subst hke
      rw [hsl, List.take_length]; rfl
  clear hclV hgeo hvs hbV V
  rintro _ V hbV
  dsimp only at hbV ⊢
  refine ⟨Nat, fun k => ⟨[(3, .pointer (some ⟨w.heap.size, 0, none⟩)), (4, .pointer (some ⟨w.heap.size + 1, 0, none⟩)), (5, .pointer (some ⟨w.heap.size + 2, 0, none⟩)), (7, .int .i64 ((encSy s).length : Nat)), (9, .pointer (some ⟨k, 0, none⟩))], []⟩, fun k X => W0.heap.size ≤ k ∧ X.heap[k]? = some (.cells vs.toArray 58 (0, 0)) ∧ Below W0.heap.size W0 X, ?_, ?_⟩
  · have f1V := block_below hbV f1
    refine ⟨vs, hla, cells_block f1V, hlt f1V, ?_⟩
    refine store_new (X := V) (v := .agg vs.toArray) (ttOk.get 58 _ rfl) (by show vs.length = 69; exact hla) (by rfl) hS.one fun Y hbY fY sY => ?_
    exact ⟨V.heap.size, ⟨.cons rfl (.cons rfl (.cons rfl (.cons rfl (.cons rfl .nil)))), rfl⟩, hbV.size, fY, hbV.trans (hbY.mono hbV.size)⟩
  clear hbV V
  rintro gt V ⟨hgt, ft, hbV⟩
  dsimp only at hgt ft hbV ⊢
  refine ⟨List Value, fun _ => ⟨[(3, .pointer (some ⟨w.heap.size, 0, none⟩)), (4, .pointer (some ⟨w.heap.size + 1, 0, none⟩)), (7, .int .i64 ((encSy s).length : Nat)), (9, .pointer (some ⟨gt, 0, none⟩))], []⟩, fun vt X => X.heap[gt]? = some (.cells vt.toArray 58 (0, 0)) ∧ SysV X.heap.size X vt { s with net := s.net ++ [m] } ∧ Below W0.heap.size W0 X, ?_, ?_⟩
  · obtain ⟨⟨p1, c1, p2, c2, p3, c3, hvs, hco, hca, hne, hnil⟩, h6⟩ := hS.below (hwv V hbV)
    have f1V := block_below hbV f1
    have f2V := block_below hbV f2
    refine ⟨_, cells_at (cells_block f1V) (i := 68) (by rw [hvs]; exact sys_net hH), ?_⟩
    refine ⟨m.enc, rfl, cells_block f2V, hlt f2V, ?_⟩
    refine ⟨⟨by decide, by decide, rfl⟩, m.enc, rfl, ?_⟩
    obtain ⟨V1, hV1⟩ : ∃ V1, V1 = V.alloc (.cells m.enc.toArray 71) := ⟨_, rfl⟩
    have hb1 : Below V.heap.size V V1 := by rw [hV1]; exact (Below.refl _ _).alloc (Nat.le_refl _) _
    have s1 : SlR Msg.E V1 (some ⟨V.heap.size, 0, none⟩) [m] := by
      rw [hV1]
      refine SlR.of_cells (by simp) ?_
      have : [m].flatMap Msg.E.enc = m.enc := by simp [Msg.E]
      rw [this]
      exact cells_new
    rw [← hV1]
    refine Calls.mono (Send_c p3 (some ⟨V.heap.size, 0, none⟩) c3 1 s.net [m] V1 ((hne.slr (hwv V hbV).size).below hb1) s1 hnil (fun h => by cases h) (by simp; omega)) ?_
    rintro e X ⟨q, cq, rfl, ho, hbX⟩
    have hVX := hb1.trans (hbX.mono hb1.size)
    have hX := hbV.trans (hVX.mono hbV.size)
    have ftX := block_below hVX ft
    refine store_cell (ttOk.get 56 _ rfl) rfl ftX (o := 68) (by show 68 < vs.toArray.size; simp [hla]) (v := .slice q (s.net ++ [m]).length cq) rfl rfl ?_
    intro Y fY gY sY
    have hY : Below W0.heap.size W0 Y := hX.grown gY hX.size (fun k e => by
      simp only [Option.some.injEq] at e
      rw [← e]; exact hgt)
    have hvs' : vs.toArray.toList.take 68 ++ [Value.slice q (s.net ++ [m]).length cq] ++ vs.toArray.toList.drop (68 + 1) = .slice p1 s.cores.length c1 :: .slice p2 s.caches.length c2 :: (s.homes.flatMap homE.enc ++ [.slice q (s.net ++ [m]).length cq]) := by
      have : vs.toArray.toList = vs := rfl
      rw [this, hvs]; exact sys_set hH
    rw [hvs'] at fY
    have hgV := hlt ft
    have hoY : OwnS Msg.E 71 V1.heap.size Y q cq (s.net ++ [m]) := ho.kept gY fun g' hg' e => by
      simp only [Option.some.injEq] at e
      have h1s := hb1.size
      rcases ho.inv with ⟨h1, _⟩ | ⟨g2, _, h1, h2, _⟩
      · rw [h1] at hg'; cases hg'
      · rw [h1] at hg'
        simp only [Option.some.injEq, Addr.mk.injEq, and_true] at hg'
        omega
    have hwY := hwv Y hY
    have hSY : SysV Y.heap.size Y (.slice p1 s.cores.length c1 :: .slice p2 s.caches.length c2 :: (s.homes.flatMap homE.enc ++ [.slice q (s.net ++ [m]).length cq])) { s with net := s.net ++ [m] } := by
      obtain ⟨⟨a1, b1, a2, b2, a3, b3, hvs2, hco2, hca2, hne2, hnil2⟩, _⟩ := hS
      rw [hvs2] at hvs
      simp only [List.cons.injEq, Value.slice.injEq, true_and] at hvs
      obtain ⟨⟨rfl, rfl⟩, ⟨rfl, rfl⟩, _⟩ := hvs
      refine ⟨⟨_, _, _, _, _, _, rfl, (hco2.below hwY).mono hwY.size, (hca2.below hwY).mono hwY.size, RowB.of_slr hoY.row, fun hq => ?_⟩, h6⟩
      exact (own_cap hoY).2 hq
    exact ⟨_, ⟨.cons rfl (.cons rfl (.cons rfl (.cons rfl .nil))), rfl⟩, fY, hSY, hY⟩
  clear hgt ft hbV V
  rintro vt V ⟨ft, hSt, hbV⟩
  dsimp only at ft hSt hbV ⊢
  refine ⟨Option Addr × Nat, fun k => ⟨[(3, .pointer (some ⟨w.heap.size, 0, none⟩)), (4, .pointer (some ⟨w.heap.size + 1, 0, none⟩)), (7, .int .i64 ((encSy s).length : Nat)), (10, .slice k.1 (bytesL g { s with net := s.net ++ [m] }).length k.2)], []⟩, fun _ X => Below W0.heap.size W0 X, ?_, ?_⟩
  · have f0V := block_below hbV f0
    refine ⟨wv, hlw, cells_block f0V, hlt f0V, ?_⟩
    refine ⟨vt, hSt.len, cells_block ft, hlt ft, ?_⟩
    refine Calls.mono (Bytes_s hW hSt (hG.below (hwv V hbV)).bnd) ?_
    rintro e X ⟨p, cap, rfl, ho, hbX⟩
    exact ⟨(p, cap), ⟨.cons rfl (.cons rfl (.cons rfl (.cons rfl .nil))), rfl⟩, hbV.trans (hbX.mono hbV.size)⟩
  have hokm : okMem { s with net := s.net ++ [m] } := ⟨hS.okm.homes, hS.okm.cac⟩
  clear ft hSt hbV V
  rintro ⟨p, cap⟩ V hbV
  dsimp only at hbV ⊢
  obtain ⟨p1, c1, p2, c2, p3, c3, hvs, hclV⟩ := hcl V hbV
  have f0V := block_below hbV f0
  have f1V := block_below hbV f1
  have hwV := hwv V hbV
  have hL : (encSy s).length ≤ 4000 := by have := hbl s.cores.length; rw [List.take_length] at this; omega
  refine ⟨_, cells_at hclV (i := 68) (by rw [hvs]; exact sys_net hH), ?_⟩
  refine And.intro (fun h => ?_) (fun h => ?_)
  · have h : (s.net.length : Int) = 64 := of_decide_eq_true h
    refine ⟨wv, hlw, cells_block f0V, hlt f0V, ?_⟩
    refine ⟨vs, hla, cells_block f1V, hlt f1V, ?_⟩
    refine Calls.mono (Bytes_s hW ((hS.below hwV).mono hwV.size) (hG.below hwV).bnd) ?_
    rintro e X ⟨q, cq, rfl, ho, hbX⟩
    have hwX := hwv X (hbV.trans (hbX.mono hbV.size))
    rw [bytes_fit hfit]
    have hbad : bytesL g { s with net := s.net ++ [m] } = [] := by
      refine bytes_not ?_
      cases hf : fitsB g { s with net := s.net ++ [m] } with
      | false => rfl
      | true =>
        have h5 := (fits_ok hokm hf).1.net
        simp only [List.length_append, List.length_cons, List.length_nil] at h5
        omega
    rw [hbad]
    refine And.intro (fun _ => ?_) (fun h => ?_)
    · exact ⟨rfl, hwX⟩
    · have h := of_decide_eq_false h
      exact absurd rfl h
  · have h : ¬ (s.net.length : Int) = 64 := of_decide_eq_false h
    refine ⟨wv, hlw, cells_block f0V, hlt f0V, ?_⟩
    refine ⟨vs, hla, cells_block f1V, hlt f1V, ?_⟩
    refine Calls.mono (Bytes_s hW ((hS.below hwV).mono hwV.size) (hG.below hwV).bnd) ?_
    rintro e X ⟨q, cq, rfl, ho, hbX⟩
    have hwX := hwv X (hbV.trans (hbX.mono hbV.size))
    rw [bytes_fit hfit]
    have hok2 : okSy g.c.toNat { s with net := s.net ++ [m] } := ⟨hok.cores, hok.caches, hok.homes, by simp; omega, hok.cor, hok.cac⟩
    have hgood : (bytesL g { s with net := s.net ++ [m] }).length = (encSy s).length + 11 := by
      rw [bytes_fit (ok_fits hok2 hgr), sy_len hok2, hsl]
      simp only [List.length_append, List.length_cons, List.length_nil]
      omega
    rw [hgood]
    refine And.intro (fun _ => ?_) (fun h => ?_)
    · refine ⟨_, wrap_i64 (by omega), ?_⟩
      refine ⟨?_, hwX⟩
      have : decide ((((encSy s).length + 11 : Nat) : Int) = ((encSy s).length : Int) + 11) = true := by simp
      exact congrArg (fun b => Ending.returned (.bool b)) this
    · have h := of_decide_eq_false h
      exact absurd rfl h
end Go.Proofs.YtmfplkeenombbaaDoor
