/- Law22: Fits. Contracts: swapRange and rotate of the stable sort, at messages. Plain: a stable merge by rotations (as slices.symMerge does it). Contracts: insertionSort of the stable sort, at messages. Contracts: symMerge of the stable sort, at messages: one element on the left. Contracts: symMerge of the stable sort, at messages: one element on the right. Contracts: symMerge of the stable sort, at messages: more than one element on either side. Contracts: the stable sort of messages (stableCmpFunc, SortStableFunc). cmp.Compare, slices.Compare at bytes. Contracts: msg.Less. Contracts: known, Class, queue. Plain: the order of byte strings, and the order of messages by a key. The engine, part K: a quick check of a tree of orders: an operation that stands apart from all that is left is taken first. Contracts: the comparison of a sort of messages (Sort$1). Plain: the messages that may be delivered next. Plain: what the law NetNext rests upon. Plain: the canonical order of messages, and when two lists have the same one. A slice of messages of the call's own, from a lower bound on. Contracts: Sort, Same, Count at messages. Law22: Bytes, Key, Same. -/
import Derived.Test.YtedeohcdcaimhaaGreatDoorZ2
import Derived.Test.YtedeohcdcaimhaaGreatDoorZ1
import Derived.Test.YtedeohcdcaimhaaGreatDoorZKSig
set_option linter.unusedSimpArgs false
namespace Go.Proofs.YtedeohcdcaimhaaGreatDoor
open Go.Vc Go.RowKit Go.Sei

def fit4 (g : Geo) (s : Sy) : Bool := geoR g && decide ((s.cores.length : Int) = g.c) && decide ((s.caches.length : Int) = g.c) && decide (s.net.length ≤ 64)
def bufB (c : Cor) : Bool := decide (c.buf.length ≤ 255)
def nteB (n : Nte) : Bool := decide (0 ≤ n.ways) && decide (n.ways ≤ 255)
def fitsB (g : Geo) (s : Sy) : Bool := fit4 g s && (s.cores.all bufB && s.caches.all fun c => c.notes.all nteB)

theorem partE_agg {off sz : Nat} {cs : List Value} {v : Array Value} {K : Value → Prop} (h : ((cs.drop off).take sz).toArray = v) (k : K (.agg v)) : Go.Vc.partE off sz true cs K := by
  unfold Go.Vc.partE; rw [h]; exact k

theorem Fits_c {wv vs : List Value} {g : Geo} {mode : UInt8} {s : Sy} {w : World} (hW : WorV wv g.enc mode) (hS : SysV w.heap.size w vs s) (hB : BndM w) :
    Calls Tryz.prog 14 #[.agg wv.toArray, .agg vs.toArray] w fun e w' => e = .returned (.bool (fitsB g s)) ∧ Below w.heap.size w w' := by
  refine calls_of_M (S := sg 77) (sgOk _) (args := [.agg wv.toArray, .agg vs.toArray]) (.s .p (.s (.c .p .p) (.c .p (.c .p .p)))) Tryz.func14 rfl rfl (Nat.le_of_ble_eq_true rfl) rfl ?_
  obtain ⟨W0, hW0⟩ : ∃ W0, (w.alloc (.cells wv.toArray 44)).alloc (.cells vs.toArray 58) = W0 := ⟨_, rfl⟩
  have hb0 : Below w.heap.size w W0 := by rw [← hW0]; exact ((Below.refl _ _).alloc (Nat.le_refl _) _).alloc (by simp) _
  have f0 : W0.heap[w.heap.size]? = some (.cells wv.toArray 44 (0, 0)) := by rw [← hW0]; exact hold _ (hnew w _)
  have f1 : W0.heap[w.heap.size + 1]? = some (.cells vs.toArray 58 (0, 0)) := by
    have := hnew (w.alloc (.cells wv.toArray 44)) (.cells vs.toArray 58)
    rw [World.size_alloc] at this
    rw [← hW0]; exact this
  have es : (w.alloc (.cells wv.toArray 44)).heap.size = w.heap.size + 1 := World.size_alloc _ _
  obtain ⟨⟨p1, c1, p2, c2, p3, c3, hvs, hco, hca, hne, hnil⟩, h6⟩ := hS.below hb0
  have hH : (s.homes.flatMap homE.enc).length = 66 := by rw [flat_len, h6]; rfl
  have hcl : Cells W0 ⟨w.heap.size + 1, 0, none⟩ (.slice p1 s.cores.length c1 :: .slice p2 s.caches.length c2 :: (s.homes.flatMap homE.enc ++ [.slice p3 s.net.length c3])) := by
    have := cells_block f1; rw [← hvs]; exact this
  have hgeo : Cells W0 ⟨w.heap.size, 10, none⟩ g.enc := by
    have := cells_sub (n := 10) (m := 5) (cells_block f0)
    simp only [Nat.zero_add] at this
    rw [← hW.geo]; exact this
  refine ⟨Bool, fun b => ⟨[(2, .pointer (some ⟨w.heap.size, 0, none⟩)), (3, .pointer (some ⟨w.heap.size + 1, 0, none⟩)), (36, .bool b)], []⟩, fun b V => b = !fit4 g s ∧ Below W0.heap.size W0 V, ?_, ?_⟩
  · have hr := Right_geo_c g W0 (hB.below hb0)
    rw [← hW0] at hr hgeo hcl
    refine ⟨g.enc, rfl, hgeo, (by have := hlt f0; rw [← hW0] at this; exact this), ?_⟩
    refine Calls.mono hr ?_
    rintro e V ⟨rfl, hb⟩
    rw [hW0] at hb
    have hclV : Cells V ⟨w.heap.size + 1, 0, none⟩ (.slice p1 s.cores.length c1 :: .slice p2 s.caches.length c2 :: (s.homes.flatMap homE.enc ++ [.slice p3 s.net.length c3])) := by
      rw [hW0] at hcl; exact cells_below hb hcl
    have ptr1 : some (Value.pointer (some ⟨(w.alloc (.cells wv.toArray 44)).heap.size, 0, none⟩)) = some (Value.pointer (some ⟨w.heap.size + 1, 0, none⟩)) := by rw [es]
    have hclE : Cells V ⟨(w.alloc (.cells wv.toArray 44)).heap.size, 0, none⟩ (.slice p1 s.cores.length c1 :: .slice p2 s.caches.length c2 :: (s.homes.flatMap homE.enc ++ [.slice p3 s.net.length c3])) := by rw [es]; exact hclV
    have hgV : Cells V ⟨w.heap.size, 10, none⟩ g.enc := by
      rw [hW0] at hgeo; exact cells_below hb hgeo
    refine And.intro (fun h => ?_) (fun h => ?_)
    · have h : geoR g = false := by
        have : (!geoR g) = true := h
        simpa using this
      refine And.intro (fun _ => ?_) (fun h => by cases h)
      refine And.intro (fun _ => ?_) (fun h => by cases h)
      exact ⟨true, ⟨.cons rfl (.cons ptr1 (.cons rfl .nil)), rfl⟩, by unfold fit4; rw [h]; rfl, hb⟩
    have h : geoR g = true := by
      have : (!geoR g) = false := h
      simpa using this
    refine ⟨_, cells_at hclE (i := 0) rfl, ?_⟩
    refine ⟨_, cells_at hgV (i := 0) rfl, ?_⟩
    refine And.intro (fun h1 => ?_) (fun h1 => ?_)
    · have h1 := nt h1
      refine And.intro (fun _ => ?_) (fun h => by cases h)
      exact ⟨true, ⟨.cons rfl (.cons ptr1 (.cons rfl .nil)), rfl⟩, by unfold fit4; rw [decide_eq_false h1]; simp, hb⟩
    have h1 := nf h1
    refine ⟨_, cells_at hclE (i := 1) rfl, ?_⟩
    refine ⟨_, cells_at hgV (i := 0) rfl, ?_⟩
    refine And.intro (fun h2 => ?_) (fun h2 => ?_)
    · have h2 := nt h2
      exact ⟨true, ⟨.cons rfl (.cons ptr1 (.cons rfl .nil)), rfl⟩, by unfold fit4; rw [decide_eq_false h2]; simp, hb⟩
    have h2 := nf h2
    refine ⟨_, cells_at hclE (i := 68) (sys_net hH), ?_⟩
    refine ⟨decide (64 < (s.net.length : Int)), ⟨.cons rfl (.cons ptr1 (.cons rfl .nil)), rfl⟩, ?_, hb⟩
    unfold fit4
    rw [h, decide_eq_true h1, decide_eq_true h2]
    by_cases h3 : s.net.length ≤ 64
    · rw [decide_eq_true h3, decide_eq_false (by omega)]; rfl
    · rw [decide_eq_false h3, decide_eq_true (by omega)]; rfl
  rintro b V ⟨rfl, hbV⟩
  have hclV : ∀ X, Below W0.heap.size W0 X → Cells X ⟨w.heap.size + 1, 0, none⟩ (.slice p1 s.cores.length c1 :: .slice p2 s.caches.length c2 :: (s.homes.flatMap homE.enc ++ [.slice p3 s.net.length c3])) := fun X hX => cells_below hX hcl
  have hwX : ∀ X, Below W0.heap.size W0 X → Below w.heap.size w X := fun X hX => hb0.trans (hX.mono hb0.size)
  refine And.intro (fun h => ?_) (fun h => ?_)
  · have h : fit4 g s = false := by
      have : (!fit4 g s) = true := h
      simpa using this
    exact ⟨rb (by unfold fitsB; rw [h]; rfl), hwX _ hbV⟩
  have h : fit4 g s = true := by
    have : (!fit4 g s) = false := h
    simpa using this
  have hf4 := h
  simp only [fit4, Bool.and_eq_true, decide_eq_true_eq] at h
  obtain ⟨⟨⟨hg, hc1⟩, hc2⟩, hc3⟩ := h
  have hgc := (geoR_spec hg).1
  refine ⟨Unit, fun _ => ⟨[(2, .pointer (some ⟨w.heap.size, 0, none⟩)), (3, .pointer (some ⟨w.heap.size + 1, 0, none⟩))], []⟩, fun _ X => s.cores.all bufB = true ∧ Below W0.heap.size W0 X, ?_, ?_⟩
  · refine ⟨_, cells_at (hclV _ hbV) (i := 0) rfl, ?_⟩
    refine ⟨Nat, fun k => ⟨[(2, .pointer (some ⟨w.heap.size, 0, none⟩)), (3, .pointer (some ⟨w.heap.size + 1, 0, none⟩)), (39, .int .i64 (s.cores.length : Nat)), (40, .int .i64 (k : Nat))], []⟩,
      fun k X => k ≤ s.cores.length ∧ (∀ c ∈ s.cores.take k, bufB c = true) ∧ Below W0.heap.size W0 X, fun k => s.cores.length - k, 0, ⟨.cons rfl (.cons rfl (.cons rfl (.cons rfl .nil))), rfl⟩, ⟨Nat.zero_le _, by simp, hbV⟩, ?_⟩
    rintro k X ⟨hk, hno, hX⟩
    refine And.intro (fun hc => ?_) (fun hc => ?_)
    · have hc : (k : Int) < s.cores.length := of_decide_eq_true hc
      have hks : k < s.cores.length := by omega
      obtain ⟨b, o, hp, hat⟩ := hco
      obtain ⟨pb, cb, hbB, hcb, _⟩ := (hat k hks).below ((Below.refl _ _).trans (hX.mono (by have := hb0.size; omega)))
      rcases hp with hp | hp
      · omega
      subst hp
      refine ⟨_, cells_at (hclV _ hX) (i := 0) rfl, ?_⟩
      refine ⟨k, rfl, hks, ?_⟩
      refine ⟨_, cells_at hcb (i := 9) rfl, ?_⟩
      refine And.intro (fun h5 => ?_) (fun h5 => ?_)
      · have h5 : (255 : Int) < s.cores[k].buf.length := of_decide_eq_true h5
        have hf : s.cores.all bufB = false := by
          rw [List.all_eq_false]
          exact ⟨s.cores[k], List.getElem_mem _, by unfold bufB; simp; omega⟩
        exact ⟨rb (by unfold fitsB; rw [hf]; simp), hwX _ hX⟩
      · have h5 : ¬ (255 : Int) < s.cores[k].buf.length := of_decide_eq_false h5
        refine ⟨(k + 1 : Nat), (wrap_i64 (by omega)).trans (by omega), ?_⟩
        refine ⟨k + 1, ⟨.cons rfl (.cons rfl (.cons rfl (.cons rfl .nil))), rfl⟩, ⟨hks, ?_, hX⟩, by dsimp only; omega⟩
        rw [List.take_succ_eq_append_getElem hks]
        intro c hc
        rcases List.mem_append.1 hc with hc | hc
        · exact hno c hc
        · simp only [List.mem_singleton] at hc
          subst hc
          unfold bufB; simp; omega
    · have hc : ¬ (k : Int) < s.cores.length := of_decide_eq_false hc
      have hkl : k = s.cores.length := by omega
      subst hkl
      rw [List.take_length] at hno
      exact ⟨(), ⟨.cons rfl (.cons rfl .nil), rfl⟩, List.all_eq_true.2 hno, hX⟩
  rintro _ V2 ⟨hbuf, hV2⟩
  refine ⟨Unit, fun _ => ⟨[(2, .pointer (some ⟨w.heap.size, 0, none⟩)), (3, .pointer (some ⟨w.heap.size + 1, 0, none⟩))], []⟩, fun _ X => (s.caches.all fun c => c.notes.all nteB) = true ∧ Below W0.heap.size W0 X, ?_, ?_⟩
  · refine ⟨_, cells_at (hclV _ hV2) (i := 1) rfl, ?_⟩
    refine ⟨Nat, fun k => ⟨[(2, .pointer (some ⟨w.heap.size, 0, none⟩)), (3, .pointer (some ⟨w.heap.size + 1, 0, none⟩)), (54, .int .i64 (s.caches.length : Nat)), (55, .int .i64 (k : Nat))], []⟩,
      fun k X => k ≤ s.caches.length ∧ (∀ c ∈ s.caches.take k, c.notes.all nteB = true) ∧ Below W0.heap.size W0 X, fun k => s.caches.length - k, 0, ⟨.cons rfl (.cons rfl (.cons rfl (.cons rfl .nil))), rfl⟩, ⟨Nat.zero_le _, by simp, hV2⟩, ?_⟩
    rintro k X ⟨hk, hno, hX⟩
    refine And.intro (fun hc => ?_) (fun hc => ?_)
    · have hc : (k : Int) < s.caches.length := of_decide_eq_true hc
      have hks : k < s.caches.length := by omega
      obtain ⟨b, o, hp, hat⟩ := hca
      obtain ⟨hbB, hcb, hw16, hn4⟩ := (hat k hks).below ((Below.refl _ _).trans (hX.mono (by have := hb0.size; omega)))
      rcases hp with hp | hp
      · omega
      subst hp
      have hnt : Cells X ⟨b, o + k * 160 + 128, none⟩ (s.caches[k].notes.flatMap nteE.enc) := by
        have h1 := (cells_app.1 hcb).2
        rw [flat_len (E := linE), hw16] at h1
        exact (cells_app.1 h1).1
      have hnl : (s.caches[k].notes.flatMap nteE.enc).length = 28 := by rw [flat_len, hn4]; rfl
      refine ⟨_, cells_at (hclV _ hX) (i := 1) rfl, ?_⟩
      refine ⟨k, rfl, hks, ?_⟩
      refine ⟨_, hnl, hnt, by have := (hwX _ hX).size; show b < _; omega, ?_⟩
      refine ⟨Nat, fun j => ⟨[(2, .pointer (some ⟨w.heap.size, 0, none⟩)), (3, .pointer (some ⟨w.heap.size + 1, 0, none⟩)), (54, .int .i64 (s.caches.length : Nat)), (55, .int .i64 (k : Nat)), (63, .agg (s.caches[k].notes.flatMap nteE.enc).toArray), (64, .int .i64 (j : Nat))], []⟩,
        fun j X => j ≤ 4 ∧ (∀ n ∈ s.caches[k].notes.take j, nteB n = true) ∧ Below W0.heap.size W0 X, fun j => 4 - j, 0, ⟨.cons rfl (.cons rfl (.cons rfl (.cons rfl (.cons rfl (.cons rfl .nil))))), rfl⟩, ⟨Nat.zero_le _, by simp, hX⟩, ?_⟩
      rintro j Y ⟨hj, hnj, hY⟩
      refine And.intro (fun hc => ?_) (fun hc => ?_)
      · have hc : (j : Int) < 4 := of_decide_eq_true hc
        have hj4 : j < s.caches[k].notes.length := by omega
        refine ⟨j, rfl, by omega, ?_⟩
        refine partE_agg (v := (nteE.enc s.caches[k].notes[j]).toArray) (by rw [← flat_get (E := nteE) _ j hj4]; rfl) ?_
        refine store_new (X := Y) (v := .agg (nteE.enc s.caches[k].notes[j]).toArray) (ttOk.get 92 _ rfl) (by rfl) rfl (by rfl) fun Z hbZ fZ sZ => ?_
        have hZ : Below W0.heap.size W0 Z := hY.trans (hbZ.mono hY.size)
        refine ⟨_, cells_at (cells_block fZ) (i := 1) rfl, ?_⟩
        have bad : nteB s.caches[k].notes[j] = false → fitsB g s = false := fun hb => by
          have hf : (s.caches.all fun c => c.notes.all nteB) = false := by
            rw [List.all_eq_false]
            refine ⟨s.caches[k], List.getElem_mem _, ?_⟩
            rw [Bool.not_eq_true, List.all_eq_false]
            exact ⟨_, List.getElem_mem hj4, by rw [hb]; simp⟩
          unfold fitsB; rw [hf]; simp
        refine And.intro (fun h5 => ?_) (fun h5 => ?_)
        · have h5 : s.caches[k].notes[j].ways < 0 := of_decide_eq_true h5
          refine And.intro (fun _ => ?_) (fun h => by cases h)
          exact ⟨rb (bad (by unfold nteB; rw [decide_eq_false (by omega)]; rfl)).symm, hwX _ hZ⟩
        have h5 : ¬ s.caches[k].notes[j].ways < 0 := of_decide_eq_false h5
        refine ⟨_, cells_at (cells_block fZ) (i := 1) rfl, ?_⟩
        refine And.intro (fun h6 => ?_) (fun h6 => ?_)
        · have h6 : (255 : Int) < s.caches[k].notes[j].ways := of_decide_eq_true h6
          exact ⟨rb (bad (by unfold nteB; rw [decide_eq_false (p := s.caches[k].notes[j].ways ≤ 255) (by omega)]; simp)).symm, hwX _ hZ⟩
        have h6 : ¬ (255 : Int) < s.caches[k].notes[j].ways := of_decide_eq_false h6
        refine ⟨(j + 1 : Nat), (wrap_i64 (by omega)).trans (by omega), ?_⟩
        refine ⟨j + 1, ⟨.cons rfl (.cons rfl (.cons rfl (.cons rfl (.cons rfl (.cons rfl .nil))))), rfl⟩, ⟨by omega, ?_, hZ⟩, by dsimp only; omega⟩
        rw [List.take_succ_eq_append_getElem hj4]
        intro c hc
        rcases List.mem_append.1 hc with hc | hc
        · exact hnj c hc
        · simp only [List.mem_singleton] at hc
          subst hc
          unfold nteB; rw [decide_eq_true (by omega), decide_eq_true (by omega)]; rfl
      · have hc : ¬ (j : Int) < 4 := of_decide_eq_false hc
        rw [List.take_of_length_le (by omega)] at hnj
        refine ⟨(k + 1 : Nat), (wrap_i64 (by omega)).trans (by omega), ?_⟩
        refine ⟨k + 1, ⟨.cons rfl (.cons rfl (.cons rfl (.cons rfl .nil))), rfl⟩, ⟨hks, ?_, hY⟩, by dsimp only; omega⟩
        rw [List.take_succ_eq_append_getElem hks]
        intro c hc
        rcases List.mem_append.1 hc with hc | hc
        · exact hno c hc
        · simp only [List.mem_singleton] at hc
          subst hc
          exact List.all_eq_true.2 hnj
    · have hc : ¬ (k : Int) < s.caches.length := of_decide_eq_false hc
      have hkl : k = s.caches.length := by omega
      subst hkl
      rw [List.take_length] at hno
      exact ⟨(), ⟨.cons rfl (.cons rfl .nil), rfl⟩, List.all_eq_true.2 hno, hX⟩
  rintro _ V3 ⟨hnt, hV3⟩
  exact ⟨rb (by unfold fitsB; rw [hf4, hbuf, hnt]; rfl), hwX _ hV3⟩
end Go.Proofs.YtedeohcdcaimhaaGreatDoor
namespace Go.Proofs.YtedeohcdcaimhaaGreatDoor
open Go.Vc Go.RowKit Go.Sei

abbrev RowM (w : World) (g : Nat) (sp : List Value) (l : List Msg) : Prop := RowS Msg.E 107 w g sp l

theorem swap_c (g cap a b n L : Nat) (sp : List Value) (P X M Y Q : List Msg) (cmp : Value) (w : World) (hr : RowM w g sp (P ++ X ++ M ++ Y ++ Q)) (hX : X.length = n) (hY : Y.length = n)
    (ha : P.length = a) (hb : b = P.length + X.length + M.length) (hL : L = (P ++ X ++ M ++ Y ++ Q).length) (hl : L ≤ 1000000000) :
    Calls Tryz.prog 114 #[.slice (some ⟨g, 0, none⟩) L cap, .int .i64 a, .int .i64 b, .int .i64 n, cmp] w
      fun e w' => (∃ v, e = .returned v) ∧ RowM w' g sp (P ++ Y ++ M ++ X ++ Q) ∧ w.grownBy w' (some g) := by
  subst ha
  have hL2 : L = b + n + Q.length := by rw [hL, hb]; simp; omega
  refine calls_of_E (S := sg 38) (sgOk _) (args := [.slice (some ⟨g, 0, none⟩) L cap, .int .i64 P.length, .int .i64 b, .int .i64 n, cmp]) Tryz.func114 rfl rfl (Nat.le_of_ble_eq_true rfl) rfl ?_
  refine ⟨Nat, fun k => ⟨[(0, .slice (some ⟨g, 0, none⟩) L cap), (1, .int .i64 P.length), (2, .int .i64 b), (3, .int .i64 n), (10, .int .i64 (k : Nat))], []⟩,
    fun k W => k ≤ n ∧ RowM W g sp (P ++ Y.take k ++ X.drop k ++ M ++ X.take k ++ Y.drop k ++ Q) ∧ w.grownBy W (some g), fun k => n - k, 0,
    ⟨.cons rfl (.cons rfl (.cons rfl (.cons rfl (.cons rfl .nil)))), rfl⟩, ⟨Nat.zero_le _, by simpa using hr, grown_refl _ _⟩, ?_⟩
  rintro k W ⟨hk, hrW, hgW⟩
  refine And.intro (fun h => ?_) (fun h => ?_)
  · have h := of_decide_eq_true h
    have hkn : k < n := by omega
    have hx : X.drop k = X[k] :: X.drop (k + 1) := List.drop_eq_getElem_cons (by omega)
    have hy : Y.drop k = Y[k] :: Y.drop (k + 1) := List.drop_eq_getElem_cons (by omega)
    have e0 : P ++ Y.take k ++ X.drop k ++ M ++ X.take k ++ Y.drop k ++ Q = (P ++ Y.take k) ++ X[k] :: (X.drop (k + 1) ++ M ++ X.take k ++ Y[k] :: (Y.drop (k + 1) ++ Q)) := by rw [hx, hy]; simp only [List.append_assoc, List.cons_append]
    have hA : (P ++ Y.take k).length = P.length + k := by simp; omega
    have hB : ∀ z : Msg, ((P ++ Y.take k) ++ z :: (X.drop (k + 1) ++ M ++ X.take k)).length = b + k := fun z => by simp [hb]; omega
    have r0 : RowM W.drew g sp ((P ++ Y.take k) ++ X[k] :: (X.drop (k + 1) ++ M ++ X.take k ++ Y[k] :: (Y.drop (k + 1) ++ Q))) := e0 ▸ hrW
    have r1 : RowM W.drew g sp (((P ++ Y.take k) ++ X[k] :: (X.drop (k + 1) ++ M ++ X.take k)) ++ Y[k] :: (Y.drop (k + 1) ++ Q)) := by
      have : ((P ++ Y.take k) ++ X[k] :: (X.drop (k + 1) ++ M ++ X.take k)) ++ Y[k] :: (Y.drop (k + 1) ++ Q) = (P ++ Y.take k) ++ X[k] :: (X.drop (k + 1) ++ M ++ X.take k ++ Y[k] :: (Y.drop (k + 1) ++ Q)) := by simp
      rw [this]; exact r0
    have hgl := r0.lt
    refine DrawE.ord [21, 23] [0, 1, 2, 3, 4, 5, 6, 7, 8, 9, 10, 11, 12, 13, 14, 15, 16, 17, 18, 19, 20, 21, 22, 23] (by kernel_rfl) ?_
    refine ⟨(P.length + k : Nat), (wrap_i64 (by omega)).trans (by omega), ?_⟩
    refine ⟨(b + k : Nat), (wrap_i64 (by omega)).trans (by omega), ?_⟩
    refine ⟨(b + k : Nat), (wrap_i64 (by omega)).trans (by omega), ?_⟩
    refine ⟨b + k, rfl, by omega, ?_⟩
    refine ⟨Y[k].enc, rfl, r1.mid (hB _), hgl, ?_⟩
    refine ⟨(P.length + k : Nat), (wrap_i64 (by omega)).trans (by omega), ?_⟩
    refine ⟨P.length + k, rfl, by omega, ?_⟩
    refine ⟨X[k].enc, rfl, r0.mid hA, hgl, ?_⟩
    refine ⟨P.length + k, rfl, by omega, ?_⟩
    refine store_mid (ttOk.get 107 _ rfl) rfl r0 hA Y[k] fun V1 s1 g1 z1 => ?_
    refine ⟨b + k, rfl, by omega, ?_⟩
    have s2 : RowM V1 g sp (((P ++ Y.take k) ++ Y[k] :: (X.drop (k + 1) ++ M ++ X.take k)) ++ Y[k] :: (Y.drop (k + 1) ++ Q)) := by
      have : ((P ++ Y.take k) ++ Y[k] :: (X.drop (k + 1) ++ M ++ X.take k)) ++ Y[k] :: (Y.drop (k + 1) ++ Q) = (P ++ Y.take k) ++ Y[k] :: (X.drop (k + 1) ++ M ++ X.take k ++ Y[k] :: (Y.drop (k + 1) ++ Q)) := by simp
      rw [this]; exact s1
    refine store_mid (ttOk.get 107 _ rfl) rfl s2 (hB _) X[k] fun V2 s3 g2 z2 => ?_
    refine ⟨(k + 1 : Nat), (wrap_i64 (by omega)).trans (by omega), ?_⟩
    refine ⟨k + 1, ⟨.cons rfl (.cons rfl (.cons rfl (.cons rfl (.cons rfl .nil)))), rfl⟩, ⟨hkn, ?_, grown_trans hgW (grown_trans (grown_of_below (Below.refl _ W).drew) (grown_trans g1 g2))⟩, by dsimp only; omega⟩
    have : P ++ Y.take (k + 1) ++ X.drop (k + 1) ++ M ++ X.take (k + 1) ++ Y.drop (k + 1) ++ Q = ((P ++ Y.take k) ++ Y[k] :: (X.drop (k + 1) ++ M ++ X.take k)) ++ X[k] :: (Y.drop (k + 1) ++ Q) := by
      rw [List.take_succ_eq_append_getElem (by omega), List.take_succ_eq_append_getElem (by omega)]; simp only [List.append_assoc, List.cons_append, List.nil_append]
    rw [this]; exact s3
  · have h := of_decide_eq_false h
    have hkn : k = n := by omega
    subst hkn
    refine And.intro ⟨_, rfl⟩ (And.intro ?_ hgW)
    rw [List.take_of_length_le (by omega), List.take_of_length_le (by omega), List.drop_of_length_le (by omega), List.drop_of_length_le (by omega)] at hrW
    simpa using hrW

theorem rotate_c (g cap a m b L : Nat) (sp : List Value) (A X Y B : List Msg) (cmp : Value) (w : World) (hr : RowM w g sp (A ++ X ++ Y ++ B)) (hX : X ≠ []) (hY : Y ≠ [])
    (ha : A.length = a) (hm : A.length + X.length = m) (hb : A.length + X.length + Y.length = b) (hL : L = (A ++ X ++ Y ++ B).length) (hl : L ≤ 1000000000) :
    Calls Tryz.prog 113 #[.slice (some ⟨g, 0, none⟩) L cap, .int .i64 a, .int .i64 m, .int .i64 b, cmp] w
      fun e w' => (∃ v, e = .returned v) ∧ RowM w' g sp (A ++ Y ++ X ++ B) ∧ w.grownBy w' (some g) := by
  have hX0 : 0 < X.length := List.length_pos_iff.2 hX
  have hY0 : 0 < Y.length := List.length_pos_iff.2 hY
  have hL2 : L = A.length + X.length + Y.length + B.length := by rw [hL]; simp; omega
  refine calls_of_E (S := sg 58) (sgOk _) (args := [.slice (some ⟨g, 0, none⟩) L cap, .int .i64 a, .int .i64 m, .int .i64 b, cmp]) Tryz.func113 rfl rfl (Nat.le_of_ble_eq_true rfl) rfl ?_
  refine ⟨(X.length : Nat), (wrap_i64 (by first | omega | (dsimp only; omega))).trans (by first | omega | (dsimp only; omega)), ?_⟩
  refine ⟨(Y.length : Nat), (wrap_i64 (by first | omega | (dsimp only; omega))).trans (by first | omega | (dsimp only; omega)), ?_⟩
  refine ⟨List Msg × List Msg × List Msg × List Msg, fun s => ⟨[(0, .slice (some ⟨g, 0, none⟩) L cap), (1, .int .i64 a), (2, .int .i64 m), (3, .int .i64 b), (4, cmp), (10, .int .i64 s.2.1.length), (11, .int .i64 s.2.2.1.length)], []⟩,
    fun s W => RowM W g sp (s.1 ++ s.2.1 ++ s.2.2.1 ++ s.2.2.2) ∧ s.1.length + s.2.1.length = m ∧ s.2.1 ≠ [] ∧ s.2.2.1 ≠ [] ∧ s.1 ++ s.2.2.1 ++ s.2.1 ++ s.2.2.2 = A ++ Y ++ X ++ B ∧ w.grownBy W (some g),
    fun s => s.2.1.length + s.2.2.1.length, (A, X, Y, B), ⟨.cons rfl (.cons rfl (.cons rfl (.cons rfl (.cons rfl (.cons rfl (.cons rfl .nil)))))), rfl⟩, ⟨hr, hm, hX, hY, rfl, grown_refl _ _⟩, ?_⟩
  rintro ⟨P, X', Y', Q⟩ W ⟨hrW, hmW, hX', hY', ht, hgW⟩
  dsimp only at hrW hmW hX' hY' ht
  have hX1 : 0 < X'.length := List.length_pos_iff.2 hX'
  have hY1 : 0 < Y'.length := List.length_pos_iff.2 hY'
  have htl : P.length + Y'.length + X'.length + Q.length = L := by
    have := congrArg List.length ht
    simp at this; omega
  refine And.intro (fun h => ?_) (fun h => ?_)
  · have h : ¬ (X'.length : Int) = Y'.length := by simpa using h
    refine And.intro (fun h2 => ?_) (fun h2 => ?_)
    · have h2 : (Y'.length : Int) < X'.length := of_decide_eq_true h2
      have e : X' = X'.take Y'.length ++ X'.drop Y'.length := (List.take_append_drop _ _).symm
      have hl1 : (X'.take Y'.length).length = Y'.length := by rw [List.length_take]; omega
      have hl2 : (X'.drop Y'.length).length = X'.length - Y'.length := by simp
      obtain ⟨X1, hX1e⟩ : ∃ X1, X1 = X'.take Y'.length := ⟨_, rfl⟩
      obtain ⟨X2, hX2e⟩ : ∃ X2, X2 = X'.drop Y'.length := ⟨_, rfl⟩
      rw [← hX1e, ← hX2e] at e
      rw [← hX1e] at hl1
      rw [← hX2e] at hl2
      refine ⟨(P.length : Nat), (wrap_i64 (by first | omega | (dsimp only; omega))).trans (by first | omega | (dsimp only; omega)), ?_⟩
      refine Calls.mono (swap_c g cap P.length m Y'.length L sp P X1 X2 Y' Q cmp W (by rw [e] at hrW; simpa using hrW) hl1 rfl rfl (by omega) (by simp; omega) hl) ?_
      rintro e2 V ⟨⟨v, rfl⟩, hrV, hgV⟩
      refine ⟨(X2.length : Nat), (wrap_i64 (by first | omega | (dsimp only; omega))).trans (by first | omega | (dsimp only; omega)), ?_⟩
      refine ⟨(P ++ Y', X2, X1, Q), ⟨.cons rfl (.cons rfl (.cons rfl (.cons rfl (.cons rfl (.cons rfl (.cons (by rw [hl1]; rfl) .nil)))))), rfl⟩, ⟨by simpa using hrV, by simp; omega, ?_, ?_, ?_, grown_trans hgW hgV⟩, by dsimp only; omega⟩
      · exact List.ne_nil_of_length_pos (by dsimp only; omega)
      · exact List.ne_nil_of_length_pos (by dsimp only; omega)
      · rw [← ht, e]; simp
    · have h2 : ¬ (Y'.length : Int) < X'.length := of_decide_eq_false h2
      have e : Y' = Y'.take (Y'.length - X'.length) ++ Y'.drop (Y'.length - X'.length) := (List.take_append_drop _ _).symm
      have hl1 : (Y'.take (Y'.length - X'.length)).length = Y'.length - X'.length := by rw [List.length_take]; omega
      have hl2 : (Y'.drop (Y'.length - X'.length)).length = X'.length := by simp; omega
      obtain ⟨Y1, hY1e⟩ : ∃ Y1, Y1 = Y'.take (Y'.length - X'.length) := ⟨_, rfl⟩
      obtain ⟨Y2, hY2e⟩ : ∃ Y2, Y2 = Y'.drop (Y'.length - X'.length) := ⟨_, rfl⟩
      rw [← hY1e, ← hY2e] at e
      rw [← hY1e] at hl1
      rw [← hY2e] at hl2
      refine ⟨(P.length : Nat), (wrap_i64 (by first | omega | (dsimp only; omega))).trans (by first | omega | (dsimp only; omega)), ?_⟩
      refine ⟨(m + Y'.length : Nat), (wrap_i64 (by first | omega | (dsimp only; omega))).trans (by first | omega | (dsimp only; omega)), ?_⟩
      refine ⟨(m + Y'.length - X'.length : Nat), (wrap_i64 (by first | omega | (dsimp only; omega))).trans (by first | omega | (dsimp only; omega)), ?_⟩
      refine Calls.mono (swap_c g cap P.length (m + Y'.length - X'.length) X'.length L sp P X' Y1 Y2 Q cmp W (by rw [e] at hrW; simpa using hrW) rfl hl2 rfl (by omega) (by simp; omega) hl) ?_
      rintro e2 V ⟨⟨v, rfl⟩, hrV, hgV⟩
      refine ⟨(Y1.length : Nat), (wrap_i64 (by first | omega | (dsimp only; omega))).trans (by first | omega | (dsimp only; omega)), ?_⟩
      refine ⟨(P, Y2, Y1, X' ++ Q), ⟨.cons rfl (.cons rfl (.cons rfl (.cons rfl (.cons rfl (.cons (by rw [hl2]; rfl) (.cons rfl .nil)))))), rfl⟩, ⟨by simpa using hrV, by dsimp only; omega, ?_, ?_, ?_, grown_trans hgW hgV⟩, by dsimp only; omega⟩
      · exact List.ne_nil_of_length_pos (by dsimp only; omega)
      · exact List.ne_nil_of_length_pos (by dsimp only; omega)
      · rw [← ht, e]; simp
  · have h : (X'.length : Int) = Y'.length := by simpa using h
    refine ⟨(P.length : Nat), (wrap_i64 (by first | omega | (dsimp only; omega))).trans (by first | omega | (dsimp only; omega)), ?_⟩
    refine Calls.mono (swap_c g cap P.length m X'.length L sp P X' [] Y' Q cmp W (by simpa using hrW) rfl (by omega) rfl (by simp; omega) (by simp; omega) hl) ?_
    rintro e2 V ⟨⟨v, rfl⟩, hrV, hgV⟩
    refine And.intro ⟨_, rfl⟩ (And.intro ?_ (grown_trans hgW hgV))
    rw [← ht]; simpa using hrV
end Go.Proofs.YtedeohcdcaimhaaGreatDoor
namespace Go.Sei

/-- Elements with their places: the order under which a stable sort is a sort. -/
structure MOrd (α : Type) where
  lt : α → α → Bool
  irr : ∀ a, lt a a = false
  trans : ∀ a b c, lt a b = true → lt b c = true → lt a c = true
  neg : ∀ a b c, lt a b = false → lt b c = false → lt a c = false

abbrev Tg (α : Type) := α × Nat
def lt2 {α : Type} (O : MOrd α) (x y : Tg α) : Prop := O.lt x.1 y.1 = true ∨ (O.lt y.1 x.1 = false ∧ x.2 < y.2)
def Srt {α : Type} (O : MOrd α) (l : List (Tg α)) : Prop := l.Pairwise (lt2 O)

section
variable {α : Type} {O : MOrd α}
theorem MOrd.asymm (O : MOrd α) {a b : α} (h : O.lt a b = true) : O.lt b a = false := by
  cases hb : O.lt b a with
  | false => rfl
  | true => have := O.trans a b a h hb; rw [O.irr] at this; cases this
theorem lt2_irr {x : Tg α} : ¬ lt2 O x x := by
  rintro (h | ⟨_, h⟩)
  · rw [O.irr] at h; cases h
  · omega
theorem lt2_trans {x y z : Tg α} (h1 : lt2 O x y) (h2 : lt2 O y z) : lt2 O x z := by
  rcases h1 with h1 | ⟨h1, h1'⟩
  · rcases h2 with h2 | ⟨h2, h2'⟩
    · exact .inl (O.trans _ _ _ h1 h2)
    · left
      cases h : O.lt x.1 z.1 with
      | true => rfl
      | false =>
        have := O.neg _ _ _ h h2
        rw [this] at h1; cases h1
  · rcases h2 with h2 | ⟨h2, h2'⟩
    · left
      cases h : O.lt x.1 z.1 with
      | true => rfl
      | false =>
        have := O.neg _ _ _ h1 h
        rw [this] at h2; cases h2
    · exact .inr ⟨O.neg _ _ _ h2 h1, by omega⟩
theorem lt2_asymm {x y : Tg α} (h1 : lt2 O x y) (h2 : lt2 O y x) : False := lt2_irr (lt2_trans h1 h2)
theorem lt2_total {x y : Tg α} (h : x.2 ≠ y.2) : lt2 O x y ∨ lt2 O y x := by
  cases h1 : O.lt x.1 y.1 with
  | true => exact .inl (.inl h1)
  | false =>
    cases h2 : O.lt y.1 x.1 with
    | true => exact .inr (.inl h2)
    | false =>
      rcases Nat.lt_or_gt_of_ne h with h3 | h3
      · exact .inl (.inr ⟨h2, h3⟩)
      · exact .inr (.inr ⟨h1, h3⟩)

/-- A sorted permutation is unique. -/
theorem srt_unique : ∀ {l1 l2 : List (Tg α)}, Srt O l1 → Srt O l2 → l1.Perm l2 → l1 = l2
  | [], l2, _, _, hp => by simpa using hp.symm
  | a :: r, [], _, _, hp => by simp at hp
  | a :: r, b :: s, h1, h2, hp => by
    have h1' := List.pairwise_cons.1 h1
    have h2' := List.pairwise_cons.1 h2
    have hab : a = b := by
      have ha : a ∈ b :: s := hp.mem_iff.1 List.mem_cons_self
      have hb : b ∈ a :: r := hp.mem_iff.2 List.mem_cons_self
      rcases List.mem_cons.1 ha with e | ha
      · exact e
      · rcases List.mem_cons.1 hb with e | hb
        · exact e.symm
        · exact (lt2_asymm (h1'.1 b hb) (h2'.1 a ha)).elim
    subst hab
    rw [srt_unique h1'.2 h2'.2 ((List.perm_cons a).1 hp)]

theorem ends_lt {X Y : List (Tg α)} (hX : Srt O X) (hY : Srt O Y) (h : ∀ z u, X.getLast? = some z → Y.head? = some u → lt2 O z u) : ∀ x ∈ X, ∀ y ∈ Y, lt2 O x y := by
  intro x hx y hy
  rcases List.eq_nil_or_concat X with e | ⟨X', z, e⟩
  · subst e; cases hx
  · rw [List.concat_eq_append] at e
    subst e
    cases Y with
    | nil => cases hy
    | cons u r =>
      have h0 := h z u (by simp) rfl
      have h1 : x = z ∨ lt2 O x z := by
        rcases List.mem_append.1 hx with hx | hx
        · exact .inr ((List.pairwise_append.1 hX).2.2 x hx z (by simp))
        · exact .inl (by simpa using hx)
      have h2 : lt2 O x u := by
        rcases h1 with rfl | h1
        · exact h0
        · exact lt2_trans h1 h0
      rcases List.mem_cons.1 hy with rfl | hy
      · exact h2
      · exact lt2_trans h2 ((List.pairwise_cons.1 hY).1 y hy)

/-- The two halves of a merge, each merged. -/
theorem mrg_combine {L1 L2 R1 R2 S1 S2 : List (Tg α)} (hL : Srt O (L1 ++ L2)) (hR : Srt O (R1 ++ R2)) (h12 : ∀ x ∈ L1, ∀ y ∈ R2, lt2 O x y) (h21 : ∀ y ∈ R1, ∀ x ∈ L2, lt2 O y x)
    (s1 : Srt O S1) (p1 : S1.Perm (L1 ++ R1)) (s2 : Srt O S2) (p2 : S2.Perm (L2 ++ R2)) : Srt O (S1 ++ S2) ∧ (S1 ++ S2).Perm (L1 ++ L2 ++ (R1 ++ R2)) := by
  refine ⟨List.pairwise_append.2 ⟨s1, s2, fun x hx y hy => ?_⟩, ?_⟩
  · rcases List.mem_append.1 (p1.mem_iff.1 hx) with hx | hx <;> rcases List.mem_append.1 (p2.mem_iff.1 hy) with hy | hy
    · exact (List.pairwise_append.1 hL).2.2 x hx y hy
    · exact h12 x hx y hy
    · exact h21 x hx y hy
    · exact (List.pairwise_append.1 hR).2.2 x hx y hy
  · refine (p1.append p2).trans ?_
    rw [List.append_assoc, List.append_assoc]
    refine List.Perm.append_left L1 ?_
    rw [← List.append_assoc, ← List.append_assoc]
    exact List.Perm.append_right R2 List.perm_append_comm

/-- Between a left element and a right one the comparison tells all. -/
theorem cross_lt {x y : Tg α} (h : x.2 < y.2) : (O.lt y.1 x.1 = true → lt2 O y x) ∧ (O.lt y.1 x.1 = false → lt2 O x y) :=
  ⟨fun h1 => .inl h1, fun h1 => .inr ⟨h1, h⟩⟩
end
end Go.Sei
namespace Go.Proofs.YtedeohcdcaimhaaGreatDoor
open Go.Vc Go.RowKit Go.Sei

abbrev fsts (l : List (Tg Msg)) : List Msg := l.map Prod.fst

/-- What a sort asks of its comparison. -/
structure CmpOk (cap : Array Value) (O : MOrd Msg) (g : Nat) (Good : World → Prop) : Prop where
  run : ∀ X, Good X → ∀ m n : Msg, Calls Tryz.prog 85 ([m.val, n.val] ++ cap.toList).toArray X fun e w' => ∃ v : Int, e = .returned (.int .i64 v) ∧ decide (v < 0) = O.lt m n ∧ Below X.heap.size X w'
  keep : ∀ A B, Good A → A.grownBy B (some g) → Good B

theorem insertion_c (cp : Array Value) (O : MOrd Msg) (Good : World → Prop) (g cap a b L : Nat) (sp : List Value) (A B : List Msg) (xs : List (Tg Msg)) (w : World) (hG : Good w) (hC : CmpOk cp O g Good)
    (hr : RowM w g sp (A ++ fsts xs ++ B)) (ht : xs.Pairwise (fun x y => x.2 < y.2)) (ha : A.length = a) (hb : A.length + xs.length = b) (hL : L = (A ++ fsts xs ++ B).length) (hl : L ≤ 1000000000) :
    Calls Tryz.prog 110 #[.slice (some ⟨g, 0, none⟩) L cap, .int .i64 a, .int .i64 b, .func (.func 85) #[] cp] w
      fun e w' => (∃ v, e = .returned v) ∧ (∃ ys, Srt O ys ∧ ys.Perm xs ∧ RowM w' g sp (A ++ fsts ys ++ B)) ∧ w.grownBy w' (some g) := by
  have hL2 : L = A.length + xs.length + B.length := by rw [hL]; simp; omega
  refine calls_of_E (S := sg 53) (sgOk _) (args := [.slice (some ⟨g, 0, none⟩) L cap, .int .i64 a, .int .i64 b, .func (.func 85) #[] cp]) Tryz.func110 rfl rfl (Nat.le_of_ble_eq_true rfl) rfl ?_
  refine ⟨(a + 1 : Nat), (wrap_i64 (by omega)).trans (by omega), ?_⟩
  refine ⟨Nat × List (Tg Msg), fun s => ⟨[(0, .slice (some ⟨g, 0, none⟩) L cap), (1, .int .i64 a), (2, .int .i64 b), (3, .func (.func 85) #[] cp), (8, .int .i64 (a + s.1 : Nat))], []⟩,
    fun s W => 1 ≤ s.1 ∧ Srt O s.2 ∧ s.2.Perm (xs.take s.1) ∧ RowM W g sp (A ++ fsts s.2 ++ fsts (xs.drop s.1) ++ B) ∧ w.grownBy W (some g), fun s => xs.length - s.1, (1, xs.take 1),
    ⟨.cons rfl (.cons rfl (.cons rfl (.cons rfl (.cons rfl .nil)))), rfl⟩, ⟨Nat.le_refl _, ?_, .refl _, ?_, grown_refl _ _⟩, ?_⟩
  · cases xs with
    | nil => simp [Srt]
    | cons x r => simp [Srt]
  · have : A ++ fsts (xs.take 1) ++ fsts (xs.drop 1) ++ B = A ++ fsts xs ++ B := by
      rw [List.append_assoc A, ← List.map_append, List.take_append_drop]
    dsimp only
    rw [this]; exact hr
  rintro ⟨k, S⟩ W ⟨hk1, hS, hP, hrW, hgW⟩
  dsimp only at hk1 hS hP hrW
  refine And.intro (fun h => ?_) (fun h => ?_)
  · have h : ((a + k : Nat) : Int) < b := of_decide_eq_true h
    have hkl : k < xs.length := by omega
    have hSl : S.length = k := by rw [hP.length_eq, List.length_take]; omega
    obtain ⟨x, hx⟩ : ∃ x, x = xs[k] := ⟨_, rfl⟩
    have hxd : xs.drop k = x :: xs.drop (k + 1) := by rw [hx]; exact List.drop_eq_getElem_cons hkl
    have hlow : ∀ z ∈ S, z.2 < x.2 := fun z hz => by
      have hz : z ∈ xs.take k := hP.mem_iff.1 hz
      obtain ⟨i, hi, e⟩ := List.getElem_of_mem hz
      rw [List.length_take] at hi
      rw [List.getElem_take] at e
      rw [hx, ← e]
      exact List.pairwise_iff_getElem.1 ht i k (by omega) hkl (by omega)
    refine ⟨List (Tg Msg) × List (Tg Msg), fun s => ⟨[(0, .slice (some ⟨g, 0, none⟩) L cap), (1, .int .i64 a), (2, .int .i64 b), (3, .func (.func 85) #[] cp), (8, .int .i64 (a + k : Nat)), (9, .int .i64 (a + s.1.length : Nat))], []⟩,
      fun s V => s.1 ++ s.2 = S ∧ (∀ y ∈ s.2, lt2 O x y) ∧ RowM V g sp (A ++ fsts s.1 ++ x.1 :: (fsts s.2 ++ fsts (xs.drop (k + 1)) ++ B)) ∧ w.grownBy V (some g), fun s => s.1.length, (S, []),
      ⟨.cons rfl (.cons rfl (.cons rfl (.cons rfl (.cons rfl (.cons (by dsimp only; rw [hSl]; rfl) .nil))))), rfl⟩, ⟨by simp, by simp, ?_, hgW⟩, ?_⟩
    · rw [hxd] at hrW
      simpa using hrW
    rintro ⟨S1, S2⟩ V ⟨hSS, hlt, hrV, hgV⟩
    dsimp only at hSS hlt hrV
    have hS1l : S1.length + S2.length = k := by rw [← hSl, ← hSS]; simp
    refine DrawE.ord [] [0, 1, 2, 3, 4, 5, 6, 7, 8, 9, 10, 11, 12, 13, 14, 15, 16] (by kernel_rfl) ?_
    have fin : ∀ Z, RowM Z g sp (A ++ fsts S1 ++ x.1 :: (fsts S2 ++ fsts (xs.drop (k + 1)) ++ B)) → w.grownBy Z (some g) → (∀ z ∈ S1, lt2 O z x) →
        1 ≤ k + 1 ∧ Srt O (S1 ++ x :: S2) ∧ (S1 ++ x :: S2).Perm (xs.take (k + 1)) ∧ RowM Z g sp (A ++ fsts (S1 ++ x :: S2) ++ fsts (xs.drop (k + 1)) ++ B) ∧ w.grownBy Z (some g) := fun Z hrZ hgZ hle => by
      refine ⟨by omega, ?_, ?_, ?_, hgZ⟩
      · rw [← hSS] at hS
        obtain ⟨p1, p2, p3⟩ := List.pairwise_append.1 hS
        refine List.pairwise_append.2 ⟨p1, List.pairwise_cons.2 ⟨hlt, p2⟩, fun u hu v hv => ?_⟩
        rcases List.mem_cons.1 hv with rfl | hv
        · exact hle u hu
        · exact p3 u hu v hv
      · rw [List.take_succ_eq_append_getElem hkl, ← hx]
        refine List.perm_middle.trans ?_
        rw [hSS]
        exact (List.Perm.cons x hP).trans (List.perm_append_singleton x _).symm
      · have : A ++ fsts (S1 ++ x :: S2) ++ fsts (xs.drop (k + 1)) ++ B = A ++ fsts S1 ++ x.1 :: (fsts S2 ++ fsts (xs.drop (k + 1)) ++ B) := by
          simp only [fsts, List.map_append, List.map_cons, List.append_assoc, List.cons_append]
        rw [this]; exact hrZ
    refine And.intro (fun h2 => ?_) (fun h2 => ?_)
    · have h2 : (a : Int) < (a + S1.length : Nat) := of_decide_eq_true h2
      obtain ⟨S1', z, rfl⟩ : ∃ S1' z, S1 = S1' ++ [z] := by
        rcases List.eq_nil_or_concat S1 with e | ⟨q, r, e⟩
        · subst e; simp at h2
        · exact ⟨q, r, by rw [e, List.concat_eq_append]⟩
      have hzl : z.2 < x.2 := hlow z (by rw [← hSS]; simp)
      have r0 : RowM V.drew g sp ((A ++ fsts (S1' ++ [z])) ++ x.1 :: (fsts S2 ++ fsts (xs.drop (k + 1)) ++ B)) := hrV
      have r1 : RowM V.drew g sp ((A ++ fsts S1') ++ z.1 :: (x.1 :: (fsts S2 ++ fsts (xs.drop (k + 1)) ++ B))) := by
        have : (A ++ fsts S1') ++ z.1 :: (x.1 :: (fsts S2 ++ fsts (xs.drop (k + 1)) ++ B)) = A ++ fsts (S1' ++ [z]) ++ x.1 :: (fsts S2 ++ fsts (xs.drop (k + 1)) ++ B) := by
          simp only [fsts, List.map_append, List.map_cons, List.map_nil, List.append_assoc, List.cons_append, List.nil_append]
        rw [this]; exact hrV
      have hA0 : (A ++ fsts (S1' ++ [z])).length = a + (S1' ++ [z]).length := by simp; omega
      have hA1 : (A ++ fsts S1').length = a + S1'.length := by simp; omega
      have hlz : (S1' ++ [z]).length = S1'.length + 1 := by simp
      have hgl := r0.lt
      refine ⟨a + (S1' ++ [z]).length, rfl, by omega, ?_⟩
      refine ⟨x.1.enc, rfl, r0.mid hA0, hgl, ?_⟩
      refine ⟨(a + S1'.length : Nat), (wrap_i64 (by first | omega | (dsimp only; omega))).trans (by first | omega | (dsimp only; omega)), ?_⟩
      refine ⟨a + S1'.length, rfl, by omega, ?_⟩
      refine ⟨z.1.enc, rfl, r1.mid hA1, hgl, ?_⟩
      refine Calls.mono (hC.run V.drew (hC.keep _ _ (hC.keep _ _ hG hgV) (grown_of_below (Below.refl _ V).drew)) x.1 z.1) ?_
      rintro e V2 ⟨v, rfl, hv, hbV⟩
      refine ⟨hbV, ?_⟩
      have hgV2 : w.grownBy V2 (some g) := grown_trans hgV (grown_trans (grown_of_below (Below.refl _ V).drew) (grown_of_below hbV))
      refine And.intro (fun h3 => ?_) (fun h3 => ?_)
      · have h3 : O.lt x.1 z.1 = true := by rw [← hv]; exact h3
        have q0 : RowM V2.drew g sp ((A ++ fsts S1') ++ z.1 :: (x.1 :: (fsts S2 ++ fsts (xs.drop (k + 1)) ++ B))) := r1.below hbV.drew
        have q1 : RowM V2.drew g sp ((A ++ fsts (S1' ++ [z])) ++ x.1 :: (fsts S2 ++ fsts (xs.drop (k + 1)) ++ B)) := r0.below hbV.drew
        have hgl2 := q0.lt
        refine DrawE.ord [15, 17] [0, 1, 2, 3, 4, 5, 6, 7, 8, 9, 10, 11, 12, 13, 14, 15, 16, 17] (by kernel_rfl) ?_
        refine ⟨(a + S1'.length : Nat), (wrap_i64 (by first | omega | (dsimp only; omega))).trans (by first | omega | (dsimp only; omega)), ?_⟩
        refine ⟨(a + S1'.length : Nat), (wrap_i64 (by first | omega | (dsimp only; omega))).trans (by first | omega | (dsimp only; omega)), ?_⟩
        refine ⟨a + S1'.length, rfl, by omega, ?_⟩
        refine ⟨z.1.enc, rfl, q0.mid hA1, hgl2, ?_⟩
        refine ⟨a + (S1' ++ [z]).length, rfl, by omega, ?_⟩
        refine ⟨x.1.enc, rfl, q1.mid hA0, hgl2, ?_⟩
        refine ⟨a + (S1' ++ [z]).length, rfl, by omega, ?_⟩
        refine store_mid (ttOk.get 107 _ rfl) rfl q1 hA0 z.1 fun V3 s1 g1 z1 => ?_
        refine ⟨a + S1'.length, rfl, by omega, ?_⟩
        have s2 : RowM V3 g sp ((A ++ fsts S1') ++ z.1 :: (z.1 :: (fsts S2 ++ fsts (xs.drop (k + 1)) ++ B))) := by
          have : (A ++ fsts S1') ++ z.1 :: (z.1 :: (fsts S2 ++ fsts (xs.drop (k + 1)) ++ B)) = A ++ fsts (S1' ++ [z]) ++ z.1 :: (fsts S2 ++ fsts (xs.drop (k + 1)) ++ B) := by
            simp only [fsts, List.map_append, List.map_cons, List.map_nil, List.append_assoc, List.cons_append, List.nil_append]
          rw [this]; exact s1
        refine store_mid (ttOk.get 107 _ rfl) rfl s2 hA1 x.1 fun V4 s3 g2 z2 => ?_
        refine ⟨(a + S1'.length : Nat), (wrap_i64 (by first | omega | (dsimp only; omega))).trans (by first | omega | (dsimp only; omega)), ?_⟩
        refine ⟨(S1', z :: S2), ⟨.cons rfl (.cons rfl (.cons rfl (.cons rfl (.cons rfl (.cons rfl .nil))))), rfl⟩, ⟨by rw [← hSS]; simp, ?_, s3, grown_trans hgV2 (grown_trans (grown_of_below (Below.refl _ V2).drew) (grown_trans g1 g2))⟩, by dsimp only; omega⟩
        intro y hy
        rcases List.mem_cons.1 hy with rfl | hy
        · exact .inl h3
        · exact hlt y hy
      · have h3 : O.lt x.1 z.1 = false := by rw [← hv]; exact h3
        refine ⟨(a + (k + 1) : Nat), (wrap_i64 (by first | omega | (dsimp only; omega))).trans (by first | omega | (dsimp only; omega)), ?_⟩
        refine ⟨(k + 1, (S1' ++ [z]) ++ x :: S2), ⟨.cons rfl (.cons rfl (.cons rfl (.cons rfl (.cons rfl .nil)))), rfl⟩, fin V2 (r0.below hbV) hgV2 ?_, by dsimp only; omega⟩
        intro u hu
        have hzx : lt2 O z x := .inr ⟨h3, hzl⟩
        rcases List.mem_append.1 hu with hu | hu
        · refine lt2_trans ?_ hzx
          rw [← hSS] at hS
          exact (List.pairwise_append.1 (List.pairwise_append.1 hS).1).2.2 u hu z (by simp)
        · simp at hu; rw [hu]; exact hzx
    · have h2 : ¬ (a : Int) < (a + S1.length : Nat) := of_decide_eq_false h2
      have : S1 = [] := List.eq_nil_of_length_eq_zero (by omega)
      subst this
      refine And.intro (fun h => by cases h) (fun _ => ?_)
      refine ⟨(a + (k + 1) : Nat), (wrap_i64 (by first | omega | (dsimp only; omega))).trans (by first | omega | (dsimp only; omega)), ?_⟩
      exact ⟨(k + 1, [] ++ x :: S2), ⟨.cons rfl (.cons rfl (.cons rfl (.cons rfl (.cons rfl .nil)))), rfl⟩, fin V.drew hrV (grown_trans hgV (grown_of_below (Below.refl _ V).drew)) (by simp), by dsimp only; omega⟩
  · have h : ¬ ((a + k : Nat) : Int) < b := of_decide_eq_false h
    rw [List.take_of_length_le (by omega)] at hP
    rw [List.drop_of_length_le (by omega)] at hrW
    exact And.intro ⟨_, rfl⟩ (And.intro ⟨S, hS, hP, by simpa using hrW⟩ hgW)
end Go.Proofs.YtedeohcdcaimhaaGreatDoor
namespace Go.Proofs.YtedeohcdcaimhaaGreatDoor
open Go.Vc Go.RowKit Go.Sei

theorem RowM.get {w : World} {g : Nat} {sp : List Value} {l : List Msg} (h : RowM w g sp l) {i : Nat} {v : Msg} (hv : l[i]? = some v) : Cells w ⟨g, 0 + i * 11, none⟩ v.enc := by
  obtain ⟨hi, e⟩ := List.getElem?_eq_some_iff.1 hv
  subst e
  exact h.at hi

theorem row_r (A B : List Msg) (l r : List (Tg Msg)) {k : Nat} (hk : k < r.length) : (A ++ fsts l ++ fsts r ++ B)[A.length + l.length + k]? = some r[k].1 := by
  have h : (A ++ fsts l).length = A.length + l.length := by simp
  rw [List.append_assoc (A ++ fsts l), List.getElem?_append_right (by omega), h, Nat.add_sub_cancel_left, List.getElem?_append_left (by simpa using hk)]
  simp [hk]
theorem row_l (A B : List Msg) (l r : List (Tg Msg)) {k : Nat} (hk : k < l.length) : (A ++ fsts l ++ fsts r ++ B)[A.length + k]? = some l[k].1 := by
  rw [List.append_assoc, List.append_assoc, List.getElem?_append_right (by omega), Nat.add_sub_cancel_left, List.getElem?_append_left (by simpa using hk)]
  simp [hk]

def SymGoal (cp : Array Value) (O : MOrd Msg) (Good : World → Prop) (g cap L : Nat) (sp : List Value) (N : Nat) : Prop :=
  ∀ (a m b : Nat) (A B : List Msg) (l r : List (Tg Msg)) (w : World), l.length + r.length ≤ N → 0 < l.length → 0 < r.length → Good w → RowM w g sp (A ++ fsts l ++ fsts r ++ B) → Srt O l → Srt O r → (∀ x ∈ l, ∀ y ∈ r, x.2 < y.2) →
    A.length = a → A.length + l.length = m → A.length + l.length + r.length = b → L = (A ++ fsts l ++ fsts r ++ B).length →
    Calls Tryz.prog 111 #[.slice (some ⟨g, 0, none⟩) L cap, .int .i64 a, .int .i64 m, .int .i64 b, .func (.func 85) #[] cp] w
      fun e w' => (∃ v, e = .returned v) ∧ (∃ ys, Srt O ys ∧ ys.Perm (l ++ r) ∧ RowM w' g sp (A ++ fsts ys ++ B)) ∧ w.grownBy w' (some g)

theorem sym_l (cp : Array Value) (O : MOrd Msg) (Good : World → Prop) (g cap L : Nat) (sp : List Value) (hC : CmpOk cp O g Good) (hl : L ≤ 1000000000)
    (a m b : Nat) (A B : List Msg) (l r : List (Tg Msg)) (w : World) (hone : l.length = 1) (hl0 : 0 < l.length) (hr0 : 0 < r.length) (hG : Good w) (hr : RowM w g sp (A ++ fsts l ++ fsts r ++ B)) (hSl : Srt O l) (hSr : Srt O r) (hX : ∀ x ∈ l, ∀ y ∈ r, x.2 < y.2)
    (ha : A.length = a) (hm : A.length + l.length = m) (hb : A.length + l.length + r.length = b) (hL : L = (A ++ fsts l ++ fsts r ++ B).length) :
    Calls Tryz.prog 111 #[.slice (some ⟨g, 0, none⟩) L cap, .int .i64 a, .int .i64 m, .int .i64 b, .func (.func 85) #[] cp] w
      fun e w' => (∃ v, e = .returned v) ∧ (∃ ys, Srt O ys ∧ ys.Perm (l ++ r) ∧ RowM w' g sp (A ++ fsts ys ++ B)) ∧ w.grownBy w' (some g) := by
  have hL2 : L = A.length + l.length + r.length + B.length := by rw [hL]; simp; omega
  refine calls_of_E (S := sg 220) (sgOk _) (args := [.slice (some ⟨g, 0, none⟩) L cap, .int .i64 a, .int .i64 m, .int .i64 b, .func (.func 85) #[] cp]) Tryz.func111 rfl rfl (Nat.le_of_ble_eq_true rfl) rfl ?_
  refine ⟨(l.length : Nat), (wrap_i64 (by omega)).trans (by omega), ?_⟩
  refine And.intro (fun h => ?_) (fun h1 => ?_)
  · have h : (l.length : Int) = 1 := of_decide_eq_true h
    obtain ⟨x, rfl⟩ : ∃ x, l = [x] := List.length_eq_one_iff.1 (by omega)
    have hXx : ∀ y ∈ r, x.2 < y.2 := fun y hy => hX x (by simp) y hy
    refine ⟨Nat × Nat, fun s => ⟨[(0, .slice (some ⟨g, 0, none⟩) L cap), (1, .int .i64 a), (2, .int .i64 m), (3, .int .i64 b), (4, .func (.func 85) #[] cp), (10, .int .i64 (m + s.1 : Nat)), (11, .int .i64 (m + s.2 : Nat))], []⟩,
      fun s V => s.1 ≤ s.2 ∧ s.2 ≤ r.length ∧ (s.1 = 0 ∨ ∃ y, r[s.1 - 1]? = some y ∧ O.lt y.1 x.1 = true) ∧ (s.2 = r.length ∨ ∃ y, r[s.2]? = some y ∧ O.lt y.1 x.1 = false) ∧ RowM V g sp (A ++ fsts [x] ++ fsts r ++ B) ∧ w.grownBy V (some g),
      fun s => s.2 - s.1, (0, r.length), ⟨.cons rfl (.cons rfl (.cons rfl (.cons rfl (.cons rfl (.cons rfl (.cons (by dsimp only; rw [← hb, ← hm]; rfl) .nil)))))), rfl⟩, ⟨Nat.zero_le _, Nat.le_refl _, .inl rfl, .inl rfl, hr, grown_refl _ _⟩, ?_⟩
    rintro ⟨p, q⟩ V ⟨hpq, hqr, hp, hq, hrV, hgV⟩
    dsimp only at hpq hqr hp hq
    refine And.intro (fun h2 => ?_) (fun h2 => ?_)
    · have h2 : ((m + p : Nat) : Int) < (m + q : Nat) := of_decide_eq_true h2
      have hh : (m + p + (m + q)) / 2 = m + ((m + p + (m + q)) / 2 - m) := by omega
      obtain ⟨c, hc⟩ : ∃ c, c = (m + p + (m + q)) / 2 - m := ⟨_, rfl⟩
      rw [← hc] at hh
      have hc1 : p ≤ c := by omega
      have hc2 : c < q := by omega
      refine ⟨(m + p + (m + q) : Nat), (wrap_i64 (by dsimp only; omega)).trans (by dsimp only; omega), ?_⟩
      refine ⟨(m + p + (m + q) : Nat), wrap_u64 (by omega), ?_⟩
      refine And.intro (by decide) ⟨(m + c : Nat), (half_u64 _).trans (by rw [hh]), ?_⟩
      refine ⟨(m + c : Nat), wrap_i64 (by omega), ?_⟩
      refine DrawE.ord [] [0, 1, 2, 3, 4, 5, 6, 7, 8, 9, 10] (by kernel_rfl) ?_
      have hgl : g < V.drew.heap.size := hrV.lt
      have hrc : c < r.length := by omega
      have g1 : Cells V.drew ⟨g, 0 + (m + c) * 11, none⟩ r[c].1.enc := RowM.get hrV (by rw [← hm]; exact row_r A B [x] r hrc)
      have g2 : Cells V.drew ⟨g, 0 + a * 11, none⟩ x.1.enc := RowM.get hrV (by rw [← ha]; exact row_l A B [x] r (k := 0) (by simp))
      refine ⟨m + c, rfl, by omega, ?_⟩
      refine ⟨_, rfl, g1, hgl, ?_⟩
      refine ⟨a, rfl, by omega, ?_⟩
      refine ⟨_, rfl, g2, hgl, ?_⟩
      refine Calls.mono (hC.run V.drew (hC.keep _ _ (hC.keep _ _ hG hgV) (grown_of_below (Below.refl _ V).drew)) r[c].1 x.1) ?_
      rintro e V2 ⟨v, rfl, hv, hbV⟩
      refine ⟨hbV, ?_⟩
      have hgV2 : w.grownBy V2 (some g) := grown_trans hgV (grown_trans (grown_of_below (Below.refl _ V).drew) (grown_of_below hbV))
      have hrV2 : RowM V2 g sp (A ++ fsts [x] ++ fsts r ++ B) := RowS.below (w := V.drew) hrV hbV
      refine And.intro (fun h3 => ?_) (fun h3 => ?_)
      · rw [hv] at h3
        refine ⟨(m + (c + 1) : Nat), (wrap_i64 (by omega)).trans (by omega), ?_⟩
        exact ⟨(c + 1, q), ⟨.cons rfl (.cons rfl (.cons rfl (.cons rfl (.cons rfl (.cons rfl (.cons rfl .nil)))))), rfl⟩, ⟨hc2, hqr, .inr ⟨r[c], by simp [hrc], h3⟩, hq, hrV2, hgV2⟩, by dsimp only; omega⟩
      · rw [hv] at h3
        exact ⟨(p, c), ⟨.cons rfl (.cons rfl (.cons rfl (.cons rfl (.cons rfl (.cons rfl (.cons rfl .nil)))))), rfl⟩, ⟨hc1, by dsimp only; omega, hp, .inr ⟨r[c], by simp [hrc], h3⟩, hrV2, hgV2⟩, by dsimp only; omega⟩
    · have h2 : ¬ ((m + p : Nat) : Int) < (m + q : Nat) := of_decide_eq_false h2
      have hpe : q = p := by omega
      subst hpe
      have hfin : Srt O (r.take q ++ x :: r.drop q) ∧ (r.take q ++ x :: r.drop q).Perm ([x] ++ r) := by
        have hrs : Srt O (r.take q ++ r.drop q) := by rw [List.take_append_drop]; exact hSr
        have c1 : ∀ y ∈ r.take q, lt2 O y x := fun y hy => by
          refine ends_lt (List.pairwise_append.1 hrs).1 (List.pairwise_singleton _ x) (fun z u hz hu => ?_) y hy x (by simp)
          simp at hu; subst hu
          rcases hp with rfl | ⟨y', hy', hlt⟩
          · simp at hz
          · have hq0 : 0 < q := by
              rcases Nat.eq_zero_or_pos q with e | e
              · subst e; simp at hz
              · exact e
            rw [List.getLast?_eq_getElem?, List.length_take, Nat.min_eq_left hqr, List.getElem?_take, if_pos (by omega), hy'] at hz
            cases hz; exact .inl hlt
        have c2 : ∀ y ∈ r.drop q, lt2 O x y := fun y hy => by
          refine ends_lt (List.pairwise_singleton _ x) (List.pairwise_append.1 hrs).2.1 (fun z u hz hu => ?_) x (by simp) y hy
          simp at hz; subst hz
          rcases hq with e | ⟨y', hy', hlt⟩
          · rw [List.head?_drop, e] at hu; simp at hu
          · rw [List.head?_drop, hy'] at hu
            have hu : y' = u := by simpa using hu
            subst hu
            exact .inr ⟨hlt, hXx y' (List.mem_of_getElem? hy')⟩
        refine ⟨List.pairwise_append.2 ⟨(List.pairwise_append.1 hrs).1, List.pairwise_cons.2 ⟨c2, (List.pairwise_append.1 hrs).2.1⟩, fun u hu v hv => ?_⟩, ?_⟩
        · rcases List.mem_cons.1 hv with rfl | hv
          · exact c1 u hu
          · exact (List.pairwise_append.1 hrs).2.2 u hu v hv
        · refine List.perm_middle.trans ?_
          rw [List.take_append_drop]; exact .refl _
      refine ⟨Nat, fun t => ⟨[(0, .slice (some ⟨g, 0, none⟩) L cap), (1, .int .i64 a), (2, .int .i64 m), (3, .int .i64 b), (4, .func (.func 85) #[] cp), (10, .int .i64 (m + q : Nat)), (13, .int .i64 (a + t : Nat))], []⟩,
        fun t V => t ≤ q ∧ RowM V g sp (A ++ fsts (r.take t) ++ x.1 :: (fsts (r.drop t) ++ B)) ∧ w.grownBy V (some g),
        fun t => q - t, 0, ⟨.cons rfl (.cons rfl (.cons rfl (.cons rfl (.cons rfl (.cons rfl (.cons rfl .nil)))))), rfl⟩, ⟨Nat.zero_le _, by simpa using hrV, hgV⟩, ?_⟩
      rintro t V1 ⟨htq, hrV1, hgV1⟩
      refine ⟨(a + q : Nat), (wrap_i64 (by first | omega | (simp at hm; omega))).trans (by first | omega | (simp at hm; omega)), ?_⟩
      refine And.intro (fun h4 => ?_) (fun h4 => ?_)
      · have h4 : ((a + t : Nat) : Int) < (a + q : Nat) := of_decide_eq_true h4
        have htr : t < r.length := by omega
        have hmm : m = a + 1 := by rw [← hm, ← ha]; rfl
        have hLL : a + 1 + r.length ≤ L := by simp at hL2; omega
        have hd : r.drop t = r[t] :: r.drop (t + 1) := List.drop_eq_getElem_cons htr
        have hA0 : (A ++ fsts (r.take t)).length = a + t := by simp; omega
        have hA1 : ((A ++ fsts (r.take t)) ++ [x.1]).length = a + t + 1 := by simp; omega
        have hA2 : ((A ++ fsts (r.take t)) ++ [r[t].1]).length = a + t + 1 := by simp; omega
        have q0 : RowM V1.drew g sp ((A ++ fsts (r.take t)) ++ x.1 :: (r[t].1 :: (fsts (r.drop (t + 1)) ++ B))) := by
          rw [hd] at hrV1; exact hrV1
        have q1 : RowM V1.drew g sp (((A ++ fsts (r.take t)) ++ [x.1]) ++ r[t].1 :: (fsts (r.drop (t + 1)) ++ B)) := by
          have : ((A ++ fsts (r.take t)) ++ [x.1]) ++ r[t].1 :: (fsts (r.drop (t + 1)) ++ B) = (A ++ fsts (r.take t)) ++ x.1 :: (r[t].1 :: (fsts (r.drop (t + 1)) ++ B)) := by
            simp only [List.append_assoc, List.cons_append, List.nil_append]
          rw [this]; exact q0
        have hgl := q0.lt
        refine DrawE.ord [15, 17] [0, 1, 2, 3, 4, 5, 6, 7, 8, 9, 10, 11, 12, 13, 14, 15, 16, 17] (by kernel_rfl) ?_
        refine ⟨(a + t + 1 : Nat), (wrap_i64 (by omega)).trans (by omega), ?_⟩
        refine ⟨(a + t + 1 : Nat), (wrap_i64 (by omega)).trans (by omega), ?_⟩
        refine ⟨a + t + 1, rfl, by omega, ?_⟩
        refine ⟨r[t].1.enc, rfl, q1.mid hA1, hgl, ?_⟩
        refine ⟨a + t, rfl, by omega, ?_⟩
        refine ⟨x.1.enc, rfl, q0.mid hA0, hgl, ?_⟩
        refine ⟨a + t, rfl, by omega, ?_⟩
        refine store_mid (ttOk.get 107 _ rfl) rfl q0 hA0 r[t].1 fun V3 s1 g1 z1 => ?_
        refine ⟨a + t + 1, rfl, by omega, ?_⟩
        have s2 : RowM V3 g sp (((A ++ fsts (r.take t)) ++ [r[t].1]) ++ r[t].1 :: (fsts (r.drop (t + 1)) ++ B)) := by
          have : ((A ++ fsts (r.take t)) ++ [r[t].1]) ++ r[t].1 :: (fsts (r.drop (t + 1)) ++ B) = (A ++ fsts (r.take t)) ++ r[t].1 :: (r[t].1 :: (fsts (r.drop (t + 1)) ++ B)) := by
            simp only [List.append_assoc, List.cons_append, List.nil_append]
          rw [this]; exact s1
        refine store_mid (ttOk.get 107 _ rfl) rfl s2 hA2 x.1 fun V4 s3 g2 z2 => ?_
        refine ⟨(a + (t + 1) : Nat), (wrap_i64 (by omega)).trans (by omega), ?_⟩
        refine ⟨t + 1, ⟨.cons rfl (.cons rfl (.cons rfl (.cons rfl (.cons rfl (.cons rfl (.cons rfl .nil)))))), rfl⟩, ⟨by omega, ?_, grown_trans hgV1 (grown_trans (grown_of_below (Below.refl _ V1).drew) (grown_trans g1 g2))⟩, by dsimp only; omega⟩
        have : A ++ fsts (r.take (t + 1)) ++ x.1 :: (fsts (r.drop (t + 1)) ++ B) = ((A ++ fsts (r.take t)) ++ [r[t].1]) ++ x.1 :: (fsts (r.drop (t + 1)) ++ B) := by
          rw [List.take_succ_eq_append_getElem htr]
          simp only [fsts, List.map_append, List.map_cons, List.map_nil, List.append_assoc]
        rw [this]; exact s3
      · have h4 : ¬ ((a + t : Nat) : Int) < (a + q : Nat) := of_decide_eq_false h4
        have hte : t = q := by omega
        subst hte
        refine And.intro ⟨_, rfl⟩ (And.intro ⟨r.take t ++ x :: r.drop t, hfin.1, hfin.2, ?_⟩ hgV1)
        have : A ++ fsts (r.take t ++ x :: r.drop t) ++ B = A ++ fsts (r.take t) ++ x.1 :: (fsts (r.drop t) ++ B) := by
          simp only [fsts, List.map_append, List.map_cons, List.append_assoc, List.cons_append]
        rw [this]; exact hrV1
  · exact absurd (of_decide_eq_false h1) (by omega)
end Go.Proofs.YtedeohcdcaimhaaGreatDoor
namespace Go.Proofs.YtedeohcdcaimhaaGreatDoor
open Go.Vc Go.RowKit Go.Sei

theorem sym_r (cp : Array Value) (O : MOrd Msg) (Good : World → Prop) (g cap L : Nat) (sp : List Value) (hC : CmpOk cp O g Good) (hl : L ≤ 1000000000)
    (a m b : Nat) (A B : List Msg) (l r : List (Tg Msg)) (w : World) (hn1 : l.length ≠ 1) (hone : r.length = 1) (hl0 : 0 < l.length) (hr0 : 0 < r.length) (hG : Good w) (hr : RowM w g sp (A ++ fsts l ++ fsts r ++ B)) (hSl : Srt O l) (hSr : Srt O r) (hX : ∀ x ∈ l, ∀ y ∈ r, x.2 < y.2)
    (ha : A.length = a) (hm : A.length + l.length = m) (hb : A.length + l.length + r.length = b) (hL : L = (A ++ fsts l ++ fsts r ++ B).length) :
    Calls Tryz.prog 111 #[.slice (some ⟨g, 0, none⟩) L cap, .int .i64 a, .int .i64 m, .int .i64 b, .func (.func 85) #[] cp] w
      fun e w' => (∃ v, e = .returned v) ∧ (∃ ys, Srt O ys ∧ ys.Perm (l ++ r) ∧ RowM w' g sp (A ++ fsts ys ++ B)) ∧ w.grownBy w' (some g) := by
  have hL2 : L = A.length + l.length + r.length + B.length := by rw [hL]; simp; omega
  refine calls_of_M (S := sg 220) (sgOk _) (args := [.slice (some ⟨g, 0, none⟩) L cap, .int .i64 a, .int .i64 m, .int .i64 b, .func (.func 85) #[] cp]) (.c .p (.s (.s .p (.d (.s .p (.s .p (.c .p .p))) .p)) .p)) Tryz.func111 rfl rfl (Nat.le_of_ble_eq_true rfl) rfl ?_
  refine ⟨Unit, fun _ => ⟨[(0, .slice (some ⟨g, 0, none⟩) L cap), (1, .int .i64 a), (2, .int .i64 m), (3, .int .i64 b), (4, .func (.func 85) #[] cp)], []⟩, fun _ V => w = V, ?_, ?_⟩
  rotate_left
  · rintro _ _ rfl
    refine ⟨(r.length : Nat), (wrap_i64 (by omega)).trans (by omega), ?_⟩
    refine And.intro (fun h => ?_) (fun h2 => ?_)
    · have h : (r.length : Int) = 1 := of_decide_eq_true h
      obtain ⟨y, rfl⟩ : ∃ y, r = [y] := List.length_eq_one_iff.1 (by omega)
      have hXy : ∀ x ∈ l, x.2 < y.2 := fun x hx => hX x hx y (by simp)
      have hyl : (A ++ fsts l ++ fsts [y] ++ B)[m]? = some y.1 := by rw [← hm]; exact row_r A B l [y] (k := 0) (by simp)
      refine ⟨Nat, fun q => ⟨[(0, .slice (some ⟨g, 0, none⟩) L cap), (1, .int .i64 a), (2, .int .i64 m), (3, .int .i64 b), (4, .func (.func 85) #[] cp), (14, .int .i64 (a + q : Nat))], []⟩,
        fun q V => q ≤ l.length ∧ (q = 0 ∨ ∃ z, l[q - 1]? = some z ∧ O.lt y.1 z.1 = false) ∧ (q = l.length ∨ ∃ z, l[q]? = some z ∧ O.lt y.1 z.1 = true) ∧ RowM V g sp (A ++ fsts l ++ fsts [y] ++ B) ∧ w.grownBy V (some g), ?_, ?_⟩
      rotate_left
      · rintro q V ⟨hqr, hp, hq, hrV, hgV⟩
        have hmm : m = a + l.length := by omega
        have hLL : a + l.length + 1 ≤ L := by simp at hL2; omega
        have hfin : Srt O (l.take q ++ y :: l.drop q) ∧ (l.take q ++ y :: l.drop q).Perm (l ++ [y]) := by
          have hrs : Srt O (l.take q ++ l.drop q) := by rw [List.take_append_drop]; exact hSl
          have c1 : ∀ z ∈ l.take q, lt2 O z y := fun z hz0 => by
            refine ends_lt (List.pairwise_append.1 hrs).1 (List.pairwise_singleton _ y) (fun z u hz hu => ?_) z hz0 y (by simp)
            simp at hu; subst hu
            rcases hp with rfl | ⟨z', hz', hlt⟩
            · simp at hz
            · have hq0 : 0 < q := by
                rcases Nat.eq_zero_or_pos q with e | e
                · subst e; simp at hz
                · exact e
              rw [List.getLast?_eq_getElem?, List.length_take, Nat.min_eq_left hqr, List.getElem?_take, if_pos (by omega), hz'] at hz
              have hz : z' = z := by simpa using hz
              subst hz
              exact .inr ⟨hlt, hXy z' (List.mem_of_getElem? hz')⟩
          have c2 : ∀ z ∈ l.drop q, lt2 O y z := fun z hz0 => by
            refine ends_lt (List.pairwise_singleton _ y) (List.pairwise_append.1 hrs).2.1 (fun z u hz hu => ?_) y (by simp) z hz0
            simp at hz; subst hz
            rcases hq with e | ⟨z', hz', hlt⟩
            · rw [List.head?_drop, e] at hu; simp at hu
            · rw [List.head?_drop, hz'] at hu
              have hu : z' = u := by simpa using hu
              subst hu
              exact .inl hlt
          refine ⟨List.pairwise_append.2 ⟨(List.pairwise_append.1 hrs).1, List.pairwise_cons.2 ⟨c2, (List.pairwise_append.1 hrs).2.1⟩, fun u hu v hv => ?_⟩, ?_⟩
          · rcases List.mem_cons.1 hv with rfl | hv
            · exact c1 u hu
            · exact (List.pairwise_append.1 hrs).2.2 u hu v hv
          · refine List.perm_middle.trans ?_
            rw [List.take_append_drop]; exact (List.perm_append_singleton y l).symm
        refine ⟨Nat, fun t => ⟨[(0, .slice (some ⟨g, 0, none⟩) L cap), (1, .int .i64 a), (2, .int .i64 m), (3, .int .i64 b), (4, .func (.func 85) #[] cp), (14, .int .i64 (a + q : Nat)), (17, .int .i64 (a + t : Nat))], []⟩,
          fun t V => q ≤ t ∧ t ≤ l.length ∧ RowM V g sp (A ++ fsts (l.take t) ++ y.1 :: (fsts (l.drop t) ++ B)) ∧ w.grownBy V (some g),
          fun t => t, l.length, ⟨.cons rfl (.cons rfl (.cons rfl (.cons rfl (.cons rfl (.cons rfl (.cons (by dsimp only; rw [← hmm]; rfl) .nil)))))), rfl⟩, ⟨hqr, Nat.le_refl _, by simpa using hrV, hgV⟩, ?_⟩
        rintro t V1 ⟨htq, htl, hrV1, hgV1⟩
        refine And.intro (fun h4 => ?_) (fun h4 => ?_)
        · have h4 : ((a + q : Nat) : Int) < (a + t : Nat) := of_decide_eq_true h4
          obtain ⟨u, rfl⟩ : ∃ u, t = u + 1 := ⟨t - 1, by omega⟩
          have hul : u < l.length := by omega
          have hd : l.take (u + 1) = l.take u ++ [l[u]] := List.take_succ_eq_append_getElem hul
          have hA0 : (A ++ fsts (l.take u)).length = a + u := by simp; omega
          have hA1 : ((A ++ fsts (l.take u)) ++ [l[u].1]).length = a + (u + 1) := by simp; omega
          have q1 : RowM V1.drew g sp (((A ++ fsts (l.take u)) ++ [l[u].1]) ++ y.1 :: (fsts (l.drop (u + 1)) ++ B)) := by
            have : ((A ++ fsts (l.take u)) ++ [l[u].1]) ++ y.1 :: (fsts (l.drop (u + 1)) ++ B) = A ++ fsts (l.take (u + 1)) ++ y.1 :: (fsts (l.drop (u + 1)) ++ B) := by
              rw [hd]; simp only [fsts, List.map_append, List.map_cons, List.map_nil, List.append_assoc]
            rw [this]; exact hrV1
          have q0 : RowM V1.drew g sp ((A ++ fsts (l.take u)) ++ l[u].1 :: (y.1 :: (fsts (l.drop (u + 1)) ++ B))) := by
            have : (A ++ fsts (l.take u)) ++ l[u].1 :: (y.1 :: (fsts (l.drop (u + 1)) ++ B)) = ((A ++ fsts (l.take u)) ++ [l[u].1]) ++ y.1 :: (fsts (l.drop (u + 1)) ++ B) := by
              simp only [List.append_assoc, List.cons_append, List.nil_append]
            rw [this]; exact q1
          have hgl := q0.lt
          refine DrawE.ord [15, 17] [0, 1, 2, 3, 4, 5, 6, 7, 8, 9, 10, 11, 12, 13, 14, 15, 16, 17] (by kernel_rfl) ?_
          refine ⟨(a + u : Nat), (wrap_i64 (by omega)).trans (by omega), ?_⟩
          refine ⟨(a + u : Nat), (wrap_i64 (by omega)).trans (by omega), ?_⟩
          refine ⟨a + u, rfl, by omega, ?_⟩
          refine ⟨l[u].1.enc, rfl, q0.mid hA0, hgl, ?_⟩
          refine ⟨a + (u + 1), rfl, by omega, ?_⟩
          refine ⟨y.1.enc, rfl, q1.mid hA1, hgl, ?_⟩
          refine ⟨a + (u + 1), rfl, by omega, ?_⟩
          refine store_mid (ttOk.get 107 _ rfl) rfl q1 hA1 l[u].1 fun V3 s1 g1 z1 => ?_
          refine ⟨a + u, rfl, by omega, ?_⟩
          have s2 : RowM V3 g sp ((A ++ fsts (l.take u)) ++ l[u].1 :: (l[u].1 :: (fsts (l.drop (u + 1)) ++ B))) := by
            have : (A ++ fsts (l.take u)) ++ l[u].1 :: (l[u].1 :: (fsts (l.drop (u + 1)) ++ B)) = ((A ++ fsts (l.take u)) ++ [l[u].1]) ++ l[u].1 :: (fsts (l.drop (u + 1)) ++ B) := by
              simp only [List.append_assoc, List.cons_append, List.nil_append]
            rw [this]; exact s1
          refine store_mid (ttOk.get 107 _ rfl) rfl s2 hA0 y.1 fun V4 s3 g2 z2 => ?_
          refine ⟨(a + u : Nat), (wrap_i64 (by omega)).trans (by omega), ?_⟩
          refine ⟨u, ⟨.cons rfl (.cons rfl (.cons rfl (.cons rfl (.cons rfl (.cons rfl (.cons rfl .nil)))))), rfl⟩, ⟨by omega, by omega, ?_, grown_trans hgV1 (grown_trans (grown_of_below (Below.refl _ V1).drew) (grown_trans g1 g2))⟩, by dsimp only; omega⟩
          have : A ++ fsts (l.take u) ++ y.1 :: (fsts (l.drop u) ++ B) = (A ++ fsts (l.take u)) ++ y.1 :: (l[u].1 :: (fsts (l.drop (u + 1)) ++ B)) := by
            rw [show l.drop u = l[u] :: l.drop (u + 1) from List.drop_eq_getElem_cons hul]; rfl
          rw [this]; exact s3
        · have h4 : ¬ ((a + q : Nat) : Int) < (a + t : Nat) := of_decide_eq_false h4
          have hte : t = q := by omega
          subst hte
          refine And.intro ⟨_, rfl⟩ (And.intro ⟨l.take t ++ y :: l.drop t, hfin.1, hfin.2, ?_⟩ hgV1)
          have : A ++ fsts (l.take t ++ y :: l.drop t) ++ B = A ++ fsts (l.take t) ++ y.1 :: (fsts (l.drop t) ++ B) := by
            simp only [fsts, List.map_append, List.map_cons, List.append_assoc, List.cons_append]
          rw [this]; exact hrV1
      refine ⟨Nat × Nat, fun s => ⟨[(0, .slice (some ⟨g, 0, none⟩) L cap), (1, .int .i64 a), (2, .int .i64 m), (3, .int .i64 b), (4, .func (.func 85) #[] cp), (14, .int .i64 (a + s.1 : Nat)), (15, .int .i64 (a + s.2 : Nat))], []⟩,
        fun s V => s.1 ≤ s.2 ∧ s.2 ≤ l.length ∧ (s.1 = 0 ∨ ∃ z, l[s.1 - 1]? = some z ∧ O.lt y.1 z.1 = false) ∧ (s.2 = l.length ∨ ∃ z, l[s.2]? = some z ∧ O.lt y.1 z.1 = true) ∧ RowM V g sp (A ++ fsts l ++ fsts [y] ++ B) ∧ w.grownBy V (some g),
        fun s => s.2 - s.1, (0, l.length), ⟨.cons rfl (.cons rfl (.cons rfl (.cons rfl (.cons rfl (.cons rfl (.cons (by dsimp only; rw [← ha, hm]; rfl) .nil)))))), rfl⟩, ⟨Nat.zero_le _, Nat.le_refl _, .inl rfl, .inl rfl, hr, grown_refl _ _⟩, ?_⟩
      rintro ⟨p, q⟩ V ⟨hpq, hqr, hp, hq, hrV, hgV⟩
      dsimp only at hpq hqr hp hq
      have hmm : m = a + l.length := by omega
      have hLL : a + l.length + 1 ≤ L := by simp at hL2; omega
      refine And.intro (fun h2 => ?_) (fun h2 => ?_)
      · have h2 : ((a + p : Nat) : Int) < (a + q : Nat) := of_decide_eq_true h2
        have hh : (a + p + (a + q)) / 2 = a + ((a + p + (a + q)) / 2 - a) := by omega
        obtain ⟨c, hc⟩ : ∃ c, c = (a + p + (a + q)) / 2 - a := ⟨_, rfl⟩
        rw [← hc] at hh
        have hc1 : p ≤ c := by omega
        have hc2 : c < q := by omega
        refine ⟨(a + p + (a + q) : Nat), (wrap_i64 (by dsimp only; omega)).trans (by dsimp only; omega), ?_⟩
        refine ⟨(a + p + (a + q) : Nat), wrap_u64 (by omega), ?_⟩
        refine And.intro (by decide) ⟨(a + c : Nat), (half_u64 _).trans (by rw [hh]), ?_⟩
        refine ⟨(a + c : Nat), wrap_i64 (by omega), ?_⟩
        refine DrawE.ord [] [0, 1, 2, 3, 4, 5, 6, 7, 8, 9, 10, 11] (by kernel_rfl) ?_
        have hgl : g < V.drew.heap.size := hrV.lt
        have hrc : c < l.length := by omega
        have g1 : Cells V.drew ⟨g, 0 + (a + c) * 11, none⟩ l[c].1.enc := RowM.get hrV (by rw [← ha]; exact row_l A B l [y] hrc)
        have g2 : Cells V.drew ⟨g, 0 + m * 11, none⟩ y.1.enc := RowM.get hrV hyl
        refine ⟨m, rfl, by omega, ?_⟩
        refine ⟨_, rfl, g2, hgl, ?_⟩
        refine ⟨a + c, rfl, by omega, ?_⟩
        refine ⟨_, rfl, g1, hgl, ?_⟩
        refine Calls.mono (hC.run V.drew (hC.keep _ _ (hC.keep _ _ hG hgV) (grown_of_below (Below.refl _ V).drew)) y.1 l[c].1) ?_
        rintro e V2 ⟨v, rfl, hv, hbV⟩
        refine ⟨hbV, ?_⟩
        have hgV2 : w.grownBy V2 (some g) := grown_trans hgV (grown_trans (grown_of_below (Below.refl _ V).drew) (grown_of_below hbV))
        have hrV2 : RowM V2 g sp (A ++ fsts l ++ fsts [y] ++ B) := RowS.below (w := V.drew) hrV hbV
        refine And.intro (fun h3 => ?_) (fun h3 => ?_)
        · have h3 : O.lt y.1 l[c].1 = false := by rw [← hv]; simpa using h3
          refine ⟨(a + (c + 1) : Nat), (wrap_i64 (by omega)).trans (by omega), ?_⟩
          exact ⟨(c + 1, q), ⟨.cons rfl (.cons rfl (.cons rfl (.cons rfl (.cons rfl (.cons rfl (.cons rfl .nil)))))), rfl⟩, ⟨hc2, hqr, .inr ⟨l[c], by simp [hrc], h3⟩, hq, hrV2, hgV2⟩, by dsimp only; omega⟩
        · have h3 : O.lt y.1 l[c].1 = true := by rw [← hv]; simpa using h3
          exact ⟨(p, c), ⟨.cons rfl (.cons rfl (.cons rfl (.cons rfl (.cons rfl (.cons rfl (.cons rfl .nil)))))), rfl⟩, ⟨hc1, by dsimp only; omega, hp, .inr ⟨l[c], by simp [hrc], h3⟩, hrV2, hgV2⟩, by dsimp only; omega⟩
      · have h2 : ¬ ((a + p : Nat) : Int) < (a + q : Nat) := of_decide_eq_false h2
        have hpe : q = p := by omega
        subst hpe
        exact ⟨q, ⟨.cons rfl (.cons rfl (.cons rfl (.cons rfl (.cons rfl (.cons rfl .nil))))), rfl⟩, hqr, hp, hq, hrV, hgV⟩
    · exact absurd (of_decide_eq_false h2) (by omega)
  refine ⟨(l.length : Nat), (wrap_i64 (by omega)).trans (by omega), ?_⟩
  refine And.intro (fun h => absurd (of_decide_eq_true h) (by omega)) (fun _ => ?_)
  exact ⟨(), ⟨.cons rfl (.cons rfl (.cons rfl (.cons rfl (.cons rfl .nil)))), rfl⟩, rfl⟩
end Go.Proofs.YtedeohcdcaimhaaGreatDoor
namespace Go.Proofs.YtedeohcdcaimhaaGreatDoor
open Go.Vc Go.RowKit Go.Sei

abbrev symEnv (cp : Array Value) (g cap L a m b : Nat) : VEnv := [(0, .slice (some ⟨g, 0, none⟩) L cap), (1, .int .i64 a), (2, .int .i64 m), (3, .int .i64 b), (4, .func (.func 85) #[] cp)]

theorem sym_m (cp : Array Value) (O : MOrd Msg) (Good : World → Prop) (g cap L : Nat) (sp : List Value) (hC : CmpOk cp O g Good) (hl : L ≤ 1000000000) (N : Nat) (ih : SymGoal cp O Good g cap L sp N)
    (a m b : Nat) (A B : List Msg) (l r : List (Tg Msg)) (w : World) (hN : l.length + r.length ≤ N + 1) (hn1 : l.length ≠ 1) (hn2 : r.length ≠ 1) (hl0 : 0 < l.length) (hr0 : 0 < r.length) (hG : Good w) (hr : RowM w g sp (A ++ fsts l ++ fsts r ++ B)) (hSl : Srt O l) (hSr : Srt O r) (hX : ∀ x ∈ l, ∀ y ∈ r, x.2 < y.2)
    (ha : A.length = a) (hm : A.length + l.length = m) (hb : A.length + l.length + r.length = b) (hL : L = (A ++ fsts l ++ fsts r ++ B).length) :
    Calls Tryz.prog 111 #[.slice (some ⟨g, 0, none⟩) L cap, .int .i64 a, .int .i64 m, .int .i64 b, .func (.func 85) #[] cp] w
      fun e w' => (∃ v, e = .returned v) ∧ (∃ ys, Srt O ys ∧ ys.Perm (l ++ r) ∧ RowM w' g sp (A ++ fsts ys ++ B)) ∧ w.grownBy w' (some g) := by
  have hL2 : L = A.length + l.length + r.length + B.length := by rw [hL]; simp; omega
  refine calls_of_M (S := sg 220) (sgOk _) (args := [.slice (some ⟨g, 0, none⟩) L cap, .int .i64 a, .int .i64 m, .int .i64 b, .func (.func 85) #[] cp]) (.c .p (.c .p (.s .p (.s .p (.s .p (.c .p (.s .p (.s .p (.s .p (.c .p (.c .p .p))))))))))) Tryz.func111 rfl rfl (Nat.le_of_ble_eq_true rfl) rfl ?_
  refine ⟨Unit, fun _ => ⟨symEnv cp g cap L a m b, []⟩, fun _ V => w = V, ?_, ?_⟩
  · refine ⟨(l.length : Nat), (wrap_i64 (by omega)).trans (by omega), ?_⟩
    refine And.intro (fun h => absurd (of_decide_eq_true h) (by omega)) (fun _ => ?_)
    exact ⟨(), ⟨.cons rfl (.cons rfl (.cons rfl (.cons rfl (.cons rfl .nil)))), rfl⟩, rfl⟩
  rintro _ _ rfl
  refine ⟨Unit, fun _ => ⟨symEnv cp g cap L a m b, []⟩, fun _ V => w = V, ?_, ?_⟩
  · refine ⟨(r.length : Nat), (wrap_i64 (by omega)).trans (by omega), ?_⟩
    refine And.intro (fun h => absurd (of_decide_eq_true h) (by omega)) (fun _ => ?_)
    exact ⟨(), ⟨.cons rfl (.cons rfl (.cons rfl (.cons rfl (.cons rfl .nil)))), rfl⟩, rfl⟩
  rintro _ _ rfl
  obtain ⟨mid, hmid⟩ : ∃ mid, mid = (a + b) / 2 := ⟨_, rfl⟩
  obtain ⟨n, hn⟩ : ∃ n, n = mid + m := ⟨_, rfl⟩
  refine ⟨(a + b : Nat), (wrap_i64 (by omega)).trans (by omega), ?_⟩
  refine ⟨(a + b : Nat), wrap_u64 (by omega), ?_⟩
  refine And.intro (by decide) ⟨(mid : Nat), (half_u64 _).trans (by rw [hmid]), ?_⟩
  refine ⟨(mid : Nat), wrap_i64 (by omega), ?_⟩
  refine ⟨(n : Nat), (wrap_i64 (by omega)).trans (by omega), ?_⟩
  refine ⟨Nat × Nat, fun s => ⟨symEnv cp g cap L a m b ++ [(18, .int .i64 mid), (19, .int .i64 n), (20, .int .i64 s.1), (21, .int .i64 s.2)], []⟩,
    fun s V => a ≤ s.1 ∧ s.1 ≤ s.2 ∧ s.2 ≤ m ∧ s.2 ≤ mid ∧ n ≤ b + s.1 ∧ (s.1 = a ∨ n = b + s.1) ∧ (s.2 = m ∨ s.2 = mid) ∧ w = V, ?_, ?_⟩
  · refine And.intro (fun h => ?_) (fun h => ?_)
    · have h : (mid : Int) < m := of_decide_eq_true h
      refine ⟨(n - b : Nat), (wrap_i64 (by omega)).trans (by omega), ?_⟩
      exact ⟨(n - b, mid), ⟨.cons rfl (.cons rfl (.cons rfl (.cons rfl (.cons rfl (.cons rfl (.cons rfl (.cons rfl (.cons rfl .nil)))))))), rfl⟩, by dsimp only; omega, by dsimp only; omega, by dsimp only; omega, by dsimp only; omega, by dsimp only; omega, .inr (by dsimp only; omega), .inr rfl, rfl⟩
    · have h : ¬ (mid : Int) < m := of_decide_eq_false h
      exact ⟨(a, m), ⟨.cons rfl (.cons rfl (.cons rfl (.cons rfl (.cons rfl (.cons rfl (.cons rfl (.cons rfl (.cons rfl .nil)))))))), rfl⟩, by dsimp only; omega, by dsimp only; omega, by dsimp only; omega, by dsimp only; omega, by dsimp only; omega, .inl rfl, .inl rfl, rfl⟩
  rintro ⟨s0, r0⟩ _ ⟨i1, i2, i3, i4, i5, i6, i7, rfl⟩
  dsimp only at i1 i2 i3 i4 i5 i6 i7
  refine ⟨(n - 1 : Nat), (wrap_i64 (by omega)).trans (by omega), ?_⟩
  refine ⟨Nat × Nat, fun s => ⟨symEnv cp g cap L a m b ++ [(18, .int .i64 mid), (19, .int .i64 n), (20, .int .i64 s.1), (21, .int .i64 s.2), (22, .int .i64 (n - 1 : Nat))], []⟩,
    fun s V => a ≤ s.1 ∧ s.1 ≤ s.2 ∧ s.2 ≤ m ∧ s.2 ≤ mid ∧ n ≤ b + s.1 ∧ (s.1 = a ∨ n = b + s.1 ∨ (a < s.1 ∧ ∃ x y, l[s.1 - 1 - a]? = some x ∧ r[mid - s.1]? = some y ∧ O.lt y.1 x.1 = false)) ∧
      (s.2 = m ∨ s.2 = mid ∨ (s.2 < mid ∧ ∃ x y, l[s.2 - a]? = some x ∧ r[mid - 1 - s.2]? = some y ∧ O.lt y.1 x.1 = true)) ∧ RowM V g sp (A ++ fsts l ++ fsts r ++ B) ∧ w.grownBy V (some g),
    fun s => s.2 - s.1, (s0, r0), ⟨.cons rfl (.cons rfl (.cons rfl (.cons rfl (.cons rfl (.cons rfl (.cons rfl (.cons rfl (.cons rfl (.cons rfl .nil))))))))), rfl⟩,
    ⟨i1, i2, i3, i4, i5, by rcases i6 with h | h; exact .inl h; exact .inr (.inl h), by rcases i7 with h | h; exact .inl h; exact .inr (.inl h), hr, grown_refl _ _⟩, ?_⟩
  clear i1 i2 i3 i4 i5 i6 i7 s0 r0
  rintro ⟨s, t⟩ V ⟨i1, i2, i3, i4, i5, i6, i7, hrV, hgV⟩
  dsimp only at i1 i2 i3 i4 i5 i6 i7
  refine And.intro (fun h => ?_) (fun h => ?_)
  · have h : (s : Int) < t := of_decide_eq_true h
    obtain ⟨c, hc⟩ : ∃ c, c = (s + t) / 2 := ⟨_, rfl⟩
    have hc1 : s ≤ c := by omega
    have hc2 : c < t := by omega
    refine ⟨(s + t : Nat), (wrap_i64 (by dsimp only; omega)).trans (by dsimp only; omega), ?_⟩
    refine ⟨(s + t : Nat), wrap_u64 (by omega), ?_⟩
    refine And.intro (by decide) ⟨(c : Nat), (half_u64 _).trans (by rw [hc]), ?_⟩
    refine ⟨(c : Nat), wrap_i64 (by omega), ?_⟩
    refine DrawE.ord [] [0, 1, 2, 3, 4, 5, 6, 7, 8, 9, 10, 11, 12, 13] (by kernel_rfl) ?_
    have hgl : g < V.drew.heap.size := hrV.lt
    obtain ⟨j, hj⟩ : ∃ j, c = A.length + j := ⟨c - a, by omega⟩
    obtain ⟨k, hk⟩ : ∃ k, n - 1 - c = A.length + l.length + k := ⟨n - 1 - c - m, by omega⟩
    have hjl : j < l.length := by omega
    have hkr : k < r.length := by omega
    have g1 : Cells V.drew ⟨g, 0 + (n - 1 - c) * 11, none⟩ r[k].1.enc := RowM.get hrV (by rw [hk]; exact row_r A B l r hkr)
    have g2 : Cells V.drew ⟨g, 0 + c * 11, none⟩ l[j].1.enc := RowM.get hrV (by rw [hj]; exact row_l A B l r hjl)
    refine ⟨(n - 1 - c : Nat), (wrap_i64 (by omega)).trans (by omega), ?_⟩
    refine ⟨n - 1 - c, rfl, by omega, ?_⟩
    refine ⟨_, rfl, g1, hgl, ?_⟩
    refine ⟨c, rfl, by omega, ?_⟩
    refine ⟨_, rfl, g2, hgl, ?_⟩
    refine Calls.mono (hC.run V.drew (hC.keep _ _ (hC.keep _ _ hG hgV) (grown_of_below (Below.refl _ V).drew)) r[k].1 l[j].1) ?_
    rintro e V2 ⟨v, rfl, hv, hbV⟩
    refine ⟨hbV, ?_⟩
    have hgV2 : w.grownBy V2 (some g) := grown_trans hgV (grown_trans (grown_of_below (Below.refl _ V).drew) (grown_of_below hbV))
    have hrV2 : RowM V2 g sp (A ++ fsts l ++ fsts r ++ B) := RowS.below (w := V.drew) hrV hbV
    refine And.intro (fun h3 => ?_) (fun h3 => ?_)
    · have h3 : O.lt r[k].1 l[j].1 = false := by rw [← hv]; simpa using h3
      refine ⟨(c + 1 : Nat), (wrap_i64 (by omega)).trans (by omega), ?_⟩
      refine ⟨(c + 1, t), ⟨.cons rfl (.cons rfl (.cons rfl (.cons rfl (.cons rfl (.cons rfl (.cons rfl (.cons rfl (.cons rfl (.cons rfl .nil))))))))), rfl⟩, ⟨by dsimp only; omega, hc2, i3, i4, by dsimp only; omega, .inr (.inr ⟨by dsimp only; omega, l[j], r[k], ?_, ?_, h3⟩), i7, hrV2, hgV2⟩, by dsimp only; omega⟩
      · have : c + 1 - 1 - a = j := by omega
        dsimp only; rw [this]; exact List.getElem?_eq_getElem hjl
      · have : mid - (c + 1) = k := by omega
        dsimp only; rw [this]; exact List.getElem?_eq_getElem hkr
    · have h3 : O.lt r[k].1 l[j].1 = true := by rw [← hv]; simpa using h3
      refine ⟨(s, c), ⟨.cons rfl (.cons rfl (.cons rfl (.cons rfl (.cons rfl (.cons rfl (.cons rfl (.cons rfl (.cons rfl (.cons rfl .nil))))))))), rfl⟩, ⟨i1, hc1, by dsimp only; omega, by dsimp only; omega, i5, i6, .inr (.inr ⟨by dsimp only; omega, l[j], r[k], ?_, ?_, h3⟩), hrV2, hgV2⟩, by dsimp only; omega⟩
      · have : c - a = j := by omega
        dsimp only; rw [this]; exact List.getElem?_eq_getElem hjl
      · have : mid - 1 - c = k := by omega
        dsimp only; rw [this]; exact List.getElem?_eq_getElem hkr
  have h : ¬ (s : Int) < t := of_decide_eq_false h
  have hst : t = s := by omega
  subst hst
  obtain ⟨L1, hL1⟩ : ∃ L1, L1 = l.take (t - a) := ⟨_, rfl⟩
  obtain ⟨L2, hL2'⟩ : ∃ L2, L2 = l.drop (t - a) := ⟨_, rfl⟩
  obtain ⟨R1, hR1⟩ : ∃ R1, R1 = r.take (mid - t) := ⟨_, rfl⟩
  obtain ⟨R2, hR2⟩ : ∃ R2, R2 = r.drop (mid - t) := ⟨_, rfl⟩
  have el : L1 ++ L2 = l := by rw [hL1, hL2']; exact List.take_append_drop _ _
  have er : R1 ++ R2 = r := by rw [hR1, hR2]; exact List.take_append_drop _ _
  have zl1 : L1.length = t - a := by rw [hL1, List.length_take]; omega
  have zl2 : L2.length = m - t := by rw [hL2', List.length_drop]; omega
  have zr1 : R1.length = mid - t := by rw [hR1, List.length_take]; omega
  have zr2 : R2.length = b + t - n := by rw [hR2, List.length_drop]; omega
  have sl : Srt O (L1 ++ L2) := by rw [el]; exact hSl
  have sr : Srt O (R1 ++ R2) := by rw [er]; exact hSr
  have hX11 : ∀ x ∈ L1, ∀ y ∈ R1, x.2 < y.2 := fun x hx y hy => hX x (el ▸ List.mem_append_left _ hx) y (er ▸ List.mem_append_left _ hy)
  have hX22 : ∀ x ∈ L2, ∀ y ∈ R2, x.2 < y.2 := fun x hx y hy => hX x (el ▸ List.mem_append_right _ hx) y (er ▸ List.mem_append_right _ hy)
  have h12 : ∀ x ∈ L1, ∀ y ∈ R2, lt2 O x y := by
    refine ends_lt (List.pairwise_append.1 sl).1 (List.pairwise_append.1 sr).2.1 fun z u hz hu => ?_
    have hzu : z.2 < u.2 := hX z (el ▸ List.mem_append_left _ (List.mem_of_getLast? hz)) u (er ▸ List.mem_append_right _ (List.mem_of_head? hu))
    rcases i6 with e | e | ⟨e, x, y, hx, hy, hlt⟩
    · have : L1 = [] := List.eq_nil_of_length_eq_zero (by omega)
      rw [this] at hz; cases hz
    · have : R2 = [] := List.eq_nil_of_length_eq_zero (by omega)
      rw [this] at hu; cases hu
    · rw [hL1, List.getLast?_eq_getElem?, List.length_take, Nat.min_eq_left (by omega), List.getElem?_take, if_pos (by omega)] at hz
      have e1 : t - a - 1 = t - 1 - a := by omega
      rw [e1, hx] at hz
      rw [hR2, List.head?_drop, hy] at hu
      cases hz; cases hu
      exact .inr ⟨hlt, hzu⟩
  have h21 : ∀ y ∈ R1, ∀ x ∈ L2, lt2 O y x := by
    refine ends_lt (List.pairwise_append.1 sr).1 (List.pairwise_append.1 sl).2.1 fun z u hz hu => ?_
    rcases i7 with e | e | ⟨e, x, y, hx, hy, hlt⟩
    · have : L2 = [] := List.eq_nil_of_length_eq_zero (by omega)
      rw [this] at hu; cases hu
    · have : R1 = [] := List.eq_nil_of_length_eq_zero (by omega)
      rw [this] at hz; cases hz
    · rw [hR1, List.getLast?_eq_getElem?, List.length_take, Nat.min_eq_left (by omega), List.getElem?_take, if_pos (by omega)] at hz
      have e1 : mid - t - 1 = mid - 1 - t := by omega
      rw [e1, hy] at hz
      rw [hL2', List.head?_drop, hx] at hu
      cases hz; cases hu
      exact .inl hlt
  have hrow0 : A ++ fsts l ++ fsts r ++ B = (A ++ fsts L1) ++ fsts L2 ++ fsts R1 ++ (fsts R2 ++ B) := by
    rw [← el, ← er]; simp only [fsts, List.map_append, List.append_assoc]
  have hAL1 : (A ++ fsts L1).length = t := by simp; omega
  rw [hrow0] at hrV
  refine ⟨(n - t : Nat), (wrap_i64 (by omega)).trans (by omega), ?_⟩
  refine ⟨Unit, fun _ => ⟨symEnv cp g cap L a m b ++ [(18, .int .i64 mid), (20, .int .i64 t), (24, .int .i64 (n - t : Nat))], []⟩,
    fun _ V => RowM V g sp ((A ++ fsts L1) ++ fsts R1 ++ fsts L2 ++ (fsts R2 ++ B)) ∧ w.grownBy V (some g), ?_, ?_⟩
  · refine And.intro (fun h1 => ?_) (fun h1 => ?_)
    · have h1 : (t : Int) < m := of_decide_eq_true h1
      refine And.intro (fun h2 => ?_) (fun h2 => ?_)
      · have h2 : (m : Int) < (n - t : Nat) := of_decide_eq_true h2
        refine Calls.mono (rotate_c g cap t m (n - t) L sp (A ++ fsts L1) (fsts L2) (fsts R1) (fsts R2 ++ B) _ V hrV (List.ne_nil_of_length_pos (by simp; omega)) (List.ne_nil_of_length_pos (by simp; omega)) hAL1 (by rw [hAL1]; simp; omega) (by rw [hAL1]; simp; omega) (by rw [← hrow0]; exact hL) hl) ?_
        rintro e V2 ⟨⟨v, rfl⟩, hrV2, hgV2⟩
        exact ⟨(), ⟨.cons rfl (.cons rfl (.cons rfl (.cons rfl (.cons rfl (.cons rfl (.cons rfl (.cons rfl .nil))))))), rfl⟩, hrV2, grown_trans hgV hgV2⟩
      · have h2 : ¬ (m : Int) < (n - t : Nat) := of_decide_eq_false h2
        have e1 : R1 = [] := List.eq_nil_of_length_eq_zero (by omega)
        refine ⟨(), ⟨.cons rfl (.cons rfl (.cons rfl (.cons rfl (.cons rfl (.cons rfl (.cons rfl (.cons rfl .nil))))))), rfl⟩, ?_, hgV⟩
        rw [e1] at hrV ⊢; simpa using hrV
    · have h1 : ¬ (t : Int) < m := of_decide_eq_false h1
      have e1 : L2 = [] := List.eq_nil_of_length_eq_zero (by omega)
      refine And.intro (fun h => by cases h) (fun _ => ?_)
      refine ⟨(), ⟨.cons rfl (.cons rfl (.cons rfl (.cons rfl (.cons rfl (.cons rfl (.cons rfl (.cons rfl .nil))))))), rfl⟩, ?_, hgV⟩
      rw [e1] at hrV ⊢; simpa using hrV
  clear hrV hgV V
  rintro _ V ⟨hrV, hgV⟩
  refine ⟨List (Tg Msg), fun _ => ⟨symEnv cp g cap L a m b ++ [(18, .int .i64 mid), (24, .int .i64 (n - t : Nat))], []⟩,
    fun S1 V => Srt O S1 ∧ S1.Perm (L1 ++ R1) ∧ RowM V g sp ((A ++ fsts S1) ++ fsts L2 ++ fsts R2 ++ B) ∧ w.grownBy V (some g), ?_, ?_⟩
  · have hrV' : RowM V g sp (A ++ fsts L1 ++ fsts R1 ++ (fsts L2 ++ (fsts R2 ++ B))) := by simpa using hrV
    have hno : L1 = [] ∨ R1 = [] → Srt O (L1 ++ R1) ∧ RowM V g sp ((A ++ fsts (L1 ++ R1)) ++ fsts L2 ++ fsts R2 ++ B) := fun h => by
      refine ⟨?_, by simpa [fsts] using hrV⟩
      rcases h with h | h
      · rw [h]; exact (List.pairwise_append.1 sr).1
      · rw [h, List.append_nil]; exact (List.pairwise_append.1 sl).1
    refine And.intro (fun h1 => ?_) (fun h1 => ?_)
    · have h1 : (a : Int) < t := of_decide_eq_true h1
      refine And.intro (fun h2 => ?_) (fun h2 => ?_)
      · have h2 : (t : Int) < mid := of_decide_eq_true h2
        refine Calls.mono (ih a t mid A (fsts L2 ++ (fsts R2 ++ B)) L1 R1 V (by omega) (by omega) (by omega) (hC.keep _ _ hG hgV) hrV' (List.pairwise_append.1 sl).1 (List.pairwise_append.1 sr).1 hX11 ha (by omega) (by omega) (by rw [hL, hrow0]; simp; omega)) ?_
        rintro e V2 ⟨⟨v, rfl⟩, ⟨S1, q1, q2, q3⟩, hgV2⟩
        exact ⟨S1, ⟨.cons rfl (.cons rfl (.cons rfl (.cons rfl (.cons rfl (.cons rfl (.cons rfl .nil)))))), rfl⟩, q1, q2, by simpa using q3, grown_trans hgV hgV2⟩
      · have h2 : ¬ (t : Int) < mid := of_decide_eq_false h2
        obtain ⟨n1, n2⟩ := hno (.inr (List.eq_nil_of_length_eq_zero (by omega)))
        exact ⟨L1 ++ R1, ⟨.cons rfl (.cons rfl (.cons rfl (.cons rfl (.cons rfl (.cons rfl (.cons rfl .nil)))))), rfl⟩, n1, .refl _, n2, hgV⟩
    · have h1 : ¬ (a : Int) < t := of_decide_eq_false h1
      refine And.intro (fun h => by cases h) (fun _ => ?_)
      obtain ⟨n1, n2⟩ := hno (.inl (List.eq_nil_of_length_eq_zero (by omega)))
      exact ⟨L1 ++ R1, ⟨.cons rfl (.cons rfl (.cons rfl (.cons rfl (.cons rfl (.cons rfl (.cons rfl .nil)))))), rfl⟩, n1, .refl _, n2, hgV⟩
  clear hrV hgV V
  rintro S1 V ⟨q1, q2, hrV, hgV⟩
  have zs : S1.length = mid - a := by rw [q2.length_eq, List.length_append]; omega
  have fin : ∀ S2 Z, Srt O S2 → S2.Perm (L2 ++ R2) → RowM Z g sp ((A ++ fsts S1) ++ fsts S2 ++ B) → w.grownBy Z (some g) →
      (∃ ys, Srt O ys ∧ ys.Perm (l ++ r) ∧ RowM Z g sp (A ++ fsts ys ++ B)) ∧ w.grownBy Z (some g) := fun S2 Z c1 c2 c3 c4 => by
    obtain ⟨m1, m2⟩ := mrg_combine sl sr h12 h21 q1 q2 c1 c2
    rw [el, er] at m2
    exact ⟨⟨S1 ++ S2, m1, m2, by simpa [fsts] using c3⟩, c4⟩
  have hno : L2 = [] ∨ R2 = [] → Srt O (L2 ++ R2) ∧ RowM V g sp ((A ++ fsts S1) ++ fsts (L2 ++ R2) ++ B) := fun h => by
    refine ⟨?_, by simpa [fsts] using hrV⟩
    rcases h with h | h
    · rw [h]; exact (List.pairwise_append.1 sr).2.1
    · rw [h, List.append_nil]; exact (List.pairwise_append.1 sl).2.1
  refine And.intro (fun h1 => ?_) (fun h1 => ?_)
  · have h1 : (mid : Int) < (n - t : Nat) := of_decide_eq_true h1
    refine And.intro (fun h2 => ?_) (fun h2 => ?_)
    · have h2 : ((n - t : Nat) : Int) < b := of_decide_eq_true h2
      refine Calls.mono (ih mid (n - t) b (A ++ fsts S1) B L2 R2 V (by omega) (by omega) (by omega) (hC.keep _ _ hG hgV) hrV (List.pairwise_append.1 sl).2.1 (List.pairwise_append.1 sr).2.1 hX22 (by simp; omega) (by simp; omega) (by simp; omega) (by rw [hL, hrow0]; simp; omega)) ?_
      rintro e V2 ⟨⟨v, rfl⟩, ⟨S2, c1, c2, c3⟩, hgV2⟩
      exact And.intro ⟨_, rfl⟩ (fin S2 V2 c1 c2 c3 (grown_trans hgV hgV2))
    · have h2 : ¬ ((n - t : Nat) : Int) < b := of_decide_eq_false h2
      obtain ⟨n1, n2⟩ := hno (.inr (List.eq_nil_of_length_eq_zero (by omega)))
      exact And.intro ⟨_, rfl⟩ (fin _ V n1 (.refl _) n2 hgV)
  · have h1 : ¬ (mid : Int) < (n - t : Nat) := of_decide_eq_false h1
    refine And.intro (fun h => by cases h) (fun _ => ?_)
    obtain ⟨n1, n2⟩ := hno (.inl (List.eq_nil_of_length_eq_zero (by omega)))
    exact And.intro ⟨_, rfl⟩ (fin _ V n1 (.refl _) n2 hgV)

theorem sym_c (cp : Array Value) (O : MOrd Msg) (Good : World → Prop) (g cap L : Nat) (sp : List Value) (hC : CmpOk cp O g Good) (hl : L ≤ 1000000000) : ∀ N, SymGoal cp O Good g cap L sp N := by
  intro N
  induction N with
  | zero => exact fun _ _ _ _ _ l r _ h1 h2 _ => absurd h2 (by omega)
  | succ N ih =>
    intro a m b A B l r w hN hl0 hr0 hG hr hSl hSr hX ha hm hb hL
    by_cases h1 : l.length = 1
    · exact sym_l cp O Good g cap L sp hC hl a m b A B l r w h1 hl0 hr0 hG hr hSl hSr hX ha hm hb hL
    · by_cases h2 : r.length = 1
      · exact sym_r cp O Good g cap L sp hC hl a m b A B l r w h1 h2 hl0 hr0 hG hr hSl hSr hX ha hm hb hL
      · exact sym_m cp O Good g cap L sp hC hl N ih a m b A B l r w hN h1 h2 hl0 hr0 hG hr hSl hSr hX ha hm hb hL
end Go.Proofs.YtedeohcdcaimhaaGreatDoor
namespace Go.Proofs.YtedeohcdcaimhaaGreatDoor
open Go.Vc Go.RowKit Go.Sei

def Cross (c d : List (Tg Msg)) : Prop := ∀ x ∈ c, ∀ y ∈ d, x.2 < y.2
/-- Blocks of bs, each sorted, and a last one that is shorter. -/
structure Bks (O : MOrd Msg) (bs : Nat) (ls : List (List (Tg Msg))) (T : List (Tg Msg)) : Prop where
  len : ∀ c ∈ ls, c.length = bs
  srt : ∀ c ∈ ls, Srt O c
  last : T.length < bs
  slast : Srt O T
  cross : (ls ++ [T]).Pairwise Cross

theorem cross_swap {P Q : List (List (Tg Msg))} {c1 c2 S : List (Tg Msg)} (h : (P ++ c1 :: c2 :: Q).Pairwise Cross) (hS : S.Perm (c1 ++ c2)) : (P ++ S :: Q).Pairwise Cross := by
  have hm : ∀ x, x ∈ S ↔ x ∈ c1 ∨ x ∈ c2 := fun x => by rw [hS.mem_iff, List.mem_append]
  simp only [List.pairwise_append, List.pairwise_cons, List.mem_cons] at h ⊢
  obtain ⟨h1, ⟨h2, h3, h4⟩, h5⟩ := h
  refine ⟨h1, ⟨fun d hd x hx y hy => ?_, h4⟩, fun c hc d hd => ?_⟩
  · rcases (hm x).1 hx with hx | hx
    · exact h2 d (.inr hd) x hx y hy
    · exact h3 d hd x hx y hy
  · rcases hd with rfl | hd
    · intro x hx y hy
      rcases (hm y).1 hy with hy | hy
      · exact h5 c hc c1 (.inl rfl) x hx y hy
      · exact h5 c hc c2 (.inr (.inl rfl)) x hx y hy
    · exact h5 c hc d (.inr (.inr hd))
theorem cross_perm {P Q : List (List (Tg Msg))} {c S : List (Tg Msg)} (h : (P ++ c :: Q).Pairwise Cross) (hS : S.Perm c) : (P ++ S :: Q).Pairwise Cross := by
  simp only [List.pairwise_append, List.pairwise_cons, List.mem_cons] at h ⊢
  obtain ⟨h1, ⟨h2, h3⟩, h5⟩ := h
  refine ⟨h1, ⟨fun d hd x hx y hy => h2 d hd x (hS.mem_iff.1 hx) y hy, h3⟩, fun c' hc d hd => ?_⟩
  rcases hd with rfl | hd
  · exact fun x hx y hy => h5 c' hc c (.inl rfl) x hx y (hS.mem_iff.1 hy)
  · exact h5 c' hc d (.inr hd)
theorem cross_split {P : List (List (Tg Msg))} {c d : List (Tg Msg)} (h : (P ++ [c ++ d]).Pairwise Cross) (hcd : Cross c d) : (P ++ [c, d]).Pairwise Cross := by
  simp only [List.pairwise_append, List.pairwise_cons, List.mem_cons, List.not_mem_nil, or_false] at h ⊢
  obtain ⟨h1, _, h5⟩ := h
  refine ⟨h1, ⟨fun _ e => e ▸ hcd, fun _ h => h.elim, List.Pairwise.nil⟩, fun c' hc e he => ?_⟩
  rcases he with rfl | rfl
  · exact fun x hx y hy => h5 c' hc _ rfl x hx y (List.mem_append_left _ hy)
  · exact fun x hx y hy => h5 c' hc _ rfl x hx y (List.mem_append_right _ hy)
theorem cross_mid {P Q : List (List (Tg Msg))} {c d : List (Tg Msg)} (h : (P ++ c :: d :: Q).Pairwise Cross) : Cross c d :=
  (List.pairwise_cons.1 (List.pairwise_append.1 h).2.1).1 d List.mem_cons_self

abbrev stEnv (cp : Array Value) (g cap L : Nat) : VEnv := [(0, .slice (some ⟨g, 0, none⟩) L cap), (1, .int .i64 L), (2, .func (.func 85) #[] cp)]

theorem stable_c (cp : Array Value) (O : MOrd Msg) (Good : World → Prop) (g cap L : Nat) (sp : List Value) (xs : List (Tg Msg)) (w : World) (hC : CmpOk cp O g Good) (hl : L ≤ 1000000000) (hG : Good w)
    (hr : RowM w g sp (fsts xs)) (ht : xs.Pairwise (fun x y => x.2 < y.2)) (hL : L = xs.length) :
    Calls Tryz.prog 102 #[.slice (some ⟨g, 0, none⟩) L cap, .int .i64 L, .func (.func 85) #[] cp] w
      fun e w' => (∃ v, e = .returned v) ∧ (∃ ys, Srt O ys ∧ ys.Perm xs ∧ RowM w' g sp (fsts ys)) ∧ w.grownBy w' (some g) := by
  refine calls_of_M (S := sg 63) (sgOk _) (args := [.slice (some ⟨g, 0, none⟩) L cap, .int .i64 L, .func (.func 85) #[] cp]) (.s .p (.s .p (.s .p (.c .p (.b (.l (.s .p (.b (.s .p (.c .p (.c .p .p)))))))))))
    Tryz.func102 rfl rfl (Nat.le_of_ble_eq_true rfl) rfl ?_
  refine ⟨List (List (Tg Msg)) × List (Tg Msg), fun s => ⟨stEnv cp g cap L ++ [(6, .int .i64 20), (7, .int .i64 s.1.flatten.length), (8, .int .i64 (s.1.flatten.length + 20 : Nat))], []⟩,
    fun s V => (∀ c ∈ s.1, c.length = 20) ∧ (∀ c ∈ s.1, Srt O c) ∧ (s.1 ++ [s.2]).Pairwise Cross ∧ s.2.Pairwise (fun x y => x.2 < y.2) ∧ (s.1.flatten ++ s.2).Perm xs ∧ RowM V g sp (fsts (s.1.flatten ++ s.2)) ∧ w.grownBy V (some g),
    fun s => s.2.length, ([], xs), ⟨.cons rfl (.cons rfl (.cons rfl (.cons rfl (.cons rfl (.cons rfl .nil))))), rfl⟩, ⟨by simp, by simp, by simp, ht, by simp, by simpa using hr, grown_refl _ _⟩, ?_⟩
  rintro ⟨ls, R⟩ V ⟨i1, i2, i3, i4, i5, hrV, hgV⟩
  dsimp only at i1 i2 i3 i4 i5 hrV
  have hln : ls.flatten.length + R.length = L := by rw [hL, ← i5.length_eq, List.length_append]
  refine And.intro (fun h => ?_) (fun h => ?_)
  · have h : ((ls.flatten.length + 20 : Nat) : Int) ≤ L := of_decide_eq_true h
    obtain ⟨X, hX⟩ : ∃ X, X = R.take 20 := ⟨_, rfl⟩
    obtain ⟨Y, hY⟩ : ∃ Y, Y = R.drop 20 := ⟨_, rfl⟩
    have hXY : X ++ Y = R := by rw [hX, hY]; exact List.take_append_drop _ _
    have hXl : X.length = 20 := by rw [hX, List.length_take]; omega
    rw [← hXY] at hrV i4 i5 i3
    have i4' := List.pairwise_append.1 i4
    refine Calls.mono (insertion_c cp O Good g cap ls.flatten.length (ls.flatten.length + 20) L sp (fsts ls.flatten) (fsts Y) X V (hC.keep _ _ hG hgV) hC (by simpa [fsts] using hrV) i4'.1 (List.length_map _) (by simp only [fsts, List.length_map, List.length_append]; omega) (by rw [← hXY] at hln; simp only [fsts, List.length_map, List.length_append] at hln ⊢; omega) hl) ?_
    rintro e V2 ⟨⟨v, rfl⟩, ⟨S, q1, q2, q3⟩, hgV2⟩
    have hSl : S.length = 20 := by rw [q2.length_eq, hXl]
    have hfl : (ls ++ [S]).flatten = ls.flatten ++ S := by simp
    refine ⟨(ls.flatten.length + 20 + 20 : Nat), (wrap_i64 (by first | omega | (dsimp only; omega))).trans (by first | omega | (dsimp only; omega)), ?_⟩
    refine ⟨(ls ++ [S], Y), ⟨.cons rfl (.cons rfl (.cons rfl (.cons rfl (.cons (by dsimp only; rw [hfl, List.length_append, hSl]; rfl) (.cons (by dsimp only; rw [hfl, List.length_append, hSl]; rfl) .nil))))), rfl⟩, ⟨?_, ?_, ?_, i4'.2.1, ?_, ?_, grown_trans hgV hgV2⟩, ?_⟩
    · intro c hc
      rcases List.mem_append.1 hc with hc | hc
      · exact i1 c hc
      · simp at hc; rw [hc]; exact hSl
    · intro c hc
      rcases List.mem_append.1 hc with hc | hc
      · exact i2 c hc
      · simp at hc; rw [hc]; exact q1
    · have := cross_perm (cross_split i3 i4'.2.2) q2
      simpa using this
    · dsimp only; rw [hfl, List.append_assoc]
      exact (List.Perm.append_left _ (List.Perm.append_right _ q2)).trans i5
    · dsimp only; rw [hfl]; simpa [fsts] using q3
    · rw [← hXY]; simp; omega
  have h : ¬ ((ls.flatten.length + 20 : Nat) : Int) ≤ L := of_decide_eq_false h
  refine ⟨List (List (Tg Msg)) × List (Tg Msg), fun s => ⟨stEnv cp g cap L ++ [(6, .int .i64 20)], []⟩,
    fun s V => Bks O 20 s.1 s.2 ∧ (s.1.flatten ++ s.2).Perm xs ∧ RowM V g sp (fsts (s.1.flatten ++ s.2)) ∧ w.grownBy V (some g), ?_, ?_⟩
  · refine Calls.mono (insertion_c cp O Good g cap ls.flatten.length L L sp (fsts ls.flatten) [] R V (hC.keep _ _ hG hgV) hC (by simpa [fsts] using hrV) i4 (List.length_map _) (by simp only [fsts, List.length_map, List.length_append]; omega) (by simp only [fsts, List.length_map, List.length_append, List.length_nil]; omega) hl) ?_
    rintro e V2 ⟨⟨v, rfl⟩, ⟨S, q1, q2, q3⟩, hgV2⟩
    refine ⟨(ls, S), ⟨.cons rfl (.cons rfl (.cons rfl (.cons rfl .nil))), rfl⟩, ⟨i1, i2, by rw [q2.length_eq]; omega, q1, cross_perm i3 q2⟩, (List.Perm.append_left _ q2).trans i5, by simpa [fsts] using q3, grown_trans hgV hgV2⟩
  rintro ⟨ls, T⟩ V ⟨hB, hP, hrV, hgV⟩
  refine ⟨Nat × List (List (Tg Msg)) × List (Tg Msg), fun s => ⟨stEnv cp g cap L ++ [(6, .int .i64 s.1)], []⟩,
    fun s V => 0 < s.1 ∧ s.1 ≤ 2000000000 ∧ Bks O s.1 s.2.1 s.2.2 ∧ (s.2.1.flatten ++ s.2.2).Perm xs ∧ RowM V g sp (fsts (s.2.1.flatten ++ s.2.2)) ∧ w.grownBy V (some g), fun s => L - s.1, (20, ls, T),
    ⟨.cons rfl (.cons rfl (.cons rfl (.cons rfl .nil))), rfl⟩, ⟨by dsimp only; omega, by dsimp only; omega, hB, hP, hrV, hgV⟩, ?_⟩
  rintro ⟨bs, ls, T⟩ V ⟨hb0, hb1, hB, hP, hrV, hgV⟩
  dsimp only at hb0 hb1 hB hP hrV
  have hln : ls.flatten.length + T.length = L := by rw [hL, ← hP.length_eq, List.length_append]
  refine And.intro (fun h => ?_) (fun h => ?_)
  · have h : (bs : Int) < L := of_decide_eq_true h
    refine ⟨(2 * bs : Nat), (wrap_i64 (by first | omega | (dsimp only; omega))).trans (by first | omega | (dsimp only; omega)), ?_⟩
    refine ⟨List (List (Tg Msg)) × List (List (Tg Msg)), fun s => ⟨stEnv cp g cap L ++ [(6, .int .i64 bs), (7, .int .i64 s.1.flatten.length)], []⟩,
      fun s V => (∀ c ∈ s.1, c.length = 2 * bs) ∧ (∀ c ∈ s.1, Srt O c) ∧ (∀ c ∈ s.2, c.length = bs) ∧ (∀ c ∈ s.2, Srt O c) ∧ s.2.length ≤ 1 ∧ (s.1 ++ (s.2 ++ [T])).Pairwise Cross ∧
        (s.1.flatten ++ (s.2.flatten ++ T)).Perm xs ∧ RowM V g sp (fsts (s.1.flatten ++ (s.2.flatten ++ T))) ∧ w.grownBy V (some g), ?_, ?_⟩
    · refine ⟨List (List (Tg Msg)) × List (List (Tg Msg)), fun s => ⟨stEnv cp g cap L ++ [(6, .int .i64 bs), (7, .int .i64 s.1.flatten.length), (8, .int .i64 (s.1.flatten.length + 2 * bs : Nat))], []⟩,
        fun s V => (∀ c ∈ s.1, c.length = 2 * bs) ∧ (∀ c ∈ s.1, Srt O c) ∧ (∀ c ∈ s.2, c.length = bs) ∧ (∀ c ∈ s.2, Srt O c) ∧ (s.1 ++ (s.2 ++ [T])).Pairwise Cross ∧
          (s.1.flatten ++ (s.2.flatten ++ T)).Perm xs ∧ RowM V g sp (fsts (s.1.flatten ++ (s.2.flatten ++ T))) ∧ w.grownBy V (some g), fun s => s.2.length, ([], ls),
        ⟨.cons rfl (.cons rfl (.cons rfl (.cons rfl (.cons rfl (.cons (by dsimp only; rw [show (([] : List (List (Tg Msg))).flatten.length + 2 * bs) = 2 * bs from Nat.zero_add _]; rfl) .nil))))), rfl⟩, ⟨by simp, by simp, hB.len, hB.srt, by simpa using hB.cross, by simpa using hP, by simpa using hrV, hgV⟩, ?_⟩
      rintro ⟨ds, rs⟩ V ⟨i1, i2, i3, i4, i5, hP, hrV, hgV⟩
      dsimp only at i1 i2 i3 i4 i5 hP hrV
      have hlen : ds.flatten.length + (rs.flatten.length + T.length) = L := by rw [hL, ← hP.length_eq, List.length_append, List.length_append]
      refine And.intro (fun h => ?_) (fun h => ?_)
      · have h : ((ds.flatten.length + 2 * bs : Nat) : Int) ≤ L := of_decide_eq_true h
        have hTl := hB.last
        match rs, i3, i4, i5, hP, hrV, hlen with
        | [], _, _, _, _, _, hlen => simp only [List.flatten_cons, List.flatten_nil, List.append_nil, List.length_nil] at hlen; omega
        | [c], i3, _, _, _, _, hlen => have := i3 c (by simp); simp only [List.flatten_cons, List.flatten_nil, List.append_nil, List.length_nil] at hlen; omega
        | c1 :: c2 :: rs, i3, i4, i5, hP, hrV, hlen =>
          have l1 := i3 c1 (by simp)
          have l2 := i3 c2 (by simp)
          have e1 : ds.flatten ++ ((c1 :: c2 :: rs).flatten ++ T) = ds.flatten ++ c1 ++ c2 ++ (rs.flatten ++ T) := by simp
          simp only [List.flatten_cons, List.length_append] at hlen
          rw [e1] at hrV hP
          refine ⟨(ds.flatten.length + bs : Nat), (wrap_i64 (by first | omega | (dsimp only; omega))).trans (by first | omega | (dsimp only; omega)), ?_⟩
          refine Calls.mono (sym_c cp O Good g cap L sp hC hl (c1.length + c2.length) ds.flatten.length (ds.flatten.length + bs) (ds.flatten.length + 2 * bs) (fsts ds.flatten) (fsts (rs.flatten ++ T)) c1 c2 V (Nat.le_refl _) (by omega) (by omega) (hC.keep _ _ hG hgV)
            (by simpa [fsts] using hrV) (i4 c1 (by simp)) (i4 c2 (by simp)) (cross_mid (P := ds) (Q := rs ++ [T]) (by simpa using i5)) (List.length_map _) (by simp only [fsts, List.length_map, List.length_append]; omega) (by simp only [fsts, List.length_map, List.length_append]; omega) (by simp only [fsts, List.length_map, List.length_append, List.length_nil]; omega)) ?_
          rintro e V2 ⟨⟨v, rfl⟩, ⟨S, q1, q2, q3⟩, hgV2⟩
          have hSl : S.length = 2 * bs := by rw [q2.length_eq, List.length_append]; omega
          have hfl : (ds ++ [S]).flatten = ds.flatten ++ S := by simp
          refine ⟨(2 * bs : Nat), (wrap_i64 (by first | omega | (dsimp only; omega))).trans (by first | omega | (dsimp only; omega)), ?_⟩
          refine ⟨(ds.flatten.length + 2 * bs + 2 * bs : Nat), (wrap_i64 (by first | omega | (dsimp only; omega))).trans (by first | omega | (dsimp only; omega)), ?_⟩
          refine ⟨(ds ++ [S], rs), ⟨.cons rfl (.cons rfl (.cons rfl (.cons rfl (.cons (by dsimp only; rw [hfl, List.length_append, hSl]; rfl) (.cons (by dsimp only; rw [hfl, List.length_append, hSl]; rfl) .nil))))), rfl⟩,
            ⟨?_, ?_, fun c hc => i3 c (by simp [hc]), fun c hc => i4 c (by simp [hc]), ?_, ?_, ?_, grown_trans hgV hgV2⟩, by dsimp only; simp only [List.length_cons]; omega⟩
          · intro c hc
            rcases List.mem_append.1 hc with hc | hc
            · exact i1 c hc
            · simp at hc; rw [hc]; exact hSl
          · intro c hc
            rcases List.mem_append.1 hc with hc | hc
            · exact i2 c hc
            · simp at hc; rw [hc]; exact q1
          · have := cross_swap (P := ds) (Q := rs ++ [T]) (by simpa using i5) q2
            simpa using this
          · dsimp only; rw [hfl]
            refine List.Perm.trans ?_ hP
            rw [List.append_assoc, List.append_assoc, List.append_assoc, ← List.append_assoc c1]
            exact List.Perm.append_left _ (List.Perm.append_right _ q2)
          · dsimp only; rw [hfl]; simpa [fsts] using q3
      · have h : ¬ ((ds.flatten.length + 2 * bs : Nat) : Int) ≤ L := of_decide_eq_false h
        refine ⟨(ds, rs), ⟨.cons rfl (.cons rfl (.cons rfl (.cons rfl (.cons rfl .nil)))), rfl⟩, i1, i2, i3, i4, ?_, i5, hP, hrV, hgV⟩
        match rs, i3, hlen with
        | [], _, _ => simp
        | [c], _, _ => simp
        | c1 :: c2 :: rs, i3, hlen =>
          have l1 := i3 c1 (by simp)
          have l2 := i3 c2 (by simp)
          simp only [List.flatten_cons, List.length_append] at hlen
          omega
    rintro ⟨ds, rs⟩ V ⟨i1, i2, i3, i4, i6, i5, hP, hrV, hgV⟩
    dsimp only at i1 i2 i3 i4 i5 i6 hP hrV
    have hlen : ds.flatten.length + (rs.flatten.length + T.length) = L := by rw [hL, ← hP.length_eq, List.length_append, List.length_append]
    have hTl := hB.last
    refine ⟨List (Tg Msg), fun _ => ⟨stEnv cp g cap L ++ [(6, .int .i64 bs)], []⟩,
      fun T' V => Bks O (2 * bs) ds T' ∧ (ds.flatten ++ T').Perm xs ∧ RowM V g sp (fsts (ds.flatten ++ T')) ∧ w.grownBy V (some g), ?_, ?_⟩
    rotate_left
    · rintro T' V ⟨hB', hP', hrV', hgV'⟩
      refine ⟨(2 * bs : Nat), (wrap_i64 (by first | omega | (dsimp only; omega))).trans (by first | omega | (dsimp only; omega)), ?_⟩
      exact ⟨(2 * bs, ds, T'), ⟨.cons rfl (.cons rfl (.cons rfl (.cons rfl .nil))), rfl⟩, ⟨by dsimp only; omega, by dsimp only; omega, hB', hP', hrV', hgV'⟩, by dsimp only; omega⟩
    refine ⟨(ds.flatten.length + bs : Nat), (wrap_i64 (by first | omega | (dsimp only; omega))).trans (by first | omega | (dsimp only; omega)), ?_⟩
    refine And.intro (fun h => ?_) (fun h => ?_)
    · have h : ((ds.flatten.length + bs : Nat) : Int) < L := of_decide_eq_true h
      match rs, i3, i4, i5, hP, hrV, hlen with
      | [], _, _, _, _, _, hlen => simp only [List.flatten_cons, List.flatten_nil, List.append_nil, List.length_nil] at hlen; omega
      | c1 :: c2 :: rs, _, _, _, _, _, _ => simp at i6
      | [c], i3, i4, i5, hP, hrV, hlen =>
        have l1 := i3 c (by simp)
        have e1 : ds.flatten ++ ([c].flatten ++ T) = ds.flatten ++ c ++ T := by simp
        simp only [List.flatten_cons, List.flatten_nil, List.append_nil] at hlen
        rw [e1] at hrV hP
        refine Calls.mono (sym_c cp O Good g cap L sp hC hl (c.length + T.length) ds.flatten.length (ds.flatten.length + bs) L (fsts ds.flatten) [] c T V (Nat.le_refl _) (by omega) (by omega) (hC.keep _ _ hG hgV)
          (by simpa [fsts] using hrV) (i4 c (by simp)) hB.slast (cross_mid (P := ds) (Q := []) (by simpa using i5)) (List.length_map _) (by simp only [fsts, List.length_map, List.length_append]; omega) (by simp only [fsts, List.length_map, List.length_append]; omega) (by simp only [fsts, List.length_map, List.length_append, List.length_nil]; omega)) ?_
        rintro e V2 ⟨⟨v, rfl⟩, ⟨S, q1, q2, q3⟩, hgV2⟩
        refine ⟨S, ⟨.cons rfl (.cons rfl (.cons rfl (.cons rfl .nil))), rfl⟩, ⟨i1, i2, by rw [q2.length_eq, List.length_append]; omega, q1, cross_swap (P := ds) (Q := []) (by simpa using i5) q2⟩, ?_, by simpa [fsts] using q3, grown_trans hgV hgV2⟩
        refine List.Perm.trans ?_ hP
        rw [List.append_assoc]
        exact List.Perm.append_left _ q2
    · have h : ¬ ((ds.flatten.length + bs : Nat) : Int) < L := of_decide_eq_false h
      match rs, i3, i4, i5, hP, hrV, hlen with
      | c1 :: c2 :: rs, _, _, _, _, _, _ => simp at i6
      | [], _, _, i5, hP, hrV, hlen =>
        exact ⟨T, ⟨.cons rfl (.cons rfl (.cons rfl (.cons rfl .nil))), rfl⟩, ⟨i1, i2, by omega, hB.slast, by simpa using i5⟩, by simpa using hP, by simpa using hrV, hgV⟩
      | [c], i3, i4, i5, hP, hrV, hlen =>
        have l1 := i3 c (by simp)
        simp only [List.flatten_cons, List.flatten_nil, List.append_nil] at hlen
        have hT : T = [] := List.eq_nil_of_length_eq_zero (by omega)
        refine ⟨c, ⟨.cons rfl (.cons rfl (.cons rfl (.cons rfl .nil))), rfl⟩, ⟨i1, i2, by omega, i4 c (by simp), ?_⟩, by simpa [hT] using hP, by simpa [hT] using hrV, hgV⟩
        have := cross_swap (P := ds) (Q := []) (c1 := c) (c2 := T) (S := c) (by simpa using i5) (by rw [hT, List.append_nil])
        exact this
  · have h : ¬ (bs : Int) < L := of_decide_eq_false h
    have hTl := hB.last
    refine And.intro ⟨_, rfl⟩ (And.intro ?_ hgV)
    match ls, hB, hP, hrV, hln with
    | [], hB, hP, hrV, hln => exact ⟨T, hB.slast, by simpa using hP, by simpa using hrV⟩
    | [c], hB, hP, hrV, hln =>
      have l1 := hB.len c (by simp)
      simp only [List.flatten_cons, List.flatten_nil, List.append_nil] at hln
      have hT : T = [] := List.eq_nil_of_length_eq_zero (by omega)
      exact ⟨c, hB.srt c (by simp), by simpa [hT] using hP, by simpa [hT] using hrV⟩
    | c1 :: c2 :: rs, hB, hP, hrV, hln =>
      have l1 := hB.len c1 (by simp)
      have l2 := hB.len c2 (by simp)
      simp only [List.flatten_cons, List.length_append] at hln
      omega

theorem sortStable_c (cp : Array Value) (O : MOrd Msg) (Good : World → Prop) (g cap L : Nat) (sp : List Value) (xs : List (Tg Msg)) (w : World) (hC : CmpOk cp O g Good) (hl : L ≤ 1000000000) (hG : Good w)
    (hr : RowM w g sp (fsts xs)) (ht : xs.Pairwise (fun x y => x.2 < y.2)) (hL : L = xs.length) :
    Calls Tryz.prog 84 #[.slice (some ⟨g, 0, none⟩) L cap, .func (.func 85) #[] cp] w
      fun e w' => (∃ v, e = .returned v) ∧ (∃ ys, Srt O ys ∧ ys.Perm xs ∧ RowM w' g sp (fsts ys)) ∧ w.grownBy w' (some g) := by
  refine calls_of_E (S := sg 9) (sgOk _) (args := [.slice (some ⟨g, 0, none⟩) L cap, .func (.func 85) #[] cp]) Tryz.func84 rfl rfl (Nat.le_of_ble_eq_true rfl) rfl ?_
  refine Calls.mono (stable_c cp O Good g cap L sp xs w hC hl hG hr ht hL) ?_
  rintro e V ⟨⟨v, rfl⟩, h1, h2⟩
  exact And.intro ⟨_, rfl⟩ (And.intro h1 h2)
end Go.Proofs.YtedeohcdcaimhaaGreatDoor
namespace Go.Proofs.YtedeohcdcaimhaaGreatDoor
open Go.Vc Go.RowKit Go.Sei

theorem isNaN_c (x : UInt8) (w : World) : Calls Tryz.prog 112 #[u8 x] w fun e w' => e = .returned (.bool false) ∧ w = w' := by
  refine calls_of_E (S := sg 6) (sgOk _) (args := [u8 x]) Tryz.func112 rfl rfl (Nat.le_of_ble_eq_true rfl) rfl ?_
  exact And.intro (rb (by simp)) rfl

theorem Compare8_c (x y : UInt8) (w : World) : Calls Tryz.prog 104 #[u8 x, u8 y] w fun e w' => e = .returned (.int .i64 (cmp8 x y)) ∧ w = w' := by
  refine calls_of_E (S := sg 20) (sgOk _) (args := [u8 x, u8 y]) Tryz.func104 rfl rfl (Nat.le_of_ble_eq_true rfl) rfl ?_
  refine Calls.mono (isNaN_c x w) ?_
  rintro e w' ⟨rfl, rfl⟩
  refine Calls.mono (isNaN_c y w) ?_
  rintro e w' ⟨rfl, rfl⟩
  refine And.intro (fun h => by cases h) (fun _ => ?_)
  refine And.intro (fun h => by cases h) (fun _ => ?_)
  refine And.intro (fun h => ?_) (fun h => ?_)
  · have h : (x.toNat : Int) < y.toNat := of_decide_eq_true h
    exact And.intro (ri (by unfold cmp8; rw [if_pos (by omega)])) rfl
  · have h : ¬ (x.toNat : Int) < y.toNat := of_decide_eq_false h
    refine And.intro (fun h2 => ?_) (fun h2 => ?_)
    · have h2 : (y.toNat : Int) < x.toNat := of_decide_eq_true h2
      exact And.intro (ri (by unfold cmp8; rw [if_neg (by omega), if_pos (by omega)])) rfl
    · have h2 : ¬ (y.toNat : Int) < x.toNat := of_decide_eq_false h2
      exact And.intro (ri (by unfold cmp8; rw [if_neg (by omega), if_neg (by omega)])) rfl

theorem CompareL_c (p1 p2 : Option Addr) (cap1 cap2 : Nat) (l1 l2 : List UInt8) (w : World) (h1 : SlR byteE w p1 l1) (h2 : SlR byteE w p2 l2) (hn : l1.length ≤ 1000000000) :
    Calls Tryz.prog 87 #[.slice p1 l1.length cap1, .slice p2 l2.length cap2] w fun e w' => e = .returned (.int .i64 (cmpL l1 l2)) ∧ w = w' := by
  refine calls_of_E (S := sg 36) (sgOk _) (args := [.slice p1 l1.length cap1, .slice p2 l2.length cap2]) Tryz.func87 rfl rfl (Nat.le_of_ble_eq_true rfl) rfl ?_
  refine ⟨Nat, fun k => ⟨[(0, .slice p1 l1.length cap1), (1, .slice p2 l2.length cap2), (4, .int .i64 0), (9, .slice p1 l1.length cap1), (10, .int .i64 l1.length), (11, .int .i64 (k : Nat))], []⟩,
    fun k X => k ≤ l1.length ∧ k ≤ l2.length ∧ X = w ∧ l1.take k = l2.take k, fun k => l1.length - k, 0, ⟨.cons rfl (.cons rfl (.cons rfl (.cons rfl (.cons rfl (.cons rfl .nil))))), rfl⟩, ⟨Nat.zero_le _, Nat.zero_le _, rfl, by simp⟩, ?_⟩
  rintro k X ⟨hk, hk2, rfl, hm⟩
  have hcd := cmpL_drop l1 l2 k hk hk2 hm
  refine And.intro (fun h => ?_) (fun h => ?_)
  · have h : (k : Int) < l1.length := of_decide_eq_true h
    have hkl : k < l1.length := by omega
    have hd1 : l1.drop k = l1[k] :: l1.drop (k + 1) := List.drop_eq_getElem_cons hkl
    obtain ⟨b1, o1, rfl, hb1, hc1⟩ := byte_at h1 hkl
    refine ⟨k, rfl, hkl, ?_⟩
    refine ⟨_, hc1, ?_⟩
    refine And.intro (fun h => ?_) (fun h => ?_)
    · have h : (l2.length : Int) ≤ k := of_decide_eq_true h
      refine And.intro (ri ?_) rfl
      have hd2 : l2.drop k = [] := List.drop_of_length_le (by omega)
      rw [hcd, hd1, hd2]; rfl
    · have h : ¬ (l2.length : Int) ≤ k := of_decide_eq_false h
      have hkl2 : k < l2.length := by omega
      have hd2 : l2.drop k = l2[k] :: l2.drop (k + 1) := List.drop_eq_getElem_cons hkl2
      obtain ⟨b2, o2, rfl, hb2, hc2⟩ := byte_at h2 hkl2
      refine ⟨k, rfl, hkl2, ?_⟩
      refine ⟨_, hc2, ?_⟩
      refine Calls.mono (Compare8_c l1[k] l2[k] X) ?_
      rintro e w' ⟨rfl, rfl⟩
      refine And.intro (fun h => ?_) (fun h => ?_)
      · have h : ¬ cmp8 l1[k] l2[k] = 0 := by simpa using h
        have hne : l1[k] ≠ l2[k] := fun e => h (by rw [e]; exact cmp8_self _)
        refine And.intro (ri ?_) rfl
        rw [hcd, hd1, hd2, cmpL, if_neg hne]
      · have h : cmp8 l1[k] l2[k] = 0 := by simpa using h
        have he : l1[k] = l2[k] := Decidable.byContradiction fun hne => cmp8_ne hne h
        refine ⟨(k + 1 : Nat), (wrap_i64 (by omega)).trans (by omega), ?_⟩
        refine ⟨k + 1, ⟨.cons rfl (.cons rfl (.cons rfl (.cons rfl (.cons rfl (.cons rfl .nil))))), rfl⟩, ⟨hkl, hkl2, rfl, ?_⟩, by dsimp only; omega⟩
        rw [List.take_succ_eq_append_getElem hkl, List.take_succ_eq_append_getElem hkl2, hm, he]
  · have h : ¬ (k : Int) < l1.length := of_decide_eq_false h
    refine And.intro (fun h2 => ?_) (fun h2 => ?_)
    · have h2 : (l1.length : Int) < l2.length := of_decide_eq_true h2
      refine And.intro (ri ?_) rfl
      have hd1 : l1.drop k = [] := List.drop_of_length_le (by omega)
      have hd2 : l2.drop k = l2[k] :: l2.drop (k + 1) := List.drop_eq_getElem_cons (by omega)
      rw [hcd, hd1, hd2]; rfl
    · have h2 : ¬ (l1.length : Int) < l2.length := of_decide_eq_false h2
      refine And.intro (ri ?_) rfl
      have hd1 : l1.drop k = [] := List.drop_of_length_le (by omega)
      have hd2 : l2.drop k = [] := List.drop_of_length_le (by omega)
      rw [hcd, hd1, hd2]; rfl
end Go.Proofs.YtedeohcdcaimhaaGreatDoor
namespace Go.Proofs.YtedeohcdcaimhaaGreatDoor
open Go.Vc Go.RowKit Go.Sei

theorem Less_c (a b : Msg) (w : World) : Calls Tryz.prog 88 #[a.val, b.val] w fun e w' => e = .returned (.bool (decide (cmpL (codeOf a) (codeOf b) < 0))) ∧ Below w.heap.size w w' := by
  refine calls_of_M (S := sg 15) (sgOk _) (args := [a.val, b.val]) (.s .p (.c .p .p)) Tryz.func88 rfl rfl (Nat.le_of_ble_eq_true rfl) rfl ?_
  have hb1 : Below w.heap.size w ((w.alloc (.cells a.val.cells 107)).alloc (.cells b.val.cells 107)) := ((Below.refl _ _).alloc (Nat.le_refl _) _).alloc (by simp) _
  have c1 := cells_block (hold (.cells b.val.cells 107) (hnew w (.cells a.val.cells 107)))
  have c2 := cells_block (hnew (w.alloc (.cells a.val.cells 107)) (.cells b.val.cells 107))
  refine ⟨Nat × Nat, fun s => ⟨[(5, .pointer (some ⟨s.1, 0, none⟩)), (6, .pointer (some ⟨s.2, 0, none⟩))], []⟩,
    fun s V => V.heap[s.1]? = some (.cells ((codeOf a).map u8).toArray 169 (0, 0)) ∧ V.heap[s.2]? = some (.cells ((codeOf b).map u8).toArray 169 (0, 0)) ∧ Below w.heap.size w V, ?_, ?_⟩
  rotate_left
  · rintro ⟨g, k⟩ V ⟨f1, f2, hb⟩
    have hb' := hb.drew
    have f1' := hdr f1
    have f2' := hdr f2
    refine DrawE.ord [] [0, 1, 2, 3, 4] (by kernel_rfl) ?_
    refine Calls.mono (CompareL_c _ _ _ _ (codeOf a) (codeOf b) _ (bytes_row f1') (bytes_row f2') (Nat.le_of_ble_eq_true rfl)) ?_
    rintro _ _ ⟨rfl, rfl⟩
    refine ⟨Below.refl _ _, ?_⟩
    exact And.intro rfl hb'
  refine DrawE.tree [6, 7] (.op 0 (.op 2 (.alt (.op 1 (.alt (.op 3 (.alt (.op 4 (.op 5 (.op 6 (.op 7 (.nil))))) (.op 5 (.op 4 (.op 6 (.op 7 (.nil))))))) (.alt (.op 4 (.alt (.op 3 (.op 5 (.op 6 (.op 7 (.nil))))) (.op 5 (.op 3 (.op 6 (.op 7 (.nil))))))) (.op 5 (.alt (.op 3 (.op 4 (.op 6 (.op 7 (.nil))))) (.op 4 (.op 3 (.op 6 (.op 7 (.nil)))))))))) (.alt (.op 4 (.alt (.op 1 (.alt (.op 3 (.op 5 (.op 6 (.op 7 (.nil))))) (.op 5 (.op 3 (.op 6 (.op 7 (.nil))))))) (.op 5 (.op 1 (.op 3 (.op 6 (.op 7 (.nil)))))))) (.op 5 (.alt (.op 1 (.alt (.op 3 (.op 4 (.op 6 (.op 7 (.nil))))) (.op 4 (.op 3 (.op 6 (.op 7 (.nil))))))) (.op 4 (.op 1 (.op 3 (.op 6 (.op 7 (.nil)))))))))))) (by kernel_rfl) ?_
  obtain ⟨W, hW⟩ : ∃ W, W = ((w.alloc (.cells a.val.cells 107)).alloc (.cells b.val.cells 107)).drew := ⟨_, rfl⟩
  have hbW : Below w.heap.size w W := hW ▸ hb1.drew
  rw [← hW]
  refine ⟨a.enc, rfl, by rw [hW]; exact c1, by rw [hW]; simp [World.drew]; omega, ?_⟩
  refine ⟨b.enc, rfl, by rw [hW]; exact c2, by rw [hW]; simp [World.drew], ?_⟩
  clear hW c1 c2 hb1
  refine And.intro ?_ ?_
  · refine Calls.mono (code_c a _) ?_
    rintro _ V1 ⟨rfl, hb1⟩
    refine ⟨hb1, ?_⟩
    have hw1 := hbW.trans (hb1.mono hbW.size)
    refine And.intro ?_ ?_
    · refine Calls.mono (code_c b _) ?_
      rintro _ V2 ⟨rfl, hb2⟩
      refine ⟨hb2, ?_⟩
      have hw2 := hw1.trans (hb2.mono hw1.size)
      refine And.intro ?_ ?_
      · have hb3 : Below V2.heap.size V2 (V2.alloc (.cells #[.int .u8 0, .int .u8 0, .int .u8 0, .int .u8 0, .int .u8 0, .int .u8 0, .int .u8 0, .int .u8 0, .int .u8 0, .int .u8 0, .int .u8 0] 169)) := (Below.refl _ _).alloc (Nat.le_refl _) _
        refine ⟨hb3, ?_⟩
        have hw3 := hw2.trans (hb3.mono hw2.size)
        have hx3 := hnew V2 (.cells #[.int .u8 0, .int .u8 0, .int .u8 0, .int .u8 0, .int .u8 0, .int .u8 0, .int .u8 0, .int .u8 0, .int .u8 0, .int .u8 0, .int .u8 0] 169)
        have lhx := hw2.size
        have hb4 : Below (V2.alloc (.cells #[.int .u8 0, .int .u8 0, .int .u8 0, .int .u8 0, .int .u8 0, .int .u8 0, .int .u8 0, .int .u8 0, .int .u8 0, .int .u8 0, .int .u8 0] 169)).heap.size (V2.alloc (.cells #[.int .u8 0, .int .u8 0, .int .u8 0, .int .u8 0, .int .u8 0, .int .u8 0, .int .u8 0, .int .u8 0, .int .u8 0, .int .u8 0, .int .u8 0] 169)) ((V2.alloc (.cells #[.int .u8 0, .int .u8 0, .int .u8 0, .int .u8 0, .int .u8 0, .int .u8 0, .int .u8 0, .int .u8 0, .int .u8 0, .int .u8 0, .int .u8 0] 169)).alloc (.cells #[.int .u8 0, .int .u8 0, .int .u8 0, .int .u8 0, .int .u8 0, .int .u8 0, .int .u8 0, .int .u8 0, .int .u8 0, .int .u8 0, .int .u8 0] 169)) := (Below.refl _ _).alloc (Nat.le_refl _) _
        refine ⟨hb4, ?_⟩
        have hw4 := hw3.trans (hb4.mono hw3.size)
        have hlt12 : V2.heap.size < (V2.alloc (.cells #[.int .u8 0, .int .u8 0, .int .u8 0, .int .u8 0, .int .u8 0, .int .u8 0, .int .u8 0, .int .u8 0, .int .u8 0, .int .u8 0, .int .u8 0] 169)).heap.size := hlt hx3
        have hx4 := block_below hb4 hx3
        have hy4 := hnew (V2.alloc (.cells #[.int .u8 0, .int .u8 0, .int .u8 0, .int .u8 0, .int .u8 0, .int .u8 0, .int .u8 0, .int .u8 0, .int .u8 0, .int .u8 0, .int .u8 0] 169)) (.cells #[.int .u8 0, .int .u8 0, .int .u8 0, .int .u8 0, .int .u8 0, .int .u8 0, .int .u8 0, .int .u8 0, .int .u8 0, .int .u8 0, .int .u8 0] 169)
        have lhy := hw3.size
        have hne : V2.heap.size ≠ (V2.alloc (.cells #[.int .u8 0, .int .u8 0, .int .u8 0, .int .u8 0, .int .u8 0, .int .u8 0, .int .u8 0, .int .u8 0, .int .u8 0, .int .u8 0, .int .u8 0] 169)).heap.size := Nat.ne_of_lt hlt12
        refine store_box (v := .agg ((codeOf a).map u8).toArray) (ttOk.get 169 _ rfl) hx4 (by rfl) rfl (by rfl) ?_
        refine store_box (v := .agg ((codeOf b).map u8).toArray) (ttOk.get 169 _ rfl) ((setRow_old (Ne.symm hne)).trans hy4) (by rfl) rfl (by rfl) ?_
        refine ⟨(V2.heap.size, (V2.alloc (.cells #[.int .u8 0, .int .u8 0, .int .u8 0, .int .u8 0, .int .u8 0, .int .u8 0, .int .u8 0, .int .u8 0, .int .u8 0, .int .u8 0, .int .u8 0] 169)).heap.size), ⟨.cons rfl (.cons rfl .nil), rfl⟩, (setRow_old hne).trans (setRow_new hx4), setRow_new ((setRow_old (Ne.symm hne)).trans hy4), ?_⟩
        exact below_setRow (below_setRow hw4 lhx _) lhy _
      · have hb3 : Below V2.heap.size V2 (V2.alloc (.cells #[.int .u8 0, .int .u8 0, .int .u8 0, .int .u8 0, .int .u8 0, .int .u8 0, .int .u8 0, .int .u8 0, .int .u8 0, .int .u8 0, .int .u8 0] 169)) := (Below.refl _ _).alloc (Nat.le_refl _) _
        refine ⟨hb3, ?_⟩
        have hw3 := hw2.trans (hb3.mono hw2.size)
        have hy3 := hnew V2 (.cells #[.int .u8 0, .int .u8 0, .int .u8 0, .int .u8 0, .int .u8 0, .int .u8 0, .int .u8 0, .int .u8 0, .int .u8 0, .int .u8 0, .int .u8 0] 169)
        have lhy := hw2.size
        have hb4 : Below (V2.alloc (.cells #[.int .u8 0, .int .u8 0, .int .u8 0, .int .u8 0, .int .u8 0, .int .u8 0, .int .u8 0, .int .u8 0, .int .u8 0, .int .u8 0, .int .u8 0] 169)).heap.size (V2.alloc (.cells #[.int .u8 0, .int .u8 0, .int .u8 0, .int .u8 0, .int .u8 0, .int .u8 0, .int .u8 0, .int .u8 0, .int .u8 0, .int .u8 0, .int .u8 0] 169)) ((V2.alloc (.cells #[.int .u8 0, .int .u8 0, .int .u8 0, .int .u8 0, .int .u8 0, .int .u8 0, .int .u8 0, .int .u8 0, .int .u8 0, .int .u8 0, .int .u8 0] 169)).alloc (.cells #[.int .u8 0, .int .u8 0, .int .u8 0, .int .u8 0, .int .u8 0, .int .u8 0, .int .u8 0, .int .u8 0, .int .u8 0, .int .u8 0, .int .u8 0] 169)) := (Below.refl _ _).alloc (Nat.le_refl _) _
        refine ⟨hb4, ?_⟩
        have hw4 := hw3.trans (hb4.mono hw3.size)
        have hlt12 : V2.heap.size < (V2.alloc (.cells #[.int .u8 0, .int .u8 0, .int .u8 0, .int .u8 0, .int .u8 0, .int .u8 0, .int .u8 0, .int .u8 0, .int .u8 0, .int .u8 0, .int .u8 0] 169)).heap.size := hlt hy3
        have hy4 := block_below hb4 hy3
        have hx4 := hnew (V2.alloc (.cells #[.int .u8 0, .int .u8 0, .int .u8 0, .int .u8 0, .int .u8 0, .int .u8 0, .int .u8 0, .int .u8 0, .int .u8 0, .int .u8 0, .int .u8 0] 169)) (.cells #[.int .u8 0, .int .u8 0, .int .u8 0, .int .u8 0, .int .u8 0, .int .u8 0, .int .u8 0, .int .u8 0, .int .u8 0, .int .u8 0, .int .u8 0] 169)
        have lhx := hw3.size
        have hne : (V2.alloc (.cells #[.int .u8 0, .int .u8 0, .int .u8 0, .int .u8 0, .int .u8 0, .int .u8 0, .int .u8 0, .int .u8 0, .int .u8 0, .int .u8 0, .int .u8 0] 169)).heap.size ≠ V2.heap.size := (Nat.ne_of_lt hlt12).symm
        refine store_box (v := .agg ((codeOf a).map u8).toArray) (ttOk.get 169 _ rfl) hx4 (by rfl) rfl (by rfl) ?_
        refine store_box (v := .agg ((codeOf b).map u8).toArray) (ttOk.get 169 _ rfl) ((setRow_old (Ne.symm hne)).trans hy4) (by rfl) rfl (by rfl) ?_
        refine ⟨((V2.alloc (.cells #[.int .u8 0, .int .u8 0, .int .u8 0, .int .u8 0, .int .u8 0, .int .u8 0, .int .u8 0, .int .u8 0, .int .u8 0, .int .u8 0, .int .u8 0] 169)).heap.size, V2.heap.size), ⟨.cons rfl (.cons rfl .nil), rfl⟩, (setRow_old hne).trans (setRow_new hx4), setRow_new ((setRow_old (Ne.symm hne)).trans hy4), ?_⟩
        exact below_setRow (below_setRow hw4 lhx _) lhy _
    · refine And.intro ?_ ?_
      · have hb2 : Below V1.heap.size V1 (V1.alloc (.cells #[.int .u8 0, .int .u8 0, .int .u8 0, .int .u8 0, .int .u8 0, .int .u8 0, .int .u8 0, .int .u8 0, .int .u8 0, .int .u8 0, .int .u8 0] 169)) := (Below.refl _ _).alloc (Nat.le_refl _) _
        refine ⟨hb2, ?_⟩
        have hw2 := hw1.trans (hb2.mono hw1.size)
        have hx2 := hnew V1 (.cells #[.int .u8 0, .int .u8 0, .int .u8 0, .int .u8 0, .int .u8 0, .int .u8 0, .int .u8 0, .int .u8 0, .int .u8 0, .int .u8 0, .int .u8 0] 169)
        have lhx := hw1.size
        refine And.intro ?_ ?_
        · refine Calls.mono (code_c b _) ?_
          rintro _ V3 ⟨rfl, hb3⟩
          refine ⟨hb3, ?_⟩
          have hw3 := hw2.trans (hb3.mono hw2.size)
          have hx3 := block_below hb3 hx2
          have hb4 : Below V3.heap.size V3 (V3.alloc (.cells #[.int .u8 0, .int .u8 0, .int .u8 0, .int .u8 0, .int .u8 0, .int .u8 0, .int .u8 0, .int .u8 0, .int .u8 0, .int .u8 0, .int .u8 0] 169)) := (Below.refl _ _).alloc (Nat.le_refl _) _
          refine ⟨hb4, ?_⟩
          have hw4 := hw3.trans (hb4.mono hw3.size)
          have hlt12 : V1.heap.size < V3.heap.size := hlt hx3
          have hx4 := block_below hb4 hx3
          have hy4 := hnew V3 (.cells #[.int .u8 0, .int .u8 0, .int .u8 0, .int .u8 0, .int .u8 0, .int .u8 0, .int .u8 0, .int .u8 0, .int .u8 0, .int .u8 0, .int .u8 0] 169)
          have lhy := hw3.size
          have hne : V1.heap.size ≠ V3.heap.size := Nat.ne_of_lt hlt12
          refine store_box (v := .agg ((codeOf a).map u8).toArray) (ttOk.get 169 _ rfl) hx4 (by rfl) rfl (by rfl) ?_
          refine store_box (v := .agg ((codeOf b).map u8).toArray) (ttOk.get 169 _ rfl) ((setRow_old (Ne.symm hne)).trans hy4) (by rfl) rfl (by rfl) ?_
          refine ⟨(V1.heap.size, V3.heap.size), ⟨.cons rfl (.cons rfl .nil), rfl⟩, (setRow_old hne).trans (setRow_new hx4), setRow_new ((setRow_old (Ne.symm hne)).trans hy4), ?_⟩
          exact below_setRow (below_setRow hw4 lhx _) lhy _
        · have hb3 : Below (V1.alloc (.cells #[.int .u8 0, .int .u8 0, .int .u8 0, .int .u8 0, .int .u8 0, .int .u8 0, .int .u8 0, .int .u8 0, .int .u8 0, .int .u8 0, .int .u8 0] 169)).heap.size (V1.alloc (.cells #[.int .u8 0, .int .u8 0, .int .u8 0, .int .u8 0, .int .u8 0, .int .u8 0, .int .u8 0, .int .u8 0, .int .u8 0, .int .u8 0, .int .u8 0] 169)) ((V1.alloc (.cells #[.int .u8 0, .int .u8 0, .int .u8 0, .int .u8 0, .int .u8 0, .int .u8 0, .int .u8 0, .int .u8 0, .int .u8 0, .int .u8 0, .int .u8 0] 169)).alloc (.cells #[.int .u8 0, .int .u8 0, .int .u8 0, .int .u8 0, .int .u8 0, .int .u8 0, .int .u8 0, .int .u8 0, .int .u8 0, .int .u8 0, .int .u8 0] 169)) := (Below.refl _ _).alloc (Nat.le_refl _) _
          refine ⟨hb3, ?_⟩
          have hw3 := hw2.trans (hb3.mono hw2.size)
          have hlt12 : V1.heap.size < (V1.alloc (.cells #[.int .u8 0, .int .u8 0, .int .u8 0, .int .u8 0, .int .u8 0, .int .u8 0, .int .u8 0, .int .u8 0, .int .u8 0, .int .u8 0, .int .u8 0] 169)).heap.size := hlt hx2
          have hx3 := block_below hb3 hx2
          have hy3 := hnew (V1.alloc (.cells #[.int .u8 0, .int .u8 0, .int .u8 0, .int .u8 0, .int .u8 0, .int .u8 0, .int .u8 0, .int .u8 0, .int .u8 0, .int .u8 0, .int .u8 0] 169)) (.cells #[.int .u8 0, .int .u8 0, .int .u8 0, .int .u8 0, .int .u8 0, .int .u8 0, .int .u8 0, .int .u8 0, .int .u8 0, .int .u8 0, .int .u8 0] 169)
          have lhy := hw2.size
          refine Calls.mono (code_c b _) ?_
          rintro _ V4 ⟨rfl, hb4⟩
          refine ⟨hb4, ?_⟩
          have hw4 := hw3.trans (hb4.mono hw3.size)
          have hx4 := block_below hb4 hx3
          have hy4 := block_below hb4 hy3
          have hne : V1.heap.size ≠ (V1.alloc (.cells #[.int .u8 0, .int .u8 0, .int .u8 0, .int .u8 0, .int .u8 0, .int .u8 0, .int .u8 0, .int .u8 0, .int .u8 0, .int .u8 0, .int .u8 0] 169)).heap.size := Nat.ne_of_lt hlt12
          refine store_box (v := .agg ((codeOf a).map u8).toArray) (ttOk.get 169 _ rfl) hx4 (by rfl) rfl (by rfl) ?_
          refine store_box (v := .agg ((codeOf b).map u8).toArray) (ttOk.get 169 _ rfl) ((setRow_old (Ne.symm hne)).trans hy4) (by rfl) rfl (by rfl) ?_
          refine ⟨(V1.heap.size, (V1.alloc (.cells #[.int .u8 0, .int .u8 0, .int .u8 0, .int .u8 0, .int .u8 0, .int .u8 0, .int .u8 0, .int .u8 0, .int .u8 0, .int .u8 0, .int .u8 0] 169)).heap.size), ⟨.cons rfl (.cons rfl .nil), rfl⟩, (setRow_old hne).trans (setRow_new hx4), setRow_new ((setRow_old (Ne.symm hne)).trans hy4), ?_⟩
          exact below_setRow (below_setRow hw4 lhx _) lhy _
      · have hb2 : Below V1.heap.size V1 (V1.alloc (.cells #[.int .u8 0, .int .u8 0, .int .u8 0, .int .u8 0, .int .u8 0, .int .u8 0, .int .u8 0, .int .u8 0, .int .u8 0, .int .u8 0, .int .u8 0] 169)) := (Below.refl _ _).alloc (Nat.le_refl _) _
        refine ⟨hb2, ?_⟩
        have hw2 := hw1.trans (hb2.mono hw1.size)
        have hy2 := hnew V1 (.cells #[.int .u8 0, .int .u8 0, .int .u8 0, .int .u8 0, .int .u8 0, .int .u8 0, .int .u8 0, .int .u8 0, .int .u8 0, .int .u8 0, .int .u8 0] 169)
        have lhy := hw1.size
        refine And.intro ?_ ?_
        · refine Calls.mono (code_c b _) ?_
          rintro _ V3 ⟨rfl, hb3⟩
          refine ⟨hb3, ?_⟩
          have hw3 := hw2.trans (hb3.mono hw2.size)
          have hy3 := block_below hb3 hy2
          have hb4 : Below V3.heap.size V3 (V3.alloc (.cells #[.int .u8 0, .int .u8 0, .int .u8 0, .int .u8 0, .int .u8 0, .int .u8 0, .int .u8 0, .int .u8 0, .int .u8 0, .int .u8 0, .int .u8 0] 169)) := (Below.refl _ _).alloc (Nat.le_refl _) _
          refine ⟨hb4, ?_⟩
          have hw4 := hw3.trans (hb4.mono hw3.size)
          have hlt12 : V1.heap.size < V3.heap.size := hlt hy3
          have hy4 := block_below hb4 hy3
          have hx4 := hnew V3 (.cells #[.int .u8 0, .int .u8 0, .int .u8 0, .int .u8 0, .int .u8 0, .int .u8 0, .int .u8 0, .int .u8 0, .int .u8 0, .int .u8 0, .int .u8 0] 169)
          have lhx := hw3.size
          have hne : V3.heap.size ≠ V1.heap.size := (Nat.ne_of_lt hlt12).symm
          refine store_box (v := .agg ((codeOf a).map u8).toArray) (ttOk.get 169 _ rfl) hx4 (by rfl) rfl (by rfl) ?_
          refine store_box (v := .agg ((codeOf b).map u8).toArray) (ttOk.get 169 _ rfl) ((setRow_old (Ne.symm hne)).trans hy4) (by rfl) rfl (by rfl) ?_
          refine ⟨(V3.heap.size, V1.heap.size), ⟨.cons rfl (.cons rfl .nil), rfl⟩, (setRow_old hne).trans (setRow_new hx4), setRow_new ((setRow_old (Ne.symm hne)).trans hy4), ?_⟩
          exact below_setRow (below_setRow hw4 lhx _) lhy _
        · have hb3 : Below (V1.alloc (.cells #[.int .u8 0, .int .u8 0, .int .u8 0, .int .u8 0, .int .u8 0, .int .u8 0, .int .u8 0, .int .u8 0, .int .u8 0, .int .u8 0, .int .u8 0] 169)).heap.size (V1.alloc (.cells #[.int .u8 0, .int .u8 0, .int .u8 0, .int .u8 0, .int .u8 0, .int .u8 0, .int .u8 0, .int .u8 0, .int .u8 0, .int .u8 0, .int .u8 0] 169)) ((V1.alloc (.cells #[.int .u8 0, .int .u8 0, .int .u8 0, .int .u8 0, .int .u8 0, .int .u8 0, .int .u8 0, .int .u8 0, .int .u8 0, .int .u8 0, .int .u8 0] 169)).alloc (.cells #[.int .u8 0, .int .u8 0, .int .u8 0, .int .u8 0, .int .u8 0, .int .u8 0, .int .u8 0, .int .u8 0, .int .u8 0, .int .u8 0, .int .u8 0] 169)) := (Below.refl _ _).alloc (Nat.le_refl _) _
          refine ⟨hb3, ?_⟩
          have hw3 := hw2.trans (hb3.mono hw2.size)
          have hlt12 : V1.heap.size < (V1.alloc (.cells #[.int .u8 0, .int .u8 0, .int .u8 0, .int .u8 0, .int .u8 0, .int .u8 0, .int .u8 0, .int .u8 0, .int .u8 0, .int .u8 0, .int .u8 0] 169)).heap.size := hlt hy2
          have hy3 := block_below hb3 hy2
          have hx3 := hnew (V1.alloc (.cells #[.int .u8 0, .int .u8 0, .int .u8 0, .int .u8 0, .int .u8 0, .int .u8 0, .int .u8 0, .int .u8 0, .int .u8 0, .int .u8 0, .int .u8 0] 169)) (.cells #[.int .u8 0, .int .u8 0, .int .u8 0, .int .u8 0, .int .u8 0, .int .u8 0, .int .u8 0, .int .u8 0, .int .u8 0, .int .u8 0, .int .u8 0] 169)
          have lhx := hw2.size
          refine Calls.mono (code_c b _) ?_
          rintro _ V4 ⟨rfl, hb4⟩
          refine ⟨hb4, ?_⟩
          have hw4 := hw3.trans (hb4.mono hw3.size)
          have hy4 := block_below hb4 hy3
          have hx4 := block_below hb4 hx3
          have hne : (V1.alloc (.cells #[.int .u8 0, .int .u8 0, .int .u8 0, .int .u8 0, .int .u8 0, .int .u8 0, .int .u8 0, .int .u8 0, .int .u8 0, .int .u8 0, .int .u8 0] 169)).heap.size ≠ V1.heap.size := (Nat.ne_of_lt hlt12).symm
          refine store_box (v := .agg ((codeOf a).map u8).toArray) (ttOk.get 169 _ rfl) hx4 (by rfl) rfl (by rfl) ?_
          refine store_box (v := .agg ((codeOf b).map u8).toArray) (ttOk.get 169 _ rfl) ((setRow_old (Ne.symm hne)).trans hy4) (by rfl) rfl (by rfl) ?_
          refine ⟨((V1.alloc (.cells #[.int .u8 0, .int .u8 0, .int .u8 0, .int .u8 0, .int .u8 0, .int .u8 0, .int .u8 0, .int .u8 0, .int .u8 0, .int .u8 0, .int .u8 0] 169)).heap.size, V1.heap.size), ⟨.cons rfl (.cons rfl .nil), rfl⟩, (setRow_old hne).trans (setRow_new hx4), setRow_new ((setRow_old (Ne.symm hne)).trans hy4), ?_⟩
          exact below_setRow (below_setRow hw4 lhx _) lhy _
  · refine And.intro ?_ ?_
    · have hb1 : Below W.heap.size W (W.alloc (.cells #[.int .u8 0, .int .u8 0, .int .u8 0, .int .u8 0, .int .u8 0, .int .u8 0, .int .u8 0, .int .u8 0, .int .u8 0, .int .u8 0, .int .u8 0] 169)) := (Below.refl _ _).alloc (Nat.le_refl _) _
      refine ⟨hb1, ?_⟩
      have hw1 := hbW.trans (hb1.mono hbW.size)
      have hx1 := hnew W (.cells #[.int .u8 0, .int .u8 0, .int .u8 0, .int .u8 0, .int .u8 0, .int .u8 0, .int .u8 0, .int .u8 0, .int .u8 0, .int .u8 0, .int .u8 0] 169)
      have lhx := hbW.size
      refine And.intro ?_ ?_
      · refine Calls.mono (code_c a _) ?_
        rintro _ V2 ⟨rfl, hb2⟩
        refine ⟨hb2, ?_⟩
        have hw2 := hw1.trans (hb2.mono hw1.size)
        have hx2 := block_below hb2 hx1
        refine And.intro ?_ ?_
        · refine Calls.mono (code_c b _) ?_
          rintro _ V3 ⟨rfl, hb3⟩
          refine ⟨hb3, ?_⟩
          have hw3 := hw2.trans (hb3.mono hw2.size)
          have hx3 := block_below hb3 hx2
          have hb4 : Below V3.heap.size V3 (V3.alloc (.cells #[.int .u8 0, .int .u8 0, .int .u8 0, .int .u8 0, .int .u8 0, .int .u8 0, .int .u8 0, .int .u8 0, .int .u8 0, .int .u8 0, .int .u8 0] 169)) := (Below.refl _ _).alloc (Nat.le_refl _) _
          refine ⟨hb4, ?_⟩
          have hw4 := hw3.trans (hb4.mono hw3.size)
          have hlt12 : W.heap.size < V3.heap.size := hlt hx3
          have hx4 := block_below hb4 hx3
          have hy4 := hnew V3 (.cells #[.int .u8 0, .int .u8 0, .int .u8 0, .int .u8 0, .int .u8 0, .int .u8 0, .int .u8 0, .int .u8 0, .int .u8 0, .int .u8 0, .int .u8 0] 169)
          have lhy := hw3.size
          have hne : W.heap.size ≠ V3.heap.size := Nat.ne_of_lt hlt12
          refine store_box (v := .agg ((codeOf a).map u8).toArray) (ttOk.get 169 _ rfl) hx4 (by rfl) rfl (by rfl) ?_
          refine store_box (v := .agg ((codeOf b).map u8).toArray) (ttOk.get 169 _ rfl) ((setRow_old (Ne.symm hne)).trans hy4) (by rfl) rfl (by rfl) ?_
          refine ⟨(W.heap.size, V3.heap.size), ⟨.cons rfl (.cons rfl .nil), rfl⟩, (setRow_old hne).trans (setRow_new hx4), setRow_new ((setRow_old (Ne.symm hne)).trans hy4), ?_⟩
          exact below_setRow (below_setRow hw4 lhx _) lhy _
        · have hb3 : Below V2.heap.size V2 (V2.alloc (.cells #[.int .u8 0, .int .u8 0, .int .u8 0, .int .u8 0, .int .u8 0, .int .u8 0, .int .u8 0, .int .u8 0, .int .u8 0, .int .u8 0, .int .u8 0] 169)) := (Below.refl _ _).alloc (Nat.le_refl _) _
          refine ⟨hb3, ?_⟩
          have hw3 := hw2.trans (hb3.mono hw2.size)
          have hlt12 : W.heap.size < V2.heap.size := hlt hx2
          have hx3 := block_below hb3 hx2
          have hy3 := hnew V2 (.cells #[.int .u8 0, .int .u8 0, .int .u8 0, .int .u8 0, .int .u8 0, .int .u8 0, .int .u8 0, .int .u8 0, .int .u8 0, .int .u8 0, .int .u8 0] 169)
          have lhy := hw2.size
          refine Calls.mono (code_c b _) ?_
          rintro _ V4 ⟨rfl, hb4⟩
          refine ⟨hb4, ?_⟩
          have hw4 := hw3.trans (hb4.mono hw3.size)
          have hx4 := block_below hb4 hx3
          have hy4 := block_below hb4 hy3
          have hne : W.heap.size ≠ V2.heap.size := Nat.ne_of_lt hlt12
          refine store_box (v := .agg ((codeOf a).map u8).toArray) (ttOk.get 169 _ rfl) hx4 (by rfl) rfl (by rfl) ?_
          refine store_box (v := .agg ((codeOf b).map u8).toArray) (ttOk.get 169 _ rfl) ((setRow_old (Ne.symm hne)).trans hy4) (by rfl) rfl (by rfl) ?_
          refine ⟨(W.heap.size, V2.heap.size), ⟨.cons rfl (.cons rfl .nil), rfl⟩, (setRow_old hne).trans (setRow_new hx4), setRow_new ((setRow_old (Ne.symm hne)).trans hy4), ?_⟩
          exact below_setRow (below_setRow hw4 lhx _) lhy _
      · have hb2 : Below (W.alloc (.cells #[.int .u8 0, .int .u8 0, .int .u8 0, .int .u8 0, .int .u8 0, .int .u8 0, .int .u8 0, .int .u8 0, .int .u8 0, .int .u8 0, .int .u8 0] 169)).heap.size (W.alloc (.cells #[.int .u8 0, .int .u8 0, .int .u8 0, .int .u8 0, .int .u8 0, .int .u8 0, .int .u8 0, .int .u8 0, .int .u8 0, .int .u8 0, .int .u8 0] 169)) ((W.alloc (.cells #[.int .u8 0, .int .u8 0, .int .u8 0, .int .u8 0, .int .u8 0, .int .u8 0, .int .u8 0, .int .u8 0, .int .u8 0, .int .u8 0, .int .u8 0] 169)).alloc (.cells #[.int .u8 0, .int .u8 0, .int .u8 0, .int .u8 0, .int .u8 0, .int .u8 0, .int .u8 0, .int .u8 0, .int .u8 0, .int .u8 0, .int .u8 0] 169)) := (Below.refl _ _).alloc (Nat.le_refl _) _
        refine ⟨hb2, ?_⟩
        have hw2 := hw1.trans (hb2.mono hw1.size)
        have hlt12 : W.heap.size < (W.alloc (.cells #[.int .u8 0, .int .u8 0, .int .u8 0, .int .u8 0, .int .u8 0, .int .u8 0, .int .u8 0, .int .u8 0, .int .u8 0, .int .u8 0, .int .u8 0] 169)).heap.size := hlt hx1
        have hx2 := block_below hb2 hx1
        have hy2 := hnew (W.alloc (.cells #[.int .u8 0, .int .u8 0, .int .u8 0, .int .u8 0, .int .u8 0, .int .u8 0, .int .u8 0, .int .u8 0, .int .u8 0, .int .u8 0, .int .u8 0] 169)) (.cells #[.int .u8 0, .int .u8 0, .int .u8 0, .int .u8 0, .int .u8 0, .int .u8 0, .int .u8 0, .int .u8 0, .int .u8 0, .int .u8 0, .int .u8 0] 169)
        have lhy := hw1.size
        refine Calls.mono (code_c a _) ?_
        rintro _ V3 ⟨rfl, hb3⟩
        refine ⟨hb3, ?_⟩
        have hw3 := hw2.trans (hb3.mono hw2.size)
        have hx3 := block_below hb3 hx2
        have hy3 := block_below hb3 hy2
        refine Calls.mono (code_c b _) ?_
        rintro _ V4 ⟨rfl, hb4⟩
        refine ⟨hb4, ?_⟩
        have hw4 := hw3.trans (hb4.mono hw3.size)
        have hx4 := block_below hb4 hx3
        have hy4 := block_below hb4 hy3
        have hne : W.heap.size ≠ (W.alloc (.cells #[.int .u8 0, .int .u8 0, .int .u8 0, .int .u8 0, .int .u8 0, .int .u8 0, .int .u8 0, .int .u8 0, .int .u8 0, .int .u8 0, .int .u8 0] 169)).heap.size := Nat.ne_of_lt hlt12
        refine store_box (v := .agg ((codeOf a).map u8).toArray) (ttOk.get 169 _ rfl) hx4 (by rfl) rfl (by rfl) ?_
        refine store_box (v := .agg ((codeOf b).map u8).toArray) (ttOk.get 169 _ rfl) ((setRow_old (Ne.symm hne)).trans hy4) (by rfl) rfl (by rfl) ?_
        refine ⟨(W.heap.size, (W.alloc (.cells #[.int .u8 0, .int .u8 0, .int .u8 0, .int .u8 0, .int .u8 0, .int .u8 0, .int .u8 0, .int .u8 0, .int .u8 0, .int .u8 0, .int .u8 0] 169)).heap.size), ⟨.cons rfl (.cons rfl .nil), rfl⟩, (setRow_old hne).trans (setRow_new hx4), setRow_new ((setRow_old (Ne.symm hne)).trans hy4), ?_⟩
        exact below_setRow (below_setRow hw4 lhx _) lhy _
    · have hb1 : Below W.heap.size W (W.alloc (.cells #[.int .u8 0, .int .u8 0, .int .u8 0, .int .u8 0, .int .u8 0, .int .u8 0, .int .u8 0, .int .u8 0, .int .u8 0, .int .u8 0, .int .u8 0] 169)) := (Below.refl _ _).alloc (Nat.le_refl _) _
      refine ⟨hb1, ?_⟩
      have hw1 := hbW.trans (hb1.mono hbW.size)
      have hy1 := hnew W (.cells #[.int .u8 0, .int .u8 0, .int .u8 0, .int .u8 0, .int .u8 0, .int .u8 0, .int .u8 0, .int .u8 0, .int .u8 0, .int .u8 0, .int .u8 0] 169)
      have lhy := hbW.size
      refine And.intro ?_ ?_
      · refine Calls.mono (code_c a _) ?_
        rintro _ V2 ⟨rfl, hb2⟩
        refine ⟨hb2, ?_⟩
        have hw2 := hw1.trans (hb2.mono hw1.size)
        have hy2 := block_below hb2 hy1
        refine And.intro ?_ ?_
        · refine Calls.mono (code_c b _) ?_
          rintro _ V3 ⟨rfl, hb3⟩
          refine ⟨hb3, ?_⟩
          have hw3 := hw2.trans (hb3.mono hw2.size)
          have hy3 := block_below hb3 hy2
          have hb4 : Below V3.heap.size V3 (V3.alloc (.cells #[.int .u8 0, .int .u8 0, .int .u8 0, .int .u8 0, .int .u8 0, .int .u8 0, .int .u8 0, .int .u8 0, .int .u8 0, .int .u8 0, .int .u8 0] 169)) := (Below.refl _ _).alloc (Nat.le_refl _) _
          refine ⟨hb4, ?_⟩
          have hw4 := hw3.trans (hb4.mono hw3.size)
          have hlt12 : W.heap.size < V3.heap.size := hlt hy3
          have hy4 := block_below hb4 hy3
          have hx4 := hnew V3 (.cells #[.int .u8 0, .int .u8 0, .int .u8 0, .int .u8 0, .int .u8 0, .int .u8 0, .int .u8 0, .int .u8 0, .int .u8 0, .int .u8 0, .int .u8 0] 169)
          have lhx := hw3.size
          have hne : V3.heap.size ≠ W.heap.size := (Nat.ne_of_lt hlt12).symm
          refine store_box (v := .agg ((codeOf a).map u8).toArray) (ttOk.get 169 _ rfl) hx4 (by rfl) rfl (by rfl) ?_
          refine store_box (v := .agg ((codeOf b).map u8).toArray) (ttOk.get 169 _ rfl) ((setRow_old (Ne.symm hne)).trans hy4) (by rfl) rfl (by rfl) ?_
          refine ⟨(V3.heap.size, W.heap.size), ⟨.cons rfl (.cons rfl .nil), rfl⟩, (setRow_old hne).trans (setRow_new hx4), setRow_new ((setRow_old (Ne.symm hne)).trans hy4), ?_⟩
          exact below_setRow (below_setRow hw4 lhx _) lhy _
        · have hb3 : Below V2.heap.size V2 (V2.alloc (.cells #[.int .u8 0, .int .u8 0, .int .u8 0, .int .u8 0, .int .u8 0, .int .u8 0, .int .u8 0, .int .u8 0, .int .u8 0, .int .u8 0, .int .u8 0] 169)) := (Below.refl _ _).alloc (Nat.le_refl _) _
          refine ⟨hb3, ?_⟩
          have hw3 := hw2.trans (hb3.mono hw2.size)
          have hlt12 : W.heap.size < V2.heap.size := hlt hy2
          have hy3 := block_below hb3 hy2
          have hx3 := hnew V2 (.cells #[.int .u8 0, .int .u8 0, .int .u8 0, .int .u8 0, .int .u8 0, .int .u8 0, .int .u8 0, .int .u8 0, .int .u8 0, .int .u8 0, .int .u8 0] 169)
          have lhx := hw2.size
          refine Calls.mono (code_c b _) ?_
          rintro _ V4 ⟨rfl, hb4⟩
          refine ⟨hb4, ?_⟩
          have hw4 := hw3.trans (hb4.mono hw3.size)
          have hy4 := block_below hb4 hy3
          have hx4 := block_below hb4 hx3
          have hne : V2.heap.size ≠ W.heap.size := (Nat.ne_of_lt hlt12).symm
          refine store_box (v := .agg ((codeOf a).map u8).toArray) (ttOk.get 169 _ rfl) hx4 (by rfl) rfl (by rfl) ?_
          refine store_box (v := .agg ((codeOf b).map u8).toArray) (ttOk.get 169 _ rfl) ((setRow_old (Ne.symm hne)).trans hy4) (by rfl) rfl (by rfl) ?_
          refine ⟨(V2.heap.size, W.heap.size), ⟨.cons rfl (.cons rfl .nil), rfl⟩, (setRow_old hne).trans (setRow_new hx4), setRow_new ((setRow_old (Ne.symm hne)).trans hy4), ?_⟩
          exact below_setRow (below_setRow hw4 lhx _) lhy _
      · have hb2 : Below (W.alloc (.cells #[.int .u8 0, .int .u8 0, .int .u8 0, .int .u8 0, .int .u8 0, .int .u8 0, .int .u8 0, .int .u8 0, .int .u8 0, .int .u8 0, .int .u8 0] 169)).heap.size (W.alloc (.cells #[.int .u8 0, .int .u8 0, .int .u8 0, .int .u8 0, .int .u8 0, .int .u8 0, .int .u8 0, .int .u8 0, .int .u8 0, .int .u8 0, .int .u8 0] 169)) ((W.alloc (.cells #[.int .u8 0, .int .u8 0, .int .u8 0, .int .u8 0, .int .u8 0, .int .u8 0, .int .u8 0, .int .u8 0, .int .u8 0, .int .u8 0, .int .u8 0] 169)).alloc (.cells #[.int .u8 0, .int .u8 0, .int .u8 0, .int .u8 0, .int .u8 0, .int .u8 0, .int .u8 0, .int .u8 0, .int .u8 0, .int .u8 0, .int .u8 0] 169)) := (Below.refl _ _).alloc (Nat.le_refl _) _
        refine ⟨hb2, ?_⟩
        have hw2 := hw1.trans (hb2.mono hw1.size)
        have hlt12 : W.heap.size < (W.alloc (.cells #[.int .u8 0, .int .u8 0, .int .u8 0, .int .u8 0, .int .u8 0, .int .u8 0, .int .u8 0, .int .u8 0, .int .u8 0, .int .u8 0, .int .u8 0] 169)).heap.size := hlt hy1
        have hy2 := block_below hb2 hy1
        have hx2 := hnew (W.alloc (.cells #[.int .u8 0, .int .u8 0, .int .u8 0, .int .u8 0, .int .u8 0, .int .u8 0, .int .u8 0, .int .u8 0, .int .u8 0, .int .u8 0, .int .u8 0] 169)) (.cells #[.int .u8 0, .int .u8 0, .int .u8 0, .int .u8 0, .int .u8 0, .int .u8 0, .int .u8 0, .int .u8 0, .int .u8 0, .int .u8 0, .int .u8 0] 169)
        have lhx := hw1.size
        refine Calls.mono (code_c a _) ?_
        rintro _ V3 ⟨rfl, hb3⟩
        refine ⟨hb3, ?_⟩
        have hw3 := hw2.trans (hb3.mono hw2.size)
        have hy3 := block_below hb3 hy2
        have hx3 := block_below hb3 hx2
        refine Calls.mono (code_c b _) ?_
        rintro _ V4 ⟨rfl, hb4⟩
        refine ⟨hb4, ?_⟩
        have hw4 := hw3.trans (hb4.mono hw3.size)
        have hy4 := block_below hb4 hy3
        have hx4 := block_below hb4 hx3
        have hne : (W.alloc (.cells #[.int .u8 0, .int .u8 0, .int .u8 0, .int .u8 0, .int .u8 0, .int .u8 0, .int .u8 0, .int .u8 0, .int .u8 0, .int .u8 0, .int .u8 0] 169)).heap.size ≠ W.heap.size := (Nat.ne_of_lt hlt12).symm
        refine store_box (v := .agg ((codeOf a).map u8).toArray) (ttOk.get 169 _ rfl) hx4 (by rfl) rfl (by rfl) ?_
        refine store_box (v := .agg ((codeOf b).map u8).toArray) (ttOk.get 169 _ rfl) ((setRow_old (Ne.symm hne)).trans hy4) (by rfl) rfl (by rfl) ?_
        refine ⟨((W.alloc (.cells #[.int .u8 0, .int .u8 0, .int .u8 0, .int .u8 0, .int .u8 0, .int .u8 0, .int .u8 0, .int .u8 0, .int .u8 0, .int .u8 0, .int .u8 0] 169)).heap.size, W.heap.size), ⟨.cons rfl (.cons rfl .nil), rfl⟩, (setRow_old hne).trans (setRow_new hx4), setRow_new ((setRow_old (Ne.symm hne)).trans hy4), ?_⟩
        exact below_setRow (below_setRow hw4 lhx _) lhy _
end Go.Proofs.YtedeohcdcaimhaaGreatDoor
namespace Go.Proofs.YtedeohcdcaimhaaGreatDoor
open Go.Vc Go.RowKit Go.Sei

theorem known_c (m : UInt8) (w : World) : Calls Tryz.prog 83 #[u8 m] w fun e w' => e = .returned (.bool (knownB m)) ∧ w = w' := by
  refine calls_of_E (S := sg 9) (sgOk _) (args := [u8 m]) Tryz.func83 rfl rfl (Nat.le_of_ble_eq_true rfl) rfl ?_
  refine And.intro (fun h => ?_) (fun h => ?_)
  · exact And.intro (rb (by unfold knownB; rw [h]; rfl)) rfl
  · exact And.intro (rb (by unfold knownB; rw [h]; rfl)) rfl

theorem Class_c (k : UInt8) (w : World) (hg : Glob w) : Calls Tryz.prog 103 #[u8 k] w fun e w' => e = .returned (u8 (classOf k)) ∧ w = w' := by
  refine calls_of_E (S := sg 9) (sgOk _) (args := [u8 k]) Tryz.func103 rfl rfl (Nat.le_of_ble_eq_true rfl) rfl ?_
  refine ⟨_, wrap_u8_i64 k, ?_⟩
  refine And.intro (fun h => ?_) (fun h => ?_)
  · have h := of_decide_eq_true h
    refine And.intro ?_ rfl
    have : classOf k = 0 := by
      unfold classOf
      rw [List.getD_eq_getElem?_getD, List.getElem?_eq_none (by simp only [classes, List.length_cons, List.length_nil]; omega)]; rfl
    rw [this]; rfl
  · have h := of_decide_eq_false h
    refine ⟨k.toNat, rfl, by omega, ?_⟩
    have hk : (classes.map u8)[k.toNat]? = some (u8 (classOf k)) := by
      have hl : k.toNat < classes.length := by simp only [classes, List.length_cons, List.length_nil]; omega
      rw [List.getElem?_map, List.getElem?_eq_getElem hl]
      simp only [classOf, List.getD_eq_getElem?_getD, List.getElem?_eq_getElem hl, Option.map_some, Option.getD_some]
    have := cells_at hg hk
    refine ⟨_, by rw [Nat.mul_one]; exact this, ?_⟩
    exact And.intro rfl rfl

theorem queue_c (m : Msg) (mode : UInt8) (w : World) (hg : Glob w) : Calls Tryz.prog 86 #[m.val, u8 mode] w fun e w' => e = .returned (.agg (qcells (queue m mode)).toArray) ∧ Below w.heap.size w w' := by
  refine calls_of_E (S := sg 20) (sgOk _) (args := [m.val, u8 mode]) Tryz.func86 rfl rfl (Nat.le_of_ble_eq_true rfl) rfl ?_
  have hb1 : Below w.heap.size w ((w.alloc (.cells m.val.cells 107)).alloc (.cells #[.int .u8 0, .int .u8 0, .int .u8 0] 160)) := ((Below.refl _ _).alloc (Nat.le_refl _) _).alloc (by simp) _
  have f1 := hold (.cells #[.int .u8 0, .int .u8 0, .int .u8 0] 160) (hnew w (.cells m.val.cells 107))
  have f2 := hnew (w.alloc (.cells m.val.cells 107)) (.cells #[.int .u8 0, .int .u8 0, .int .u8 0] 160)
  have c1 := cells_block f1
  refine And.intro (fun h => ?_) (fun h => ?_)
  · have h := of_decide_eq_true h
    have h3 : mode = 3 := u8_eq.1 h
    refine DrawE.ord [8] [0, 1, 2, 3, 4, 5, 6, 7, 8] (by kernel_rfl) ?_
    refine ⟨_, cells_at c1 (i := 1) rfl, ?_⟩
    refine ⟨_, cells_at c1 (i := 2) rfl, ?_⟩
    refine ⟨_, cells_at c1 (i := 0) rfl, ?_⟩
    refine Calls.mono (Class_c m.kind _ (hg.below hb1.drew)) ?_
    rintro e w' ⟨rfl, rfl⟩
    refine ⟨Below.refl _ _, ?_⟩
    refine ⟨[u8 m.from_, u8 m.to, u8 (classOf m.kind)], rfl, ?_⟩
    refine store_box (ttOk.get 160 _ rfl) (hdr f2) (by rfl) rfl (by rfl) ?_
    refine ⟨[u8 m.from_, u8 m.to, u8 (classOf m.kind)], rfl, cells_block (setRow_new (hdr f2)), And.intro ?_ (below_setRow hb1.drew (by simp) _)⟩
    simp only [queue, h3, if_true]
    rfl
  · have h := of_decide_eq_false h
    have h3 : ¬ mode = 3 := fun e => h (u8_eq.2 e)
    refine ⟨_, cells_at c1 (i := 1) rfl, ?_⟩
    refine ⟨_, cells_at c1 (i := 2) rfl, ?_⟩
    refine ⟨[u8 m.from_, u8 m.to, u8 0], rfl, ?_⟩
    refine store_box (ttOk.get 160 _ rfl) f2 (by rfl) rfl (by rfl) ?_
    refine ⟨[u8 m.from_, u8 m.to, u8 0], rfl, cells_block (setRow_new f2), And.intro ?_ (below_setRow hb1 (by simp) _)⟩
    simp only [queue, h3, if_false]
    rfl
end Go.Proofs.YtedeohcdcaimhaaGreatDoor
namespace Go.Proofs.YtedeohcdcaimhaaGreatDoor
open Go.Vc Go.RowKit Go.Sei

theorem cmp8_lt {x y : UInt8} : cmp8 x y < 0 ↔ x.toNat < y.toNat := by
  unfold cmp8; split
  · simp_all
  · split
    · simp; omega
    · simp; omega
theorem cmpL_self : ∀ l, cmpL l l = 0
  | [] => rfl
  | x :: r => by rw [cmpL, if_pos rfl]; exact cmpL_self r
theorem cmpL_lt_cons {x y : UInt8} {r s : List UInt8} : cmpL (x :: r) (y :: s) < 0 ↔ x.toNat < y.toNat ∨ (x = y ∧ cmpL r s < 0) := by
  rw [cmpL]; split
  · rename_i h; subst h; simp
  · rename_i h
    rw [cmp8_lt]; simp [h]
theorem cmpL_total : ∀ l1 l2, cmpL l1 l2 < 0 ∨ cmpL l2 l1 < 0 ∨ l1 = l2
  | [], [] => by simp
  | [], _ :: _ => .inl (by simp [cmpL])
  | _ :: _, [] => .inr (.inl (by simp [cmpL]))
  | x :: r, y :: s => by
    rw [cmpL_lt_cons, cmpL_lt_cons]
    rcases Nat.lt_trichotomy x.toNat y.toNat with h | h | h
    · exact .inl (.inl h)
    · have e : x = y := UInt8.toNat_inj.1 h
      subst e
      rcases cmpL_total r s with h | h | h
      · exact .inl (.inr ⟨rfl, h⟩)
      · exact .inr (.inl (.inr ⟨rfl, h⟩))
      · exact .inr (.inr (by rw [h]))
    · exact .inr (.inl (.inl h))
theorem cmpL_trans : ∀ l1 l2 l3, cmpL l1 l2 < 0 → cmpL l2 l3 < 0 → cmpL l1 l3 < 0
  | [], [], _, h, _ => by simp [cmpL] at h
  | _ :: _, [], _, h, _ => by simp [cmpL] at h
  | [], _ :: _, [], _, h => by simp [cmpL] at h
  | [], _ :: _, _ :: _, _, _ => by simp [cmpL]
  | _ :: _, _ :: _, [], _, h => by simp [cmpL] at h
  | x :: r, y :: s, z :: t, h1, h2 => by
    rw [cmpL_lt_cons] at *
    rcases h1 with h1 | ⟨rfl, h1⟩
    · rcases h2 with h2 | ⟨rfl, h2⟩
      · exact .inl (by omega)
      · exact .inl h1
    · rcases h2 with h2 | ⟨rfl, h2⟩
      · exact .inl h2
      · exact .inr ⟨rfl, cmpL_trans r s t h1 h2⟩

/-- Messages by a key. -/
def keyO (key : Msg → List UInt8) : MOrd Msg where
  lt a b := decide (cmpL (key a) (key b) < 0)
  irr a := by rw [cmpL_self]; rfl
  trans a b c h1 h2 := decide_eq_true (cmpL_trans _ _ _ (of_decide_eq_true h1) (of_decide_eq_true h2))
  neg a b c h1 h2 := by
    have h1 := of_decide_eq_false h1
    have h2 := of_decide_eq_false h2
    refine decide_eq_false fun h => ?_
    rcases cmpL_total (key a) (key b) with k | k | k
    · exact h1 k
    · rcases cmpL_total (key b) (key c) with q | q | q
      · exact h2 q
      · have := cmpL_trans _ _ _ (cmpL_trans _ _ _ h q) k
        rw [cmpL_self] at this; cases this
      · rw [← q] at h; exact h1 (by have := cmpL_trans _ _ _ h k; rw [cmpL_self] at this; cases this)
    · rw [k] at h; exact h2 h
theorem codeOf_inj {a b : Msg} (h : codeOf a = codeOf b) : a = b := by
  obtain ⟨a0, a1, a2, a3, a4, a5, a6, a7, a8, a9, a10⟩ := a
  obtain ⟨b0, b1, b2, b3, b4, b5, b6, b7, b8, b9, b10⟩ := b
  simp only [codeOf, List.cons.injEq, and_true] at h
  obtain ⟨rfl, rfl, rfl, rfl, rfl, rfl, h, rfl, rfl, rfl, rfl⟩ := h
  have : a6 = b6 := by cases a6 <;> cases b6 <;> simp at h ⊢
  rw [this]

/-- The key of a message in a mode. -/
def qbs (mode : UInt8) (m : Msg) : List UInt8 := [(queue m mode).1, (queue m mode).2.1, (queue m mode).2.2]
def mkey (mode : UInt8) (m : Msg) : List UInt8 := if mode = 1 then codeOf m else qbs mode m
end Go.Proofs.YtedeohcdcaimhaaGreatDoor
namespace Go.Vc
open Go.RowKit

def freeB (ind : Nat → Nat → Bool) (ops : Array Oper) (k : Nat) (listed : Array Bool) : Bool :=
  (List.range ops.size).all fun i => Nat.beq i k || listed.getD i false || ind k i || waits ops ops.size k i

def covF (rec_ : Array Bool → OT → Bool) (ind : Nat → Nat → Bool) (ops : Array Oper) (listed : Array Bool) (T : OT) : Bool :=
  !(Region.ready .any ops listed).isEmpty && (Region.ready .any ops listed).all fun i =>
      match OT.first ind i T with
      | some T' => rec_ (listed.setIfInBounds i true) T'
      | none => false

def covQ (ind : Nat → Nat → Bool) (ops : Array Oper) : Nat → Array Bool → OT → Bool
  | 0, listed, T => (Region.ready .any ops listed).isEmpty && (match T with | .nil => true | _ => false)
  | m + 1, listed, .op k T' => (match (Region.ready .any ops listed).contains k && freeB ind ops k listed with
    | true => covQ ind ops m (listed.setIfInBounds k true) T'
    | false => covF (covQ ind ops m) ind ops listed (.op k T'))
  | m + 1, listed, .nil => covF (covQ ind ops m) ind ops listed .nil
  | m + 1, listed, .alt x y => covF (covQ ind ops m) ind ops listed (.alt x y)

section
variable {ind : Nat → Nat → Bool} {ops : Array Oper}

def Closed (ops : Array Oper) (L : Array Bool) : Prop := ∀ j o, L.getD j false = true → ops[j]? = some o → ∀ e ∈ o.after, Region.binds .any e = true → L.getD e.on false = true

theorem getD_set {L : Array Bool} {k j : Nat} {d : Bool} (h : j ≠ k) : (L.setIfInBounds k true).getD j d = L.getD j d := by
  have : ¬ k = j := fun e => h e.symm
  simp [Array.getD_eq_getD_getElem?, Array.getElem?_setIfInBounds, this]
theorem getD_mono {L : Array Bool} {k j : Nat} (h : L.getD j false = true) : (L.setIfInBounds k true).getD j false = true := by
  by_cases e : j = k
  · subst e
    have hl : j < L.size := by
      by_cases hl : j < L.size
      · exact hl
      · simp [hl] at h
    simp [Array.getD_eq_getD_getElem?, hl]
  · rw [getD_set e]; exact h

theorem ready_mono {L : Array Bool} {k i : Nat} (h : i ∈ Region.ready .any ops L) (hne : i ≠ k) : i ∈ Region.ready .any ops (L.setIfInBounds k true) := by
  obtain ⟨h1, o, ho, h2⟩ := mem_ready.1 h
  exact mem_ready.2 ⟨by rw [getD_set hne]; exact h1, o, ho, fun e he hb => getD_mono (h2 e he hb)⟩
theorem ready_unlisted {L : Array Bool} {i : Nat} (h : i ∈ Region.ready .any ops L) : L.getD i false = false ∧ i < L.size := by
  obtain ⟨h1, _⟩ := mem_ready.1 h
  by_cases hl : i < L.size
  · simp [Array.getD_eq_getD_getElem?, hl] at h1 ⊢; exact h1
  · simp [hl] at h1
theorem closed_set {L : Array Bool} (hc : Closed ops L) {k : Nat} (hk : k ∈ Region.ready .any ops L) : Closed ops (L.setIfInBounds k true) := by
  obtain ⟨h1, o, ho, h2⟩ := mem_ready.1 hk
  intro j oj hj hoj e he hb
  by_cases e1 : j = k
  · subst e1
    rw [ho] at hoj; cases hoj
    exact getD_mono (h2 e he hb)
  · rw [getD_set e1] at hj
    exact getD_mono (hc j oj hj hoj e he hb)
theorem set_comm {L : Array Bool} {i k : Nat} : (L.setIfInBounds i true).setIfInBounds k true = (L.setIfInBounds k true).setIfInBounds i true := by
  apply Array.ext_getElem?
  intro j
  simp only [Array.getElem?_setIfInBounds, Array.size_setIfInBounds]
  split <;> split <;> simp_all

theorem freeB_mono {k i : Nat} {L : Array Bool} (h : freeB ind ops k L = true) : freeB ind ops k (L.setIfInBounds i true) = true := by
  simp only [freeB, List.all_eq_true, Bool.or_eq_true, List.mem_range] at h ⊢
  intro j hj
  rcases h j hj with ((h | h) | h) | h
  · exact .inl (.inl (.inl h))
  · exact .inl (.inl (.inr (getD_mono h)))
  · exact .inl (.inr h)
  · exact .inr h

theorem free_ind {k i : Nat} {L : Array Bool} (hc : Closed ops L) (hf : freeB ind ops k L = true) (hk : k ∈ Region.ready .any ops L) (hi : i ∈ Region.ready .any ops L) (hne : i ≠ k) : ind k i = true := by
  obtain ⟨h1, o, ho, h2⟩ := mem_ready.1 hi
  simp only [freeB, List.all_eq_true, Bool.or_eq_true, List.mem_range] at hf
  rcases hf i (Array.getElem?_eq_some_iff.1 ho).1 with ((h | h) | h) | h
  · exact absurd (Nat.eq_of_beq_eq_true h) hne
  · rw [(ready_unlisted hi).1] at h; cases h
  · exact h
  · have := waits_listed hc _ k i o ho h2 h
    rw [(ready_unlisted hk).1] at this; cases this

theorem covF_next {rec_ : Array Bool → OT → Bool} {L : Array Bool} {T : OT} (h : covF rec_ ind ops L T = true) : (Region.ready .any ops L).isEmpty = false ∧ ∀ i ∈ Region.ready .any ops L, ∃ T', OT.first ind i T = some T' ∧ rec_ (L.setIfInBounds i true) T' = true := by
  simp only [covF, Bool.and_eq_true, Bool.not_eq_true', List.all_eq_true] at h
  refine ⟨h.1, fun i hi => ?_⟩
  have := h.2 i hi
  split at this
  · rename_i T' hT; exact ⟨T', hT, this⟩
  · cases this

theorem covQ_next : ∀ (m : Nat) (L : Array Bool) (T : OT), Closed ops L → covQ ind ops (m + 1) L T = true →
    (Region.ready .any ops L).isEmpty = false ∧ ∀ i ∈ Region.ready .any ops L, ∃ T', OT.first ind i T = some T' ∧ covQ ind ops m (L.setIfInBounds i true) T' = true := by
  intro m
  induction m with
  | zero =>
    intro L T hc h
    cases T with
    | nil => exact covF_next h
    | alt x y => exact covF_next h
    | op k T' =>
      simp only [covQ] at h
      split at h
      · rename_i hf
        simp only [Bool.and_eq_true, List.contains_eq_mem, decide_eq_true_eq] at hf
        refine ⟨List.isEmpty_eq_false_iff.2 (List.ne_nil_of_mem hf.1), fun i hi => ?_⟩
        by_cases e : i = k
        · subst e; exact ⟨T', by simp [OT.first], h⟩
        · have := ready_mono hi e
          simp only [Bool.and_eq_true, List.isEmpty_iff] at h
          rw [h.1] at this; cases this
      · exact covF_next h
  | succ m ih =>
    intro L T hc h
    cases T with
    | nil => exact covF_next h
    | alt x y => exact covF_next h
    | op k T' =>
      unfold covQ at h
      split at h
      · rename_i hf
        simp only [Bool.and_eq_true, List.contains_eq_mem, decide_eq_true_eq] at hf
        refine ⟨List.isEmpty_eq_false_iff.2 (List.ne_nil_of_mem hf.1), fun i hi => ?_⟩
        by_cases e : i = k
        · subst e; exact ⟨T', by simp [OT.first], h⟩
        · obtain ⟨T'', h1, h2⟩ := (ih _ T' (closed_set hc hf.1) h).2 i (ready_mono hi e)
          refine ⟨.op k T'', ?_, ?_⟩
          · have : ¬ k = i := fun e2 => e e2.symm
            rw [OT.first, if_neg this, if_pos (free_ind hc hf.2 hf.1 hi e), h1]; rfl
          · have hk2 : k ∈ Region.ready .any ops (L.setIfInBounds i true) := ready_mono hf.1 (fun e2 => e e2.symm)
            have hb : ((Region.ready .any ops (L.setIfInBounds i true)).contains k && freeB ind ops k (L.setIfInBounds i true)) = true := by
              simp only [Bool.and_eq_true, List.contains_eq_mem, decide_eq_true_eq]
              exact ⟨hk2, freeB_mono hf.2⟩
            unfold covQ
            rw [hb]
            rw [set_comm]
            exact h2
      · exact covF_next h

theorem covQ_covT : ∀ (m : Nat) (L : Array Bool) (T : OT), Closed ops L → covQ ind ops m L T = true → covT ind ops m L T = true
  | 0, L, T, _, h => h
  | m + 1, L, T, hc, h => by
    obtain ⟨h1, h2⟩ := covQ_next m L T hc h
    simp only [covT, Bool.and_eq_true, Bool.not_eq_true', List.all_eq_true]
    refine ⟨h1, fun i hi => ?_⟩
    obtain ⟨T', h3, h4⟩ := h2 i hi
    rw [h3]
    exact covQ_covT m _ T' (closed_set hc hi) h4

theorem DrawE.treeQ {S : Sig} {ops : Array Oper} {E : Env} {w : World} {K : Env → World → Prop} {QP : List PanicEntry → World → Prop} (X : List Nat) (T : OT)
    (h : (covQ (indepB S.τ X ops) ops ops.size (Array.replicate ops.size false) T && ops.all (fun o => noSel o.op)) = true) (k : opsT S ops.toList X QP T E w.drew K) : DrawE S ops E w K QP :=
  .inr ⟨X, T, by
    simp only [Bool.and_eq_true] at h ⊢
    refine ⟨covQ_covT _ _ _ (fun j o hj => ?_) h.1, h.2⟩
    by_cases hl : j < ops.size <;> simp [hl] at hj, k⟩
end
end Go.Vc
namespace Go.Proofs.YtedeohcdcaimhaaGreatDoor
open Go.Vc Go.RowKit Go.Sei

/-- What the comparison needs of a world: the mode in its box, the table of classes. -/
def Good (gm : Nat) (mode : UInt8) (X : World) : Prop := X.heap[gm]? = some (.cells #[u8 mode] 5 (0, 0)) ∧ Glob X ∧ 1 < X.heap.size

theorem queue_k (m : Msg) (mode : UInt8) (w : World) (hg : Glob w) : Calls Tryz.prog 86 #[m.val, u8 mode] w fun e w' => e = .returned (.agg ((qbs mode m).map u8).toArray) ∧ Below w.heap.size w w' :=
  (queue_c m mode w hg).mono fun _ _ h => h

theorem Cmp_c (gm : Nat) (mode : UInt8) (m n : Msg) (w : World) (hG : Good gm mode w) :
    Calls Tryz.prog 85 ([m.val, n.val] ++ (#[.pointer (some ⟨gm, 0, none⟩)] : Array Value).toList).toArray w fun e w' => ∃ v : Int, e = .returned (.int .i64 v) ∧ decide (v < 0) = (keyO (mkey mode)).lt m n ∧ Below w.heap.size w w' := by
  obtain ⟨hm, hg, _⟩ := hG
  refine calls_of_M (S := sg 25) (sgOk _) (args := [m.val, n.val, .pointer (some ⟨gm, 0, none⟩)]) (.c .p (.s (.s .p (.d (.c .p .p) .p)) .p)) Tryz.func85 rfl rfl (Nat.le_of_ble_eq_true rfl) rfl ?_
  refine ⟨Nat × Nat, fun s => ⟨[(2, .pointer (some ⟨gm, 0, none⟩)), (3, .pointer (some ⟨s.1, 0, none⟩)), (4, .pointer (some ⟨s.2, 0, none⟩)), (5, .int .i64 0)], []⟩,
    fun s V => V.heap[s.1]? = some (.cells m.val.cells 107 (0, 0)) ∧ V.heap[s.2]? = some (.cells n.val.cells 107 (0, 0)) ∧ Below w.heap.size w V, ?_, ?_⟩
  · exact ⟨(w.heap.size, (w.alloc (.cells m.val.cells 107)).heap.size), ⟨.cons rfl (.cons rfl (.cons rfl (.cons rfl .nil))), rfl⟩, hold (.cells n.val.cells 107) (hnew w (.cells m.val.cells 107)), hnew (w.alloc (.cells m.val.cells 107)) (.cells n.val.cells 107), ((Below.refl _ _).alloc (Nat.le_refl _) _).alloc (by simp) _⟩
  rintro ⟨q1, q2⟩ W ⟨f1, f2, hb1⟩
  have hm1 := block_below hb1 hm
  have hg1 := hg.below hb1
  refine ⟨_, cells_head (cells_block hm1), ?_⟩
  refine And.intro (fun h => ?_) (fun h => ?_)
  · have h : mode ≠ 1 := fun e => by subst e; simp at h
    refine ⟨Nat × Nat, fun s => ⟨[(6, .pointer (some ⟨s.1, 0, none⟩)), (7, .pointer (some ⟨s.2, 0, none⟩))], []⟩,
      fun s V => V.heap[s.1]? = some (.cells ((qbs mode m).map u8).toArray 160 (0, 0)) ∧ V.heap[s.2]? = some (.cells ((qbs mode n).map u8).toArray 160 (0, 0)) ∧ Below w.heap.size w V, ?_, ?_⟩
    rotate_left
    · rintro ⟨g, k⟩ V ⟨f1, f2, hb⟩
      have hb' := hb.drew
      have f1' := hdr f1
      have f2' := hdr f2
      refine DrawE.ord [] [0, 1, 2, 3] (by kernel_rfl) ?_
      refine Calls.mono (CompareL_c _ _ _ _ (qbs mode m) (qbs mode n) _ (bytes_row f1') (bytes_row f2') (Nat.le_of_ble_eq_true rfl)) ?_
      rintro _ _ ⟨rfl, rfl⟩
      refine ⟨Below.refl _ _, ?_⟩
      exact ⟨_, rfl, by simp only [keyO, mkey, if_neg h], hb'⟩
    refine DrawE.treeQ [8, 9] (.op 0 (.op 1 (.op 3 (.op 4 (.alt (.op 2 (.alt (.op 5 (.alt (.op 6 (.op 7 (.op 8 (.op 9 (.nil))))) (.op 7 (.op 6 (.op 8 (.op 9 (.nil))))))) (.alt (.op 6 (.alt (.op 5 (.op 7 (.op 8 (.op 9 (.nil))))) (.op 7 (.op 5 (.op 8 (.op 9 (.nil))))))) (.op 7 (.alt (.op 5 (.op 6 (.op 8 (.op 9 (.nil))))) (.op 6 (.op 5 (.op 8 (.op 9 (.nil)))))))))) (.alt (.op 6 (.alt (.op 2 (.alt (.op 5 (.op 7 (.op 8 (.op 9 (.nil))))) (.op 7 (.op 5 (.op 8 (.op 9 (.nil))))))) (.op 7 (.op 2 (.op 5 (.op 8 (.op 9 (.nil)))))))) (.op 7 (.alt (.op 2 (.alt (.op 5 (.op 6 (.op 8 (.op 9 (.nil))))) (.op 6 (.op 5 (.op 8 (.op 9 (.nil))))))) (.op 6 (.op 2 (.op 5 (.op 8 (.op 9 (.nil)))))))))))))) (by kernel_rfl) ?_
    have hG0 := hdr hm1
    have hw0 := hb1.drew
    have hg0 : Glob W.drew := hg1
    have f1 := hdr f1
    have f2 := hdr f2
    have hqq1 := hlt f1
    have hqq2 := hlt f2
    refine ⟨m.enc, rfl, cells_block f1, hqq1, ?_⟩
    refine ⟨_, cells_head (cells_block hG0), ?_⟩
    refine ⟨n.enc, rfl, cells_block f2, hqq2, ?_⟩
    refine ⟨_, cells_head (cells_block hG0), ?_⟩
    have hqm := hqq1
    have hqn := hqq2
    refine And.intro ?_ ?_
    · refine Calls.mono (queue_k m mode _ hg0) ?_
      rintro _ V1 ⟨rfl, hb1⟩
      refine ⟨hb1, ?_⟩
      have hw1 := hw0.trans (hb1.mono hw0.size)
      have hg1 := hg0.below hb1
      refine And.intro ?_ ?_
      · refine Calls.mono (queue_k n mode _ hg1) ?_
        rintro _ V2 ⟨rfl, hb2⟩
        refine ⟨hb2, ?_⟩
        have hw2 := hw1.trans (hb2.mono hw1.size)
        have hg2 := hg1.below hb2
        refine And.intro ?_ ?_
        · have hb3 : Below V2.heap.size V2 (V2.alloc (.cells #[.int .u8 0, .int .u8 0, .int .u8 0] 160)) := (Below.refl _ _).alloc (Nat.le_refl _) _
          refine ⟨hb3, ?_⟩
          have hw3 := hw2.trans (hb3.mono hw2.size)
          have hg3 := hg2.below hb3
          have hx3 := hnew V2 (.cells #[.int .u8 0, .int .u8 0, .int .u8 0] 160)
          have lhx := hw2.size
          have hb4 : Below (V2.alloc (.cells #[.int .u8 0, .int .u8 0, .int .u8 0] 160)).heap.size (V2.alloc (.cells #[.int .u8 0, .int .u8 0, .int .u8 0] 160)) ((V2.alloc (.cells #[.int .u8 0, .int .u8 0, .int .u8 0] 160)).alloc (.cells #[.int .u8 0, .int .u8 0, .int .u8 0] 160)) := (Below.refl _ _).alloc (Nat.le_refl _) _
          refine ⟨hb4, ?_⟩
          have hw4 := hw3.trans (hb4.mono hw3.size)
          have hg4 := hg3.below hb4
          have hlt12 : V2.heap.size < (V2.alloc (.cells #[.int .u8 0, .int .u8 0, .int .u8 0] 160)).heap.size := hlt hx3
          have hx4 := block_below hb4 hx3
          have hy4 := hnew (V2.alloc (.cells #[.int .u8 0, .int .u8 0, .int .u8 0] 160)) (.cells #[.int .u8 0, .int .u8 0, .int .u8 0] 160)
          have lhy := hw3.size
          have hne : V2.heap.size ≠ (V2.alloc (.cells #[.int .u8 0, .int .u8 0, .int .u8 0] 160)).heap.size := Nat.ne_of_lt hlt12
          refine store_box (v := .agg ((qbs mode m).map u8).toArray) (ttOk.get 160 _ rfl) hx4 (by rfl) rfl (by rfl) ?_
          refine store_box (v := .agg ((qbs mode n).map u8).toArray) (ttOk.get 160 _ rfl) ((setRow_old (Ne.symm hne)).trans hy4) (by rfl) rfl (by rfl) ?_
          refine ⟨(V2.heap.size, (V2.alloc (.cells #[.int .u8 0, .int .u8 0, .int .u8 0] 160)).heap.size), ⟨.cons rfl (.cons rfl .nil), rfl⟩, (setRow_old hne).trans (setRow_new hx4), setRow_new ((setRow_old (Ne.symm hne)).trans hy4), ?_⟩
          exact below_setRow (below_setRow hw4 lhx _) lhy _
        · have hb3 : Below V2.heap.size V2 (V2.alloc (.cells #[.int .u8 0, .int .u8 0, .int .u8 0] 160)) := (Below.refl _ _).alloc (Nat.le_refl _) _
          refine ⟨hb3, ?_⟩
          have hw3 := hw2.trans (hb3.mono hw2.size)
          have hg3 := hg2.below hb3
          have hy3 := hnew V2 (.cells #[.int .u8 0, .int .u8 0, .int .u8 0] 160)
          have lhy := hw2.size
          have hb4 : Below (V2.alloc (.cells #[.int .u8 0, .int .u8 0, .int .u8 0] 160)).heap.size (V2.alloc (.cells #[.int .u8 0, .int .u8 0, .int .u8 0] 160)) ((V2.alloc (.cells #[.int .u8 0, .int .u8 0, .int .u8 0] 160)).alloc (.cells #[.int .u8 0, .int .u8 0, .int .u8 0] 160)) := (Below.refl _ _).alloc (Nat.le_refl _) _
          refine ⟨hb4, ?_⟩
          have hw4 := hw3.trans (hb4.mono hw3.size)
          have hg4 := hg3.below hb4
          have hlt12 : V2.heap.size < (V2.alloc (.cells #[.int .u8 0, .int .u8 0, .int .u8 0] 160)).heap.size := hlt hy3
          have hy4 := block_below hb4 hy3
          have hx4 := hnew (V2.alloc (.cells #[.int .u8 0, .int .u8 0, .int .u8 0] 160)) (.cells #[.int .u8 0, .int .u8 0, .int .u8 0] 160)
          have lhx := hw3.size
          have hne : (V2.alloc (.cells #[.int .u8 0, .int .u8 0, .int .u8 0] 160)).heap.size ≠ V2.heap.size := (Nat.ne_of_lt hlt12).symm
          refine store_box (v := .agg ((qbs mode m).map u8).toArray) (ttOk.get 160 _ rfl) hx4 (by rfl) rfl (by rfl) ?_
          refine store_box (v := .agg ((qbs mode n).map u8).toArray) (ttOk.get 160 _ rfl) ((setRow_old (Ne.symm hne)).trans hy4) (by rfl) rfl (by rfl) ?_
          refine ⟨((V2.alloc (.cells #[.int .u8 0, .int .u8 0, .int .u8 0] 160)).heap.size, V2.heap.size), ⟨.cons rfl (.cons rfl .nil), rfl⟩, (setRow_old hne).trans (setRow_new hx4), setRow_new ((setRow_old (Ne.symm hne)).trans hy4), ?_⟩
          exact below_setRow (below_setRow hw4 lhx _) lhy _
      · refine And.intro ?_ ?_
        · have hb2 : Below V1.heap.size V1 (V1.alloc (.cells #[.int .u8 0, .int .u8 0, .int .u8 0] 160)) := (Below.refl _ _).alloc (Nat.le_refl _) _
          refine ⟨hb2, ?_⟩
          have hw2 := hw1.trans (hb2.mono hw1.size)
          have hg2 := hg1.below hb2
          have hx2 := hnew V1 (.cells #[.int .u8 0, .int .u8 0, .int .u8 0] 160)
          have lhx := hw1.size
          refine And.intro ?_ ?_
          · refine Calls.mono (queue_k n mode _ hg2) ?_
            rintro _ V3 ⟨rfl, hb3⟩
            refine ⟨hb3, ?_⟩
            have hw3 := hw2.trans (hb3.mono hw2.size)
            have hg3 := hg2.below hb3
            have hx3 := block_below hb3 hx2
            have hb4 : Below V3.heap.size V3 (V3.alloc (.cells #[.int .u8 0, .int .u8 0, .int .u8 0] 160)) := (Below.refl _ _).alloc (Nat.le_refl _) _
            refine ⟨hb4, ?_⟩
            have hw4 := hw3.trans (hb4.mono hw3.size)
            have hg4 := hg3.below hb4
            have hlt12 : V1.heap.size < V3.heap.size := hlt hx3
            have hx4 := block_below hb4 hx3
            have hy4 := hnew V3 (.cells #[.int .u8 0, .int .u8 0, .int .u8 0] 160)
            have lhy := hw3.size
            have hne : V1.heap.size ≠ V3.heap.size := Nat.ne_of_lt hlt12
            refine store_box (v := .agg ((qbs mode m).map u8).toArray) (ttOk.get 160 _ rfl) hx4 (by rfl) rfl (by rfl) ?_
            refine store_box (v := .agg ((qbs mode n).map u8).toArray) (ttOk.get 160 _ rfl) ((setRow_old (Ne.symm hne)).trans hy4) (by rfl) rfl (by rfl) ?_
            refine ⟨(V1.heap.size, V3.heap.size), ⟨.cons rfl (.cons rfl .nil), rfl⟩, (setRow_old hne).trans (setRow_new hx4), setRow_new ((setRow_old (Ne.symm hne)).trans hy4), ?_⟩
            exact below_setRow (below_setRow hw4 lhx _) lhy _
          · have hb3 : Below (V1.alloc (.cells #[.int .u8 0, .int .u8 0, .int .u8 0] 160)).heap.size (V1.alloc (.cells #[.int .u8 0, .int .u8 0, .int .u8 0] 160)) ((V1.alloc (.cells #[.int .u8 0, .int .u8 0, .int .u8 0] 160)).alloc (.cells #[.int .u8 0, .int .u8 0, .int .u8 0] 160)) := (Below.refl _ _).alloc (Nat.le_refl _) _
            refine ⟨hb3, ?_⟩
            have hw3 := hw2.trans (hb3.mono hw2.size)
            have hg3 := hg2.below hb3
            have hlt12 : V1.heap.size < (V1.alloc (.cells #[.int .u8 0, .int .u8 0, .int .u8 0] 160)).heap.size := hlt hx2
            have hx3 := block_below hb3 hx2
            have hy3 := hnew (V1.alloc (.cells #[.int .u8 0, .int .u8 0, .int .u8 0] 160)) (.cells #[.int .u8 0, .int .u8 0, .int .u8 0] 160)
            have lhy := hw2.size
            refine Calls.mono (queue_k n mode _ hg3) ?_
            rintro _ V4 ⟨rfl, hb4⟩
            refine ⟨hb4, ?_⟩
            have hw4 := hw3.trans (hb4.mono hw3.size)
            have hg4 := hg3.below hb4
            have hx4 := block_below hb4 hx3
            have hy4 := block_below hb4 hy3
            have hne : V1.heap.size ≠ (V1.alloc (.cells #[.int .u8 0, .int .u8 0, .int .u8 0] 160)).heap.size := Nat.ne_of_lt hlt12
            refine store_box (v := .agg ((qbs mode m).map u8).toArray) (ttOk.get 160 _ rfl) hx4 (by rfl) rfl (by rfl) ?_
            refine store_box (v := .agg ((qbs mode n).map u8).toArray) (ttOk.get 160 _ rfl) ((setRow_old (Ne.symm hne)).trans hy4) (by rfl) rfl (by rfl) ?_
            refine ⟨(V1.heap.size, (V1.alloc (.cells #[.int .u8 0, .int .u8 0, .int .u8 0] 160)).heap.size), ⟨.cons rfl (.cons rfl .nil), rfl⟩, (setRow_old hne).trans (setRow_new hx4), setRow_new ((setRow_old (Ne.symm hne)).trans hy4), ?_⟩
            exact below_setRow (below_setRow hw4 lhx _) lhy _
        · have hb2 : Below V1.heap.size V1 (V1.alloc (.cells #[.int .u8 0, .int .u8 0, .int .u8 0] 160)) := (Below.refl _ _).alloc (Nat.le_refl _) _
          refine ⟨hb2, ?_⟩
          have hw2 := hw1.trans (hb2.mono hw1.size)
          have hg2 := hg1.below hb2
          have hy2 := hnew V1 (.cells #[.int .u8 0, .int .u8 0, .int .u8 0] 160)
          have lhy := hw1.size
          refine And.intro ?_ ?_
          · refine Calls.mono (queue_k n mode _ hg2) ?_
            rintro _ V3 ⟨rfl, hb3⟩
            refine ⟨hb3, ?_⟩
            have hw3 := hw2.trans (hb3.mono hw2.size)
            have hg3 := hg2.below hb3
            have hy3 := block_below hb3 hy2
            have hb4 : Below V3.heap.size V3 (V3.alloc (.cells #[.int .u8 0, .int .u8 0, .int .u8 0] 160)) := (Below.refl _ _).alloc (Nat.le_refl _) _
            refine ⟨hb4, ?_⟩
            have hw4 := hw3.trans (hb4.mono hw3.size)
            have hg4 := hg3.below hb4
            have hlt12 : V1.heap.size < V3.heap.size := hlt hy3
            have hy4 := block_below hb4 hy3
            have hx4 := hnew V3 (.cells #[.int .u8 0, .int .u8 0, .int .u8 0] 160)
            have lhx := hw3.size
            have hne : V3.heap.size ≠ V1.heap.size := (Nat.ne_of_lt hlt12).symm
            refine store_box (v := .agg ((qbs mode m).map u8).toArray) (ttOk.get 160 _ rfl) hx4 (by rfl) rfl (by rfl) ?_
            refine store_box (v := .agg ((qbs mode n).map u8).toArray) (ttOk.get 160 _ rfl) ((setRow_old (Ne.symm hne)).trans hy4) (by rfl) rfl (by rfl) ?_
            refine ⟨(V3.heap.size, V1.heap.size), ⟨.cons rfl (.cons rfl .nil), rfl⟩, (setRow_old hne).trans (setRow_new hx4), setRow_new ((setRow_old (Ne.symm hne)).trans hy4), ?_⟩
            exact below_setRow (below_setRow hw4 lhx _) lhy _
          · have hb3 : Below (V1.alloc (.cells #[.int .u8 0, .int .u8 0, .int .u8 0] 160)).heap.size (V1.alloc (.cells #[.int .u8 0, .int .u8 0, .int .u8 0] 160)) ((V1.alloc (.cells #[.int .u8 0, .int .u8 0, .int .u8 0] 160)).alloc (.cells #[.int .u8 0, .int .u8 0, .int .u8 0] 160)) := (Below.refl _ _).alloc (Nat.le_refl _) _
            refine ⟨hb3, ?_⟩
            have hw3 := hw2.trans (hb3.mono hw2.size)
            have hg3 := hg2.below hb3
            have hlt12 : V1.heap.size < (V1.alloc (.cells #[.int .u8 0, .int .u8 0, .int .u8 0] 160)).heap.size := hlt hy2
            have hy3 := block_below hb3 hy2
            have hx3 := hnew (V1.alloc (.cells #[.int .u8 0, .int .u8 0, .int .u8 0] 160)) (.cells #[.int .u8 0, .int .u8 0, .int .u8 0] 160)
            have lhx := hw2.size
            refine Calls.mono (queue_k n mode _ hg3) ?_
            rintro _ V4 ⟨rfl, hb4⟩
            refine ⟨hb4, ?_⟩
            have hw4 := hw3.trans (hb4.mono hw3.size)
            have hg4 := hg3.below hb4
            have hy4 := block_below hb4 hy3
            have hx4 := block_below hb4 hx3
            have hne : (V1.alloc (.cells #[.int .u8 0, .int .u8 0, .int .u8 0] 160)).heap.size ≠ V1.heap.size := (Nat.ne_of_lt hlt12).symm
            refine store_box (v := .agg ((qbs mode m).map u8).toArray) (ttOk.get 160 _ rfl) hx4 (by rfl) rfl (by rfl) ?_
            refine store_box (v := .agg ((qbs mode n).map u8).toArray) (ttOk.get 160 _ rfl) ((setRow_old (Ne.symm hne)).trans hy4) (by rfl) rfl (by rfl) ?_
            refine ⟨((V1.alloc (.cells #[.int .u8 0, .int .u8 0, .int .u8 0] 160)).heap.size, V1.heap.size), ⟨.cons rfl (.cons rfl .nil), rfl⟩, (setRow_old hne).trans (setRow_new hx4), setRow_new ((setRow_old (Ne.symm hne)).trans hy4), ?_⟩
            exact below_setRow (below_setRow hw4 lhx _) lhy _
    · refine And.intro ?_ ?_
      · have hb1 : Below W.drew.heap.size W.drew (W.drew.alloc (.cells #[.int .u8 0, .int .u8 0, .int .u8 0] 160)) := (Below.refl _ _).alloc (Nat.le_refl _) _
        refine ⟨hb1, ?_⟩
        have hw1 := hw0.trans (hb1.mono hw0.size)
        have hg1 := hg0.below hb1
        have hx1 := hnew W.drew (.cells #[.int .u8 0, .int .u8 0, .int .u8 0] 160)
        have lhx := hw0.size
        refine And.intro ?_ ?_
        · refine Calls.mono (queue_k m mode _ hg1) ?_
          rintro _ V2 ⟨rfl, hb2⟩
          refine ⟨hb2, ?_⟩
          have hw2 := hw1.trans (hb2.mono hw1.size)
          have hg2 := hg1.below hb2
          have hx2 := block_below hb2 hx1
          refine And.intro ?_ ?_
          · refine Calls.mono (queue_k n mode _ hg2) ?_
            rintro _ V3 ⟨rfl, hb3⟩
            refine ⟨hb3, ?_⟩
            have hw3 := hw2.trans (hb3.mono hw2.size)
            have hg3 := hg2.below hb3
            have hx3 := block_below hb3 hx2
            have hb4 : Below V3.heap.size V3 (V3.alloc (.cells #[.int .u8 0, .int .u8 0, .int .u8 0] 160)) := (Below.refl _ _).alloc (Nat.le_refl _) _
            refine ⟨hb4, ?_⟩
            have hw4 := hw3.trans (hb4.mono hw3.size)
            have hg4 := hg3.below hb4
            have hlt12 : W.drew.heap.size < V3.heap.size := hlt hx3
            have hx4 := block_below hb4 hx3
            have hy4 := hnew V3 (.cells #[.int .u8 0, .int .u8 0, .int .u8 0] 160)
            have lhy := hw3.size
            have hne : W.drew.heap.size ≠ V3.heap.size := Nat.ne_of_lt hlt12
            refine store_box (v := .agg ((qbs mode m).map u8).toArray) (ttOk.get 160 _ rfl) hx4 (by rfl) rfl (by rfl) ?_
            refine store_box (v := .agg ((qbs mode n).map u8).toArray) (ttOk.get 160 _ rfl) ((setRow_old (Ne.symm hne)).trans hy4) (by rfl) rfl (by rfl) ?_
            refine ⟨(W.drew.heap.size, V3.heap.size), ⟨.cons rfl (.cons rfl .nil), rfl⟩, (setRow_old hne).trans (setRow_new hx4), setRow_new ((setRow_old (Ne.symm hne)).trans hy4), ?_⟩
            exact below_setRow (below_setRow hw4 lhx _) lhy _
          · have hb3 : Below V2.heap.size V2 (V2.alloc (.cells #[.int .u8 0, .int .u8 0, .int .u8 0] 160)) := (Below.refl _ _).alloc (Nat.le_refl _) _
            refine ⟨hb3, ?_⟩
            have hw3 := hw2.trans (hb3.mono hw2.size)
            have hg3 := hg2.below hb3
            have hlt12 : W.drew.heap.size < V2.heap.size := hlt hx2
            have hx3 := block_below hb3 hx2
            have hy3 := hnew V2 (.cells #[.int .u8 0, .int .u8 0, .int .u8 0] 160)
            have lhy := hw2.size
            refine Calls.mono (queue_k n mode _ hg3) ?_
            rintro _ V4 ⟨rfl, hb4⟩
            refine ⟨hb4, ?_⟩
            have hw4 := hw3.trans (hb4.mono hw3.size)
            have hg4 := hg3.below hb4
            have hx4 := block_below hb4 hx3
            have hy4 := block_below hb4 hy3
            have hne : W.drew.heap.size ≠ V2.heap.size := Nat.ne_of_lt hlt12
            refine store_box (v := .agg ((qbs mode m).map u8).toArray) (ttOk.get 160 _ rfl) hx4 (by rfl) rfl (by rfl) ?_
            refine store_box (v := .agg ((qbs mode n).map u8).toArray) (ttOk.get 160 _ rfl) ((setRow_old (Ne.symm hne)).trans hy4) (by rfl) rfl (by rfl) ?_
            refine ⟨(W.drew.heap.size, V2.heap.size), ⟨.cons rfl (.cons rfl .nil), rfl⟩, (setRow_old hne).trans (setRow_new hx4), setRow_new ((setRow_old (Ne.symm hne)).trans hy4), ?_⟩
            exact below_setRow (below_setRow hw4 lhx _) lhy _
        · have hb2 : Below (W.drew.alloc (.cells #[.int .u8 0, .int .u8 0, .int .u8 0] 160)).heap.size (W.drew.alloc (.cells #[.int .u8 0, .int .u8 0, .int .u8 0] 160)) ((W.drew.alloc (.cells #[.int .u8 0, .int .u8 0, .int .u8 0] 160)).alloc (.cells #[.int .u8 0, .int .u8 0, .int .u8 0] 160)) := (Below.refl _ _).alloc (Nat.le_refl _) _
          refine ⟨hb2, ?_⟩
          have hw2 := hw1.trans (hb2.mono hw1.size)
          have hg2 := hg1.below hb2
          have hlt12 : W.drew.heap.size < (W.drew.alloc (.cells #[.int .u8 0, .int .u8 0, .int .u8 0] 160)).heap.size := hlt hx1
          have hx2 := block_below hb2 hx1
          have hy2 := hnew (W.drew.alloc (.cells #[.int .u8 0, .int .u8 0, .int .u8 0] 160)) (.cells #[.int .u8 0, .int .u8 0, .int .u8 0] 160)
          have lhy := hw1.size
          refine Calls.mono (queue_k m mode _ hg2) ?_
          rintro _ V3 ⟨rfl, hb3⟩
          refine ⟨hb3, ?_⟩
          have hw3 := hw2.trans (hb3.mono hw2.size)
          have hg3 := hg2.below hb3
          have hx3 := block_below hb3 hx2
          have hy3 := block_below hb3 hy2
          refine Calls.mono (queue_k n mode _ hg3) ?_
          rintro _ V4 ⟨rfl, hb4⟩
          refine ⟨hb4, ?_⟩
          have hw4 := hw3.trans (hb4.mono hw3.size)
          have hg4 := hg3.below hb4
          have hx4 := block_below hb4 hx3
          have hy4 := block_below hb4 hy3
          have hne : W.drew.heap.size ≠ (W.drew.alloc (.cells #[.int .u8 0, .int .u8 0, .int .u8 0] 160)).heap.size := Nat.ne_of_lt hlt12
          refine store_box (v := .agg ((qbs mode m).map u8).toArray) (ttOk.get 160 _ rfl) hx4 (by rfl) rfl (by rfl) ?_
          refine store_box (v := .agg ((qbs mode n).map u8).toArray) (ttOk.get 160 _ rfl) ((setRow_old (Ne.symm hne)).trans hy4) (by rfl) rfl (by rfl) ?_
          refine ⟨(W.drew.heap.size, (W.drew.alloc (.cells #[.int .u8 0, .int .u8 0, .int .u8 0] 160)).heap.size), ⟨.cons rfl (.cons rfl .nil), rfl⟩, (setRow_old hne).trans (setRow_new hx4), setRow_new ((setRow_old (Ne.symm hne)).trans hy4), ?_⟩
          exact below_setRow (below_setRow hw4 lhx _) lhy _
      · have hb1 : Below W.drew.heap.size W.drew (W.drew.alloc (.cells #[.int .u8 0, .int .u8 0, .int .u8 0] 160)) := (Below.refl _ _).alloc (Nat.le_refl _) _
        refine ⟨hb1, ?_⟩
        have hw1 := hw0.trans (hb1.mono hw0.size)
        have hg1 := hg0.below hb1
        have hy1 := hnew W.drew (.cells #[.int .u8 0, .int .u8 0, .int .u8 0] 160)
        have lhy := hw0.size
        refine And.intro ?_ ?_
        · refine Calls.mono (queue_k m mode _ hg1) ?_
          rintro _ V2 ⟨rfl, hb2⟩
          refine ⟨hb2, ?_⟩
          have hw2 := hw1.trans (hb2.mono hw1.size)
          have hg2 := hg1.below hb2
          have hy2 := block_below hb2 hy1
          refine And.intro ?_ ?_
          · refine Calls.mono (queue_k n mode _ hg2) ?_
            rintro _ V3 ⟨rfl, hb3⟩
            refine ⟨hb3, ?_⟩
            have hw3 := hw2.trans (hb3.mono hw2.size)
            have hg3 := hg2.below hb3
            have hy3 := block_below hb3 hy2
            have hb4 : Below V3.heap.size V3 (V3.alloc (.cells #[.int .u8 0, .int .u8 0, .int .u8 0] 160)) := (Below.refl _ _).alloc (Nat.le_refl _) _
            refine ⟨hb4, ?_⟩
            have hw4 := hw3.trans (hb4.mono hw3.size)
            have hg4 := hg3.below hb4
            have hlt12 : W.drew.heap.size < V3.heap.size := hlt hy3
            have hy4 := block_below hb4 hy3
            have hx4 := hnew V3 (.cells #[.int .u8 0, .int .u8 0, .int .u8 0] 160)
            have lhx := hw3.size
            have hne : V3.heap.size ≠ W.drew.heap.size := (Nat.ne_of_lt hlt12).symm
            refine store_box (v := .agg ((qbs mode m).map u8).toArray) (ttOk.get 160 _ rfl) hx4 (by rfl) rfl (by rfl) ?_
            refine store_box (v := .agg ((qbs mode n).map u8).toArray) (ttOk.get 160 _ rfl) ((setRow_old (Ne.symm hne)).trans hy4) (by rfl) rfl (by rfl) ?_
            refine ⟨(V3.heap.size, W.drew.heap.size), ⟨.cons rfl (.cons rfl .nil), rfl⟩, (setRow_old hne).trans (setRow_new hx4), setRow_new ((setRow_old (Ne.symm hne)).trans hy4), ?_⟩
            exact below_setRow (below_setRow hw4 lhx _) lhy _
          · have hb3 : Below V2.heap.size V2 (V2.alloc (.cells #[.int .u8 0, .int .u8 0, .int .u8 0] 160)) := (Below.refl _ _).alloc (Nat.le_refl _) _
            refine ⟨hb3, ?_⟩
            have hw3 := hw2.trans (hb3.mono hw2.size)
            have hg3 := hg2.below hb3
            have hlt12 : W.drew.heap.size < V2.heap.size := hlt hy2
            have hy3 := block_below hb3 hy2
            have hx3 := hnew V2 (.cells #[.int .u8 0, .int .u8 0, .int .u8 0] 160)
            have lhx := hw2.size
            refine Calls.mono (queue_k n mode _ hg3) ?_
            rintro _ V4 ⟨rfl, hb4⟩
            refine ⟨hb4, ?_⟩
            have hw4 := hw3.trans (hb4.mono hw3.size)
            have hg4 := hg3.below hb4
            have hy4 := block_below hb4 hy3
            have hx4 := block_below hb4 hx3
            have hne : V2.heap.size ≠ W.drew.heap.size := (Nat.ne_of_lt hlt12).symm
            refine store_box (v := .agg ((qbs mode m).map u8).toArray) (ttOk.get 160 _ rfl) hx4 (by rfl) rfl (by rfl) ?_
            refine store_box (v := .agg ((qbs mode n).map u8).toArray) (ttOk.get 160 _ rfl) ((setRow_old (Ne.symm hne)).trans hy4) (by rfl) rfl (by rfl) ?_
            refine ⟨(V2.heap.size, W.drew.heap.size), ⟨.cons rfl (.cons rfl .nil), rfl⟩, (setRow_old hne).trans (setRow_new hx4), setRow_new ((setRow_old (Ne.symm hne)).trans hy4), ?_⟩
            exact below_setRow (below_setRow hw4 lhx _) lhy _
        · have hb2 : Below (W.drew.alloc (.cells #[.int .u8 0, .int .u8 0, .int .u8 0] 160)).heap.size (W.drew.alloc (.cells #[.int .u8 0, .int .u8 0, .int .u8 0] 160)) ((W.drew.alloc (.cells #[.int .u8 0, .int .u8 0, .int .u8 0] 160)).alloc (.cells #[.int .u8 0, .int .u8 0, .int .u8 0] 160)) := (Below.refl _ _).alloc (Nat.le_refl _) _
          refine ⟨hb2, ?_⟩
          have hw2 := hw1.trans (hb2.mono hw1.size)
          have hg2 := hg1.below hb2
          have hlt12 : W.drew.heap.size < (W.drew.alloc (.cells #[.int .u8 0, .int .u8 0, .int .u8 0] 160)).heap.size := hlt hy1
          have hy2 := block_below hb2 hy1
          have hx2 := hnew (W.drew.alloc (.cells #[.int .u8 0, .int .u8 0, .int .u8 0] 160)) (.cells #[.int .u8 0, .int .u8 0, .int .u8 0] 160)
          have lhx := hw1.size
          refine Calls.mono (queue_k m mode _ hg2) ?_
          rintro _ V3 ⟨rfl, hb3⟩
          refine ⟨hb3, ?_⟩
          have hw3 := hw2.trans (hb3.mono hw2.size)
          have hg3 := hg2.below hb3
          have hy3 := block_below hb3 hy2
          have hx3 := block_below hb3 hx2
          refine Calls.mono (queue_k n mode _ hg3) ?_
          rintro _ V4 ⟨rfl, hb4⟩
          refine ⟨hb4, ?_⟩
          have hw4 := hw3.trans (hb4.mono hw3.size)
          have hg4 := hg3.below hb4
          have hy4 := block_below hb4 hy3
          have hx4 := block_below hb4 hx3
          have hne : (W.drew.alloc (.cells #[.int .u8 0, .int .u8 0, .int .u8 0] 160)).heap.size ≠ W.drew.heap.size := (Nat.ne_of_lt hlt12).symm
          refine store_box (v := .agg ((qbs mode m).map u8).toArray) (ttOk.get 160 _ rfl) hx4 (by rfl) rfl (by rfl) ?_
          refine store_box (v := .agg ((qbs mode n).map u8).toArray) (ttOk.get 160 _ rfl) ((setRow_old (Ne.symm hne)).trans hy4) (by rfl) rfl (by rfl) ?_
          refine ⟨((W.drew.alloc (.cells #[.int .u8 0, .int .u8 0, .int .u8 0] 160)).heap.size, W.drew.heap.size), ⟨.cons rfl (.cons rfl .nil), rfl⟩, (setRow_old hne).trans (setRow_new hx4), setRow_new ((setRow_old (Ne.symm hne)).trans hy4), ?_⟩
          exact below_setRow (below_setRow hw4 lhx _) lhy _
  · have h : mode = 1 := by
      have h : ((mode.toNat : Int) = 1) := by simpa using h
      exact u8_eq.1 h
    subst h
    refine ⟨m.enc, rfl, cells_block f1, hlt f1, ?_⟩
    refine ⟨n.enc, rfl, cells_block f2, hlt f2, ?_⟩
    refine Calls.mono (Less_c m n W) ?_
    rintro _ V ⟨rfl, hbV⟩
    have hbV2 := hb1.trans (hbV.mono hb1.size)
    have f1V := block_below hbV f1
    have f2V := block_below hbV f2
    refine And.intro (fun h => ?_) (fun h => ?_)
    · exact ⟨-1, rfl, by simpa [keyO, mkey] using h, hbV2⟩
    · refine ⟨n.enc, rfl, cells_block f2V, hlt f2V, ?_⟩
      refine ⟨m.enc, rfl, cells_block f1V, hlt f1V, ?_⟩
      refine Calls.mono (Less_c n m V) ?_
      rintro _ V2 ⟨rfl, hbV3⟩
      have hbV4 := hbV2.trans (hbV3.mono hbV2.size)
      refine And.intro (fun h2 => ?_) (fun h2 => ?_)
      · exact ⟨1, rfl, by simpa [keyO, mkey] using h, hbV4⟩
      · exact ⟨0, rfl, by simpa [keyO, mkey] using h, hbV4⟩

theorem cell_same {A B : World} {g : Nat} (h : B.heap[g]? = A.heap[g]?) (o : Nat) : B.cell? ⟨g, o, none⟩ = A.cell? ⟨g, o, none⟩ := by
  simp only [World.cell?, h]

theorem cmpOk (gm : Nat) (mode : UInt8) (g : Nat) (h0 : 1 ≠ g) (hm : gm ≠ g) : CmpOk #[.pointer (some ⟨gm, 0, none⟩)] (keyO (mkey mode)) g (Good gm mode) where
  run X hX m n := Cmp_c gm mode m n X hX
  keep A B h k := by
    obtain ⟨h1, h2, h3⟩ := h
    refine ⟨(k.block gm (hlt h1) (by simpa using hm)).trans h1, ?_, Nat.lt_of_lt_of_le h3 k.size⟩
    refine cells_mk fun i v hv => ?_
    have := cells_at h2 hv
    rw [← this]
    exact cell_same (k.block 1 h3 (by simpa using h0)) _
end Go.Proofs.YtedeohcdcaimhaaGreatDoor
namespace Go.Sei
open Go.Vc

/-- May message i be delivered next? -/
def dlv (l : List Msg) (mode : UInt8) (i : Nat) : Bool :=
  decide (mode = 1) || (match l[i]? with
    | some m => decide (((l.take i).map (queue · mode)).count (queue m mode) = 0)
    | none => false)
def upto (l : List Msg) (mode : UInt8) (k : Nat) : List Nat := (List.range k).filter (dlv l mode)
def nextL (l : List Msg) (mode : UInt8) : List Nat := if knownB mode then upto l mode l.length else []
theorem upto_succ (l : List Msg) (mode : UInt8) (k : Nat) : upto l mode (k + 1) = upto l mode k ++ (if dlv l mode k then [k] else []) := by
  unfold upto; rw [List.range_succ, List.filter_append]; congr 1; simp [List.filter_cons]
theorem upto_prefix (l : List Msg) (mode : UInt8) {k n : Nat} (h : k ≤ n) : upto l mode k <+: upto l mode n := by
  induction n with
  | zero => have : k = 0 := by omega
            subst this; exact List.prefix_refl _
  | succ n ih =>
    rcases Nat.lt_or_ge k (n + 1) with h1 | h1
    · rw [upto_succ]; exact (ih (by omega)).trans (List.prefix_append _ _)
    · have : k = n + 1 := by omega
      subst this; exact List.prefix_refl _
/-- How often each queue has come up. -/
def cnt (l : List Msg) (mode : UInt8) (k : Nat) (q : UInt8 × UInt8 × UInt8) : Nat := ((l.take k).map (queue · mode)).count q
theorem cnt_succ (l : List Msg) (mode : UInt8) {k : Nat} (hk : k < l.length) (q : UInt8 × UInt8 × UInt8) : cnt l mode (k + 1) q = cnt l mode k q + if q = queue l[k] mode then 1 else 0 := by
  unfold cnt
  rw [List.take_succ_eq_append_getElem hk, List.map_append, List.count_append]
  simp only [List.map_cons, List.map_nil, List.count_cons, List.count_nil, Nat.zero_add, beq_iff_eq]
  congr 1
  by_cases h : q = queue l[k] mode
  · simp [h]
  · have : ¬ queue l[k] mode = q := fun e => h e.symm
    simp [h, this]
/-- The map that the iterator keeps. -/
def cntF (l : List Msg) (mode : UInt8) (k : Nat) (q : UInt8 × UInt8 × UInt8) : Option Value := if cnt l mode k q = 0 then none else some (.int .i64 (cnt l mode k q))
theorem cntF_getD (l : List Msg) (mode : UInt8) (k : Nat) (q : UInt8 × UInt8 × UInt8) : (cntF l mode k q).getD (.int .i64 0) = .int .i64 (cnt l mode k q) := by
  unfold cntF; split
  · rename_i h; simp [h]
  · rfl
theorem cnt_le (l : List Msg) (mode : UInt8) (k : Nat) (q : UInt8 × UInt8 × UInt8) : cnt l mode k q ≤ l.length := by
  unfold cnt
  refine Nat.le_trans List.count_le_length ?_
  simp; omega
theorem dlv_eq (l : List Msg) (mode : UInt8) {k : Nat} (hk : k < l.length) : dlv l mode k = (decide (mode = 1) || decide (cnt l mode k (queue l[k] mode) = 0)) := by
  unfold dlv cnt; rw [List.getElem?_eq_getElem hk]
theorem cntF_step (l : List Msg) (mode : UInt8) {k : Nat} (hk : k < l.length) : (fun q' => if q' = queue l[k] mode then some (Value.int .i64 (cnt l mode k (queue l[k] mode) + 1 : Int)) else if q' = queue l[k] mode then some ((cntF l mode k (queue l[k] mode)).getD (.int .i64 0)) else cntF l mode k q') = cntF l mode (k + 1) := by
  funext q
  have h := cnt_succ l mode hk q
  by_cases e : q = queue l[k] mode
  · subst e
    rw [if_pos rfl] at h
    simp [cntF, h]
  · rw [if_neg e, Nat.add_zero] at h
    simp [cntF, e, h]
end Go.Sei
namespace Go.Sei
open Go.Vc

def nats (l : List Nat) : List Int := l.map (fun (i : Nat) => (i : Int))
theorem nats_len (l : List Nat) : (nats l).length = l.length := by simp [nats]
theorem mem_nats (l : List Nat) (i : Nat) : ((i : Int) ∈ nats l) ↔ i ∈ l := by
  unfold nats; rw [List.mem_map]
  constructor
  · rintro ⟨a, ha, h⟩; have : a = i := by omega
    subst this; exact ha
  · exact fun h => ⟨i, h, rfl⟩

theorem mem_upto (l : List Msg) (mode : UInt8) (n i : Nat) : i ∈ upto l mode n ↔ i < n ∧ dlv l mode i = true := by
  unfold upto; simp [List.mem_filter]
theorem next_all (l : List Msg) : nextL l 1 = List.range l.length := by
  have : nextL l 1 = upto l 1 l.length := by simp [nextL, knownB]
  rw [this]; unfold upto
  rw [List.filter_eq_self]
  intro i _; simp [dlv]
theorem next_fifo (l : List Msg) : nextL l 2 = upto l 2 l.length := by simp [nextL, knownB]
theorem next_class (l : List Msg) : nextL l 3 = upto l 3 l.length := by simp [nextL, knownB]
theorem upto_head (l : List Msg) (mode : UInt8) (h : 0 < l.length) : ∃ t, upto l mode l.length = 0 :: t := by
  have h1 : upto l mode 1 <+: upto l mode l.length := upto_prefix l mode h
  have h2 : upto l mode 1 = [0] := by
    have : dlv l mode 0 = true := by rw [dlv_eq l mode h]; simp [cnt]
    have h3 := upto_succ l mode 0
    rw [this] at h3
    simpa [upto] using h3
  rw [h2] at h1
  obtain ⟨t, ht⟩ := h1
  exact ⟨t, ht.symm⟩
/-- Do messages j and i run between other pairs? -/
def differ (a b : Msg) : Bool := decide (¬ a.from_ = b.from_) || decide (¬ a.to = b.to)
theorem dlv_fifo (l : List Msg) {i : Nat} (hi : i < l.length) : dlv l 2 i = (l.take i).all (fun m => differ m l[i]) := by
  rw [dlv_eq l 2 hi]
  have h0 : decide ((2 : UInt8) = 1) = false := by decide
  rw [h0, Bool.false_or, Bool.eq_iff_iff, decide_eq_true_iff, List.all_eq_true]
  unfold cnt
  rw [List.count_eq_zero]
  constructor
  · intro h m hm
    have : queue m 2 ≠ queue l[i] 2 := fun e => h (List.mem_map.2 ⟨m, hm, e⟩)
    simp only [queue, differ] at this ⊢
    by_cases h1 : m.from_ = l[i].from_
    · by_cases h2 : m.to = l[i].to
      · exact absurd (by simp [h1, h2]) this
      · simp [h2]
    · simp [h1]
  · intro h hm
    obtain ⟨m, hm, e⟩ := List.mem_map.1 hm
    have := h m hm
    simp only [queue, Prod.mk.injEq] at e
    have e1 := e.1
    have e2 := e.2
    simp [differ, e1] at this
    exact this (by simpa using e2)
theorem fifo_class (l : List Msg) {i : Nat} (hi : i < l.length) (h : dlv l 2 i = true) : dlv l 3 i = true := by
  rw [dlv_fifo l hi, List.all_eq_true] at h
  rw [dlv_eq l 3 hi, decide_eq_false (show ¬ (3 : UInt8) = 1 by decide), Bool.false_or, decide_eq_true_iff]
  unfold cnt
  rw [List.count_eq_zero]
  intro hm
  obtain ⟨m, hm, e⟩ := List.mem_map.1 hm
  have := h m hm
  simp only [queue, Prod.mk.injEq] at e
  simp [differ, e.1, e.2.1] at this
/-- Is message i the first of its pair among the first k? -/
def firstB (l : List Msg) (m : Msg) (k : Nat) : Bool := (l.take k).all (fun a => differ a m)
theorem firstB_succ (l : List Msg) (m : Msg) {k : Nat} (hk : k < l.length) : firstB l m (k + 1) = (firstB l m k && differ l[k] m) := by
  unfold firstB; rw [List.take_succ_eq_append_getElem hk, List.all_append]; simp only [List.all_cons, List.all_nil, Bool.and_true]
end Go.Sei
namespace Go.Proofs.YtedeohcdcaimhaaGreatDoor
open Go.Vc Go.RowKit Go.Sei

abbrev mO (mode : UInt8) : MOrd Msg := keyO (mkey mode)
/-- r is a stable sort of l. -/
def IsSort (mode : UInt8) (l r : List Msg) : Prop := ∃ ys : List (Tg Msg), Srt (mO mode) ys ∧ ys.Perm l.zipIdx ∧ r = ys.map Prod.fst
/-- The messages of each queue are the same, and in the same order. -/
def EqM (mode : UInt8) (a b : List Msg) : Prop := ∀ q, a.filter (fun m => decide (mkey mode m = q)) = b.filter (fun m => decide (mkey mode m = q))

theorem zip_places : ∀ (l : List Msg) (n : Nat), (l.zipIdx n).Pairwise (fun x y => x.2 < y.2)
  | [], _ => by simp
  | a :: r, n => by
    rw [List.zipIdx_cons, List.pairwise_cons]
    refine ⟨fun x hx => ?_, zip_places r (n + 1)⟩
    obtain ⟨_, h2⟩ := List.mem_zipIdx hx
    dsimp only; omega
theorem zip_fst : ∀ (l : List Msg) (n : Nat), (l.zipIdx n).map Prod.fst = l
  | [], _ => rfl
  | a :: r, n => by rw [List.zipIdx_cons, List.map_cons, zip_fst r (n + 1)]
theorem IsSort.perm {mode : UInt8} {l r : List Msg} (h : IsSort mode l r) : r.Perm l := by
  obtain ⟨ys, _, h2, rfl⟩ := h
  have := h2.map Prod.fst
  rwa [zip_fst] at this
theorem IsSort.filt {mode : UInt8} {l r : List Msg} (h : IsSort mode l r) : EqM mode r l := by
  intro q
  obtain ⟨ys, h1, h2, rfl⟩ := h
  have h3 : (ys.filter (fun x => decide (mkey mode x.1 = q))) = l.zipIdx.filter (fun x => decide (mkey mode x.1 = q)) := by
    refine srt_unique (O := mO mode) (h1.filter _) ?_ (h2.filter _)
    refine List.Pairwise.imp_of_mem ?_ ((zip_places l 0).filter _)
    intro x y hx hy hxy
    have e1 := of_decide_eq_true (List.mem_filter.1 hx).2
    have e2 := of_decide_eq_true (List.mem_filter.1 hy).2
    refine .inr ⟨?_, hxy⟩
    simp only [keyO, e1, e2, cmpL_self]; rfl
  have h4 := congrArg (List.map Prod.fst) h3
  have e : ∀ (zs : List (Tg Msg)), (zs.filter (fun x => decide (mkey mode x.1 = q))).map Prod.fst = (zs.map Prod.fst).filter (fun m => decide (mkey mode m = q)) := fun zs => by
    rw [List.filter_map]; rfl
  rw [e, e, zip_fst] at h4
  exact h4
theorem IsSort.sorted {mode : UInt8} {l r : List Msg} (h : IsSort mode l r) : r.Pairwise (fun x y => (mO mode).lt y x = false) := by
  obtain ⟨ys, h1, h2, rfl⟩ := h
  rw [List.pairwise_map]
  refine h1.imp fun h => ?_
  rcases h with h | ⟨h, _⟩
  · exact (mO mode).asymm h
  · exact h
theorem sorted_uniq {mode : UInt8} : ∀ (r1 r2 : List Msg), r1.Pairwise (fun x y => (mO mode).lt y x = false) → r2.Pairwise (fun x y => (mO mode).lt y x = false) → EqM mode r1 r2 → r1 = r2
  | [], [], _, _, _ => rfl
  | [], y :: t, _, _, h => by have := h (mkey mode y); simp at this
  | x :: t, [], _, _, h => by have := h (mkey mode x); simp at this
  | x :: t, y :: u, h1, h2, h => by
    have p1 := List.pairwise_cons.1 h1
    have p2 := List.pairwise_cons.1 h2
    have hk : mkey mode x = mkey mode y := by
      have hx : x ∈ (y :: u).filter (fun m => decide (mkey mode m = mkey mode x)) := by rw [← h]; simp
      have hy : y ∈ (x :: t).filter (fun m => decide (mkey mode m = mkey mode y)) := by rw [h]; simp
      have hx := (List.mem_filter.1 hx).1
      have hy := (List.mem_filter.1 hy).1
      have a1 : (mO mode).lt x y = false := by
        rcases List.mem_cons.1 hx with e | hx
        · rw [e]; exact (mO mode).irr _
        · exact p2.1 x hx
      have a2 : (mO mode).lt y x = false := by
        rcases List.mem_cons.1 hy with e | hy
        · rw [e]; exact (mO mode).irr _
        · exact p1.1 y hy
      rcases cmpL_total (mkey mode x) (mkey mode y) with h | h | h
      · have a1 := of_decide_eq_false a1; exact absurd h a1
      · have a2 := of_decide_eq_false a2; exact absurd h a2
      · exact h
    have hh := h (mkey mode x)
    rw [List.filter_cons_of_pos (by simp), List.filter_cons_of_pos (by simp [hk])] at hh
    simp only [List.cons.injEq] at hh
    obtain ⟨e, _⟩ := hh
    subst e
    rw [sorted_uniq t u p1.2 p2.2 fun q => ?_]
    have := h q
    simp only [List.filter_cons] at this
    split at this
    · exact (List.cons.inj this).2
    · exact this
theorem isSort_eq {mode : UInt8} {a b r s : List Msg} (h1 : IsSort mode a r) (h2 : IsSort mode b s) : r = s ↔ EqM mode a b := by
  constructor
  · intro e q
    subst e
    rw [← h1.filt q, h2.filt q]
  · intro e
    exact sorted_uniq r s h1.sorted h2.sorted fun q => by rw [h1.filt q, e q, h2.filt q]
theorem EqM.perm {mode : UInt8} {a b : List Msg} (h : EqM mode a b) : a.Perm b := by
  rw [List.perm_iff_count]
  intro m
  have := congrArg (List.count m) (h (mkey mode m))
  rwa [List.count_filter (by simp), List.count_filter (by simp)] at this
theorem EqM.symm {mode : UInt8} {a b : List Msg} (h : EqM mode a b) : EqM mode b a := fun q => (h q).symm
theorem EqM.refl (mode : UInt8) (a : List Msg) : EqM mode a a := fun _ => rfl
theorem EqM.trans {mode : UInt8} {a b c : List Msg} (h : EqM mode a b) (k : EqM mode b c) : EqM mode a c := fun q => (h q).trans (k q)
theorem bag_inj {x y : Msg} (h : mkey 1 x = mkey 1 y) : x = y := codeOf_inj (by simpa [mkey] using h)
theorem perm_bag {a b : List Msg} (h : a.Perm b) : EqM 1 a b := by
  intro q
  have h1 : ∀ x ∈ a.filter (fun m => decide (mkey 1 m = q)), ∀ y ∈ a.filter (fun m => decide (mkey 1 m = q)), x = y := fun x hx y hy => by
    have hx := of_decide_eq_true (List.mem_filter.1 hx).2
    have hy := of_decide_eq_true (List.mem_filter.1 hy).2
    exact bag_inj (hx.trans hy.symm)
  have h2 := h.filter (fun m => decide (mkey 1 m = q))
  generalize a.filter (fun m => decide (mkey 1 m = q)) = u at h1 h2
  generalize b.filter (fun m => decide (mkey 1 m = q)) = v at h2
  match u, v with
  | [], v => exact h2.nil_eq
  | x :: u, v =>
    have e1 : x :: u = List.replicate (u.length + 1) x := by rw [List.eq_replicate_iff]; exact ⟨rfl, fun y hy => h1 y hy x (by simp)⟩
    rw [e1] at h2 ⊢
    first | exact List.replicate_perm.1 h2 | exact (List.replicate_perm.1 h2).symm

theorem qbs_eq {mode : UInt8} {x y : Msg} : qbs mode x = qbs mode y ↔ queue x mode = queue y mode := by
  constructor
  · intro h
    simp only [qbs, List.cons.injEq, and_true] at h
    exact Prod.ext h.1 (Prod.ext h.2.1 h.2.2)
  · intro h; simp only [qbs, h]
/-- What is taken away is the first of its queue. -/
theorem filt_erase {mode : UInt8} {l : List Msg} {i : Nat} (hi : i < l.length) (hd : dlv l mode i = true) (q : List UInt8) :
    (l.eraseIdx i).filter (fun m => decide (mkey mode m = q)) = if mkey mode l[i] = q then (l.filter (fun m => decide (mkey mode m = q))).tail else l.filter (fun m => decide (mkey mode m = q)) := by
  have e : l = l.take i ++ l[i] :: l.drop (i + 1) := by rw [List.getElem_cons_drop, List.take_append_drop]
  have e2 : l.filter (fun m => decide (mkey mode m = q)) = (l.take i).filter (fun m => decide (mkey mode m = q)) ++ (l[i] :: l.drop (i + 1)).filter (fun m => decide (mkey mode m = q)) := by
    rw [← List.filter_append, ← e]
  rw [List.eraseIdx_eq_take_drop_succ, List.filter_append, e2]
  by_cases h : mkey mode l[i] = q
  · rw [if_pos h, List.filter_cons_of_pos (by simp [h])]
    by_cases hm : mode = 1
    · subst hm
      have : (l.take i).filter (fun m => decide (mkey 1 m = q)) = List.replicate ((l.take i).filter (fun m => decide (mkey 1 m = q))).length l[i] := by
        rw [List.eq_replicate_iff]
        exact ⟨rfl, fun y hy => bag_inj ((of_decide_eq_true (List.mem_filter.1 hy).2).trans h.symm)⟩
      generalize ((l.take i).filter (fun m => decide (mkey 1 m = q))) = X at this ⊢
      rw [this]
      generalize X.length = n
      cases n with
      | zero => rfl
      | succ n =>
        rw [List.replicate_succ, List.cons_append, List.cons_append, List.tail_cons, ← List.cons_append, ← List.replicate_succ, List.replicate_succ']
        simp
    · have : (l.take i).filter (fun m => decide (mkey mode m = q)) = [] := by
        rw [List.filter_eq_nil_iff]
        intro m hmem hk
        have hk := of_decide_eq_true hk
        rw [dlv_eq l mode hi, decide_eq_false hm, Bool.false_or, decide_eq_true_iff] at hd
        unfold cnt at hd
        rw [List.count_eq_zero] at hd
        refine hd (List.mem_map.2 ⟨m, hmem, ?_⟩)
        have := hk.trans h.symm
        simp only [mkey, if_neg hm] at this
        exact qbs_eq.1 this
      rw [this]; rfl
  · rw [if_neg h, List.filter_cons_of_neg (by simp [h])]
theorem filt_head {mode : UInt8} {l : List Msg} {i : Nat} (hi : i < l.length) (hd : dlv l mode i = true) : (l.filter (fun m => decide (mkey mode m = mkey mode l[i]))).head? = some l[i] := by
  have e : l = l.take i ++ l[i] :: l.drop (i + 1) := by rw [List.getElem_cons_drop, List.take_append_drop]
  have e2 : l.filter (fun m => decide (mkey mode m = mkey mode l[i])) = (l.take i).filter (fun m => decide (mkey mode m = mkey mode l[i])) ++ (l[i] :: l.drop (i + 1)).filter (fun m => decide (mkey mode m = mkey mode l[i])) := by
    rw [← List.filter_append, ← e]
  rw [e2, List.filter_cons_of_pos (by simp)]
  by_cases hm : mode = 1
  · subst hm
    cases h : (l.take i).filter (fun m => decide (mkey 1 m = mkey 1 l[i])) with
    | nil => rfl
    | cons y r =>
      have hy : y ∈ (l.take i).filter (fun m => decide (mkey 1 m = mkey 1 l[i])) := by rw [h]; simp
      have := bag_inj (of_decide_eq_true (List.mem_filter.1 hy).2)
      rw [this]; rfl
  · have : (l.take i).filter (fun m => decide (mkey mode m = mkey mode l[i])) = [] := by
      rw [List.filter_eq_nil_iff]
      intro m hmem hk
      have hk := of_decide_eq_true hk
      rw [dlv_eq l mode hi, decide_eq_false hm, Bool.false_or, decide_eq_true_iff] at hd
      unfold cnt at hd
      rw [List.count_eq_zero] at hd
      refine hd (List.mem_map.2 ⟨m, hmem, ?_⟩)
      simp only [mkey, if_neg hm] at hk
      exact qbs_eq.1 hk
    rw [this]; rfl
/-- What may be delivered from one of two equivalent lists may be delivered from the other. -/
theorem eqM_next {mode : UInt8} {a b : List Msg} (h : EqM mode a b) {i : Nat} (hi : i < a.length) (hd : dlv a mode i = true) :
    ∃ k, ∃ hk : k < b.length, dlv b mode k = true ∧ a[i] = b[k] ∧ EqM mode (a.eraseIdx i) (b.eraseIdx k) := by
  have h1 := filt_head hi hd
  rw [h] at h1
  cases hb : b.filter (fun m => decide (mkey mode m = mkey mode a[i])) with
  | nil => rw [hb] at h1; cases h1
  | cons y t =>
    rw [hb] at h1
    have hy : y = a[i] := by simpa using h1
    obtain ⟨X, Y, e, hX, hp, _⟩ := List.filter_eq_cons_iff.1 hb
    subst e
    have hk : X.length < (X ++ y :: Y).length := by simp
    have hg : (X ++ y :: Y)[X.length] = y := by simp
    have hdk : dlv (X ++ y :: Y) mode X.length = true := by
      rw [dlv_eq _ mode hk]
      by_cases hm : mode = 1
      · simp [hm]
      · rw [decide_eq_false hm, Bool.false_or, decide_eq_true_iff]
        unfold cnt
        rw [List.count_eq_zero, List.take_left, hg]
        intro hmem
        obtain ⟨m, hm1, hm2⟩ := List.mem_map.1 hmem
        have := hX m hm1
        refine this (decide_eq_true ?_)
        rw [hy] at hm2
        simp only [mkey, if_neg hm]
        exact qbs_eq.2 hm2
    refine ⟨X.length, hk, hdk, by rw [hg, hy], fun q => ?_⟩
    rw [filt_erase hi hd q, filt_erase hk hdk q, hg, h q]
    rw [← hy]
/-- A delivery in order. -/
theorem deliver {mode : UInt8} {l : List Msg} {i : Nat} (hi : i < l.length) (hd : dlv l mode i = true) (out : List Msg) (q : List UInt8) :
    (out ++ [l[i]]).filter (fun m => decide (mkey mode m = q)) ++ (l.eraseIdx i).filter (fun m => decide (mkey mode m = q)) = out.filter (fun m => decide (mkey mode m = q)) ++ l.filter (fun m => decide (mkey mode m = q)) := by
  rw [filt_erase hi hd q, List.filter_append, List.append_assoc]
  congr 1
  by_cases h : mkey mode l[i] = q
  · rw [if_pos h, List.filter_cons_of_pos (by simp [h])]
    have := filt_head hi hd
    rw [h] at this
    cases hl : l.filter (fun m => decide (mkey mode m = q)) with
    | nil => rw [hl] at this; cases this
    | cons y t => rw [hl] at this; simp at this; simp [this]
  · rw [if_neg h, List.filter_cons_of_neg (by simp [h])]; rfl
end Go.Proofs.YtedeohcdcaimhaaGreatDoor
namespace Go.Proofs.YtedeohcdcaimhaaGreatDoor
open Go.Vc Go.RowKit Go.Sei

theorem own_weaken {B B' cap : Nat} {w : World} {p : Option Addr} {l : List Msg} (h : OwnS Msg.E 107 B w p cap l) (hB : B' ≤ B) : OwnS Msg.E 107 B' w p cap l := by
  obtain ⟨h1, h2⟩ := h
  refine ⟨h1, h2.imp id ?_⟩
  rintro ⟨g, c, cur, e1, e2, rest⟩
  exact ⟨g, c, cur, e1, by omega, rest⟩
end Go.Proofs.YtedeohcdcaimhaaGreatDoor
namespace Go.Proofs.YtedeohcdcaimhaaGreatDoor
open Go.Vc Go.RowKit Go.Sei

theorem insertion0_c (p : Option Addr) (cap : Nat) (f : Value) (w : World) : Calls Tryz.prog 110 #[.slice p 0 cap, .int .i64 0, .int .i64 0, f] w fun e w' => (∃ v, e = .returned v) ∧ w = w' := by
  refine calls_of_E (S := sg 53) (sgOk _) (args := [.slice p 0 cap, .int .i64 0, .int .i64 0, f]) Tryz.func110 rfl rfl (Nat.le_of_ble_eq_true rfl) rfl ?_
  refine ⟨1, (wrap_i64 (by omega)).trans (by omega), ?_⟩
  refine ⟨Unit, fun _ => ⟨[(0, .slice p 0 cap), (1, .int .i64 0), (2, .int .i64 0), (3, f), (8, .int .i64 1)], []⟩, fun _ V => w = V, fun _ => 0, (), ⟨.cons rfl (.cons rfl (.cons rfl (.cons rfl (.cons rfl .nil)))), rfl⟩, rfl, ?_⟩
  rintro _ _ rfl
  refine And.intro (fun h => absurd (of_decide_eq_true h) (by omega)) (fun _ => ?_)
  exact And.intro ⟨_, rfl⟩ rfl
theorem stable0_c (p : Option Addr) (cap : Nat) (f : Value) (w : World) : Calls Tryz.prog 102 #[.slice p 0 cap, .int .i64 0, f] w fun e w' => (∃ v, e = .returned v) ∧ w = w' := by
  refine calls_of_E (S := sg 63) (sgOk _) (args := [.slice p 0 cap, .int .i64 0, f]) Tryz.func102 rfl rfl (Nat.le_of_ble_eq_true rfl) rfl ?_
  refine ⟨Unit, fun _ => ⟨[(0, .slice p 0 cap), (1, .int .i64 0), (2, f), (6, .int .i64 20), (7, .int .i64 0), (8, .int .i64 20)], []⟩, fun _ V => w = V, fun _ => 0, (), ⟨.cons rfl (.cons rfl (.cons rfl (.cons rfl (.cons rfl (.cons rfl .nil))))), rfl⟩, rfl, ?_⟩
  rintro _ _ rfl
  refine And.intro (fun h => absurd (of_decide_eq_true h) (by omega)) (fun _ => ?_)
  refine Calls.mono (insertion0_c p cap f w) ?_
  rintro e _ ⟨⟨v, rfl⟩, rfl⟩
  refine ⟨Unit, fun _ => ⟨[(0, .slice p 0 cap), (1, .int .i64 0), (2, f), (6, .int .i64 20)], []⟩, fun _ V => w = V, fun _ => 0, (), ⟨.cons rfl (.cons rfl (.cons rfl (.cons rfl .nil))), rfl⟩, rfl, ?_⟩
  rintro _ _ rfl
  refine And.intro (fun h => absurd (of_decide_eq_true h) (by omega)) (fun _ => ?_)
  exact And.intro ⟨_, rfl⟩ rfl
theorem sort0_c (p : Option Addr) (cap : Nat) (f : Value) (w : World) : Calls Tryz.prog 84 #[.slice p 0 cap, f] w fun e w' => (∃ v, e = .returned v) ∧ w = w' := by
  refine calls_of_E (S := sg 9) (sgOk _) (args := [.slice p 0 cap, f]) Tryz.func84 rfl rfl (Nat.le_of_ble_eq_true rfl) rfl ?_
  refine Calls.mono (stable0_c p cap f w) ?_
  rintro e _ ⟨⟨v, rfl⟩, rfl⟩
  exact And.intro ⟨_, rfl⟩ rfl

theorem Sort_c (p : Option Addr) (cap : Nat) (l : List Msg) (mode : UInt8) (w : World) (hl : SlR Msg.E w p l) (hk : p = none → cap = 0) (hg : Glob w) (hn : l.length ≤ 1000000000) :
    Calls Tryz.prog 49 #[.slice p l.length cap, u8 mode] w fun e w' => ∃ r p' cap', e = .returned (.slice p' r.length cap') ∧ (knownB mode = true → IsSort mode l r) ∧ (knownB mode = false → r = l) ∧
      OwnS Msg.E 107 w.heap.size w' p' cap' r ∧ Below w.heap.size w w' := by
  have h0 : 1 < w.heap.size := World.block_lt_of_cell? w _ (cells_head hg)
  refine calls_of_M (S := sg 17) (sgOk _) (args := [.slice p l.length cap, u8 mode]) (.s .p (.c .p .p)) Tryz.func49 rfl rfl (Nat.le_of_ble_eq_true rfl) rfl ?_
  refine ⟨Option Addr × Nat, fun s => ⟨[(3, .pointer (some ⟨w.heap.size, 0, none⟩)), (5, .slice s.1 l.length s.2)], []⟩,
    fun s V => V.heap[w.heap.size]? = some (.cells #[u8 mode] 5 (0, 0)) ∧ OwnS Msg.E 107 (w.heap.size + 1) V s.1 s.2 l ∧ Below w.heap.size w V, ?_, ?_⟩
  · refine ⟨⟨by decide, by decide, rfl⟩, [.slice p l.length cap], rfl, ?_⟩
    have hb1 : Below w.heap.size w (w.alloc (.cells #[u8 mode] 5)) := (Below.refl _ _).alloc (Nat.le_refl _) _
    have f1 := hnew w (.cells #[u8 mode] 5)
    have hb2 : Below (w.alloc (.cells #[u8 mode] 5)).heap.size (w.alloc (.cells #[u8 mode] 5)) ((w.alloc (.cells #[u8 mode] 5)).alloc (.cells #[.slice p l.length cap] 56)) := (Below.refl _ _).alloc (Nat.le_refl _) _
    have hb12 := hb1.trans (hb2.mono hb1.size)
    have ht : total [⟨p, cap, l⟩] = l := by simp [total]
    refine Calls.mono (Concat_c (some ⟨(w.alloc (.cells #[u8 mode] 5)).heap.size, 0, none⟩) 1 [⟨p, cap, l⟩] _ (SlR.of_cells (by simp) cells_new) (fun q hq => ?_) (by rw [ht]; exact hn) (by simp)) ?_
    · simp only [List.mem_cons, List.not_mem_nil, or_false] at hq
      subst hq
      exact ⟨hl.below hb12, hk⟩
    rintro e V ⟨p', cap', rfl, ho, hb3⟩
    rw [ht] at ho ⊢
    exact ⟨(p', cap'), ⟨.cons rfl (.cons rfl .nil), rfl⟩, block_below hb3 (block_below hb2 f1), own_weaken ho (by simp), hb12.trans (hb3.mono hb12.size)⟩
  rintro ⟨p1, c1⟩ V ⟨f1, ho, hb⟩
  refine ⟨_, cells_head (cells_block f1), ?_⟩
  refine Calls.mono (known_c mode V) ?_
  rintro e _ ⟨rfl, rfl⟩
  refine And.intro (fun h => ?_) (fun h => ?_)
  · have h : knownB mode = false := by simpa using h
    exact ⟨l, p1, c1, rfl, fun h2 => absurd (h.symm.trans h2) (by decide), fun _ => rfl, own_weaken ho (by omega), hb⟩
  have h : knownB mode = true := by simpa using h
  rcases ho.inv with ⟨e1, e2, e3⟩ | ⟨g, cur, e1, hBg, hgr, hlc, hcm, hcs, htk⟩
  · subst e3
    refine Calls.mono (sort0_c p1 c1 _ V) ?_
    rintro e _ ⟨⟨v, rfl⟩, rfl⟩
    exact ⟨[], p1, c1, rfl, fun _ => ⟨[], by simp [Srt], by simp, rfl⟩, fun _ => rfl, own_weaken ho (by omega), hb⟩
  · dsimp only at e1
    subst e1
    have hrow : RowM V g (cur.toList.drop (l.length * 11)) (List.map Prod.fst l.zipIdx) := by
      rw [zip_fst]
      show V.heap[g]? = _
      rw [hgr, ← htk]
      show some (Obj.cells cur 107 (0, 0)) = some (Obj.cells (cur.toList.take (l.length * 11) ++ cur.toList.drop (l.length * 11)).toArray 107 (0, 0))
      rw [List.take_append_drop]
    have hgl : g ≠ w.heap.size := by omega
    refine Calls.mono (sortStable_c #[.pointer (some ⟨w.heap.size, 0, none⟩)] (mO mode) (Good w.heap.size mode) g c1 l.length (cur.toList.drop (l.length * 11)) l.zipIdx V (cmpOk w.heap.size mode g (by omega) (Ne.symm hgl)) hn ⟨f1, hg.below hb, Nat.lt_of_lt_of_le h0 hb.size⟩ hrow (zip_places l 0) (by simp)) ?_
    rintro e W ⟨⟨v, rfl⟩, ⟨ys, y1, y2, y3⟩, hgW⟩
    have hlen : (List.map Prod.fst ys).length = l.length := by rw [List.length_map, y2.length_eq]; simp
    refine ⟨List.map Prod.fst ys, some ⟨g, 0, none⟩, c1, by rw [hlen]; rfl, fun _ => ⟨ys, y1, y2, rfl⟩, fun h2 => absurd (h.symm.trans h2) (by decide), ?_, hb.grown hgW hb.size (fun k e => by simp at e; omega)⟩
    refine ⟨flat_len _, .inr ⟨g, c1, _, rfl, by omega, y3, by omega, hcm, ?_, ?_⟩⟩
    · have hcl : cur.toList.length = cur.size := rfl
      have h11 : Msg.E.sz = 11 := rfl
      rw [h11] at hcs
      simp only [List.size_toArray, List.length_append, List.length_drop, flat_len, hlen, hcl, h11]
      have : l.length * 11 ≤ c1 * 11 := Nat.mul_le_mul_right _ hlc
      omega
    · simp only []
      rw [List.take_append_of_le_length (by rw [flat_len]; exact Nat.le_refl _), List.take_of_length_le (by rw [flat_len]; exact Nat.le_refl _)]

theorem own_cap {B cap : Nat} {w : World} {p : Option Addr} {l : List Msg} (h : OwnS Msg.E 107 B w p cap l) : l.length ≤ cap ∧ (p = none → cap = 0) := by
  rcases h.inv with ⟨_, h2, h3⟩ | ⟨g, cur, h1, _, _, h2, _⟩
  · subst h3; exact ⟨by simp, fun _ => h2⟩
  · exact ⟨h2, fun e => by rw [h1] at e; cases e⟩
end Go.Proofs.YtedeohcdcaimhaaGreatDoor
namespace Go.Proofs.YtedeohcdcaimhaaGreatDoor
open Go.Vc Go.RowKit Go.Sei

/-- All that a system in memory is known to be. -/
structure okMem (s : Sy) : Prop where
  homes : s.homes.length = 6
  cac : ∀ c ∈ s.caches, c.ways.length = 16 ∧ c.notes.length = 4
theorem SysV.okm {B : Nat} {w : World} {vs : List Value} {s : Sy} (h : SysV B w vs s) : okMem s := by
  obtain ⟨⟨p1, c1, p2, c2, p3, c3, _, _, ⟨b, o, _, h2⟩, _⟩, h6⟩ := h
  refine ⟨h6, fun c hc => ?_⟩
  obtain ⟨i, hi, rfl⟩ := List.getElem_of_mem hc
  exact (h2 i hi).2.2
theorem fits_ok {g : Geo} {s : Sy} (hm : okMem s) (h : fitsB g s = true) : okSy g.c.toNat s ∧ g.c.toNat ≤ 4 ∧ 1 ≤ g.c ∧ geoR g = true := by
  simp only [fitsB, fit4, Bool.and_eq_true, decide_eq_true_eq, List.all_eq_true] at h
  obtain ⟨⟨⟨⟨h1, h2⟩, h3⟩, h4⟩, h5, h6⟩ := h
  have hg := (geoR_spec h1).1
  refine ⟨⟨by omega, by omega, hm.homes, h4, fun c hc => ?_, fun c hc => ⟨(hm.cac c hc).1, (hm.cac c hc).2, fun n hn => ?_⟩⟩, by omega, by omega, h1⟩
  · have := h5 c hc
    unfold bufB at this
    exact (of_decide_eq_true this : c.buf.length ≤ 255)
  · have := h6 c hc n hn
    unfold nteB at this
    simp only [Bool.and_eq_true, decide_eq_true_eq] at this
    exact this
theorem ok_fits {g : Geo} {s : Sy} (h : okSy g.c.toNat s) (hg : geoR g = true) : fitsB g s = true := by
  have hgc := (geoR_spec hg).1
  simp only [fitsB, fit4, Bool.and_eq_true, decide_eq_true_eq, List.all_eq_true]
  have h1 := h.cores
  have h2 := h.caches
  refine ⟨⟨⟨⟨hg, by omega⟩, by omega⟩, h.net⟩, fun c hc => ?_, fun c hc n hn => ?_⟩
  · have : c.buf.length ≤ 255 := h.cor c hc
    unfold bufB; exact decide_eq_true this
  · obtain ⟨_, _, h5⟩ := h.cac c hc
    obtain ⟨h6, h7⟩ := h5 n hn
    unfold nteB; rw [decide_eq_true h6, decide_eq_true h7]; rfl

/-- The bytes of a system: none if it does not fit. -/
def bytesL (g : Geo) (s : Sy) : List UInt8 := if fitsB g s then encSy s else []

theorem Bytes_s {wv vs : List Value} {g : Geo} {mode : UInt8} {s : Sy} {w : World} (hW : WorV wv g.enc mode) (hS : SysV w.heap.size w vs s) (hB : BndM w) :
    Calls Tryz.prog 10 #[.agg wv.toArray, .agg vs.toArray] w fun e w' => ∃ p cap, e = .returned (.slice p (bytesL g s).length cap) ∧ OwnS byteE 5 w.heap.size w' p cap (bytesL g s) ∧ Below w.heap.size w w' := by
  refine calls_of_E (S := sg 11) (sgOk _) (args := [.agg wv.toArray, .agg vs.toArray]) Tryz.func10 rfl rfl (Nat.le_of_ble_eq_true rfl) rfl ?_
  obtain ⟨W0, hW0⟩ : ∃ W0, (w.alloc (.cells wv.toArray 44)).alloc (.cells vs.toArray 58) = W0 := ⟨_, rfl⟩
  have hb0 : Below w.heap.size w W0 := by rw [← hW0]; exact ((Below.refl _ _).alloc (Nat.le_refl _) _).alloc (by simp) _
  have f0 : W0.heap[w.heap.size]? = some (.cells wv.toArray 44 (0, 0)) := by rw [← hW0]; exact hold _ (hnew w _)
  have f1 : W0.heap[w.heap.size + 1]? = some (.cells vs.toArray 58 (0, 0)) := by
    have := hnew (w.alloc (.cells wv.toArray 44)) (.cells vs.toArray 58)
    rw [World.size_alloc] at this
    rw [← hW0]; exact this
  have es : (w.alloc (.cells wv.toArray 44)).heap.size = w.heap.size + 1 := World.size_alloc _ _
  have hS0 := (hS.below hb0).mono hb0.size
  have hvl := hS.len
  rw [← es] at f1
  subst hW0
  refine ⟨wv, hW.len, cells_block f0, hlt f0, ?_⟩
  refine ⟨vs, hvl, cells_block f1, hlt f1, ?_⟩
  refine Calls.mono (Fits_c hW hS0 (hB.below hb0)) ?_
  rintro e V ⟨rfl, hbV⟩
  have hwV := hb0.trans (hbV.mono hb0.size)
  refine And.intro (fun h => ?_) (fun h => ?_)
  · have h : fitsB g s = false := by
      have : (!fitsB g s) = true := h
      simpa using this
    have e : bytesL g s = [] := by unfold bytesL; rw [h]; rfl
    rw [e]
    exact ⟨none, 0, rfl, .nil, hwV⟩
  · have h : fitsB g s = true := by
      have : (!fitsB g s) = false := h
      simpa using this
    have e : bytesL g s = encSy s := by unfold bytesL; rw [h]; rfl
    rw [e]
    obtain ⟨h1, h2, _⟩ := fits_ok hS.okm h
    have f1V := block_below hbV f1
    refine ⟨vs, hvl, cells_block f1V, hlt f1V, ?_⟩
    refine Calls.mono (encode_c h1 h2 ((hS.below hwV).mono hwV.size)) ?_
    rintro e X ⟨p, cap, rfl, ho, hbX⟩
    exact ⟨p, cap, rfl, own_weak ho hwV.size, hwV.trans (hbX.mono hwV.size)⟩
end Go.Proofs.YtedeohcdcaimhaaGreatDoor
