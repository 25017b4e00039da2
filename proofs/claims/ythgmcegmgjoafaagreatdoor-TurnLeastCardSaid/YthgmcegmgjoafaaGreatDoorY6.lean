/- Plain: turning there and back is nothing. Contracts: a system turned, its stores where they are. Contracts: msg.code. Law22, plain: a system as data; its bytes; the bytes read back. The engine, part P: a region that defers; a function that leaves by a deferred call which recovers. Law22: each, at its types (printed by gen_each.py). Law22: the encoder's bytes: put, bit. msg.Bytes. Law22: the encoder writes a core. Law22: the encoder writes a cache, a directory entry, a message. Law22: the encoder writes a directory entry, a message, a system. Law22: encode. Contracts: slices.Grow and slices.Concat at messages. Contracts: swapRange and rotate of the stable sort, at messages. Plain: a stable merge by rotations (as slices.symMerge does it). Contracts: insertionSort of the stable sort, at messages. Contracts: symMerge of the stable sort, at messages: one element on the left. Contracts: symMerge of the stable sort, at messages: one element on the right. Contracts: symMerge of the stable sort, at messages: more than one element on either side. Contracts: the stable sort of messages (stableCmpFunc, SortStableFunc). cmp.Compare, slices.Compare at bytes. -/
import Derived.Test.YthgmcegmgjoafaaGreatDoorY5
import Derived.Test.YthgmcegmgjoafaaGreatDoorY2
import Derived.Laws.CopyRow
import Derived.Test.YthgmcegmgjoafaaGreatDoorY1
import Derived.RecoverIn
import Derived.Test.YthgmcegmgjoafaaGreatDoorYKSig
import Derived.Laws.MakeOwn
set_option linter.unusedSimpArgs false
set_option linter.unusedVariables false
namespace Go.Proofs.YthgmcegmgjoafaaGreatDoor
open Go.Vc Go.RowKit Go.Sei
theorem u8_of {n : Nat} {a : UInt8} (h : n = a.toNat) : UInt8.ofNat n = a := by subst h; simp
theorem setV_id (h : Hom) : setV h (leM h) = h := by
  have b0 := h.m0.toNat_lt
  have b1 := h.m1.toNat_lt
  have b2 := h.m2.toNat_lt
  have b3 := h.m3.toNat_lt
  have b4 := h.m4.toNat_lt
  have b5 := h.m5.toNat_lt
  have b6 := h.m6.toNat_lt
  have b7 := h.m7.toNat_lt
  obtain ⟨n, hn⟩ : ∃ n, n = leM h := ⟨_, rfl⟩
  have e := hn
  unfold leM at e
  rw [← hn]
  have e0 : UInt8.ofNat (n % 256) = h.m0 := u8_of (by omega)
  have e1 : UInt8.ofNat (n / 256 % 256) = h.m1 := u8_of (by omega)
  have e2 : UInt8.ofNat (n / 65536 % 256) = h.m2 := u8_of (by omega)
  have e3 : UInt8.ofNat (n / 16777216 % 256) = h.m3 := u8_of (by omega)
  have e4 : UInt8.ofNat (n / 4294967296 % 256) = h.m4 := u8_of (by omega)
  have e5 : UInt8.ofNat (n / 1099511627776 % 256) = h.m5 := u8_of (by omega)
  have e6 : UInt8.ofNat (n / 281474976710656 % 256) = h.m6 := u8_of (by omega)
  have e7 : UInt8.ofNat (n / 72057594037927936 % 256) = h.m7 := u8_of (by omega)
  unfold setV
  rw [e0, e1, e2, e3, e4, e5, e6, e7]
theorem movedN_id {s bits : Nat} {u t : List Int} (hs : s < 2 ^ 64) (hb : bits ≤ 64) (h : Inv bits u t) (hu : ∀ k, k < bits → u.getD k 0 = k) : movedN s bits t bits = s := by
  apply Nat.eq_of_testBit_eq
  intro i
  rw [movedN_bit hs hb h bits (Nat.le_refl _)]
  by_cases hi : i < bits
  · rw [if_pos hi, hu i hi, Int.toNat_natCast, decide_eq_true hi, Bool.and_true]
  · rw [if_neg hi]
theorem pick_iota {α : Type} {d : α} {xs : List α} {n : Nat} (h : xs.length = n) : pickL d xs (iotaL n) = xs := by
  subst h
  unfold pickL iotaL
  rw [List.map_map]
  apply List.ext_getElem
  · simp
  · intro i h1 h2
    rw [List.getElem_map, List.getElem_range]
    show xs.getD (Int.ofNat i).toNat d = xs[i]
    rw [show (Int.ofNat i).toNat = i from rfl, List.getD_eq_getElem?_getD, List.getElem?_eq_getElem h2]; rfl
theorem turnC_id {n lo : Nat} {to : List Int} (h : ∀ k, k < n → to.getD k 0 = k) : ∀ (d : Nat) (c : Cnd), condB n lo d c = true → turnC to c = c
  | 0, c, hc => by obtain ⟨k, t, n, v, kids⟩ := c; cases hc
  | d + 1, c, hc => by
    have hp := condB_parts hc
    rw [turnC_eq]
    have e1 : c.kids.map (turnC to) = c.kids := by
      have := List.map_congr_left (f := turnC to) (g := id) fun x hx => turnC_id h d x (hp.2.2 x hx)
      rw [this, List.map_id]
    rw [e1]
    have e2 : turnT to c.kind c.thread = c.thread := by
      unfold turnT
      by_cases h1 : c.kind = 1
      · rw [if_pos h1, h _ (hp.1 h1)]
        exact u8_of rfl
      · rw [if_neg h1]
    rw [e2]
    obtain ⟨k, t, n, v, kids⟩ := c
    rfl
section
variable {n : Nat} {m : Bool} (h1 : 1 ≤ n) (h4 : n ≤ 4) (hi : iotaL n ∈ grpL n m)
include h1 h4 hi
theorem to_iota : ∀ k, k < n → (toN (iotaL n) n).getD k 0 = k := fun k hk => by
  have := (inv_of h1 h4 hi).1.ta k hk
  rwa [iota_get hk, Int.toNat_natCast] at this
theorem nodeU_id (k : UInt8) : nodeU n (toN (iotaL n) n) k = k := by
  unfold nodeU
  by_cases hk : k.toNat < n
  · rw [if_pos hk, to_iota h1 h4 hi _ hk]
    exact u8_of rfl
  · rw [if_neg hk]
theorem turnM_id (x : Msg) : turnM n (toN (iotaL n) n) x = x := by
  have e := nodeU_id h1 h4 hi
  unfold turnM
  by_cases hk : x.kind = 6 ∨ x.kind = 7 ∨ x.kind = 8
  · simp only [if_pos hk, e]
  · simp only [if_neg hk, e]
theorem turnSt_id (x : StD) : turnSt n (toN (iotaL n) n) x = x := by
  unfold turnSt
  rw [nodeU_id h1 h4 hi, turnM_id h1 h4 hi]
  split <;> rfl
theorem turnPf_id (x : PfD) : turnPf n (toN (iotaL n) n) x = x := by
  unfold turnPf
  rw [nodeU_id h1 h4 hi]
theorem turnV_id {pr : Bool} (hpr : pr = m) (k : UInt8) {s : Nat} (hs : s < 2 ^ 64) : turnV n pr (toN (iotaL n) n) k s = s := by
  unfold turnV
  by_cases h12 : k = 1 ∨ k = 2
  · rw [if_pos h12]
    exact movedN_id hs (by omega) (inv_of h1 h4 hi).1 fun k hk => iota_get hk
  · rw [if_neg h12]
    by_cases h3 : k = 3 ∧ pr = true
    · rw [if_pos h3]
      have hm : m = true := by rw [← hpr]; exact h3.2
      subst hm
      refine movedN_id hs (by omega) (hinv_of h1 h4 hi) fun k hk => ?_
      have hc : k = 0 ∨ k = 1 := by omega
      rcases hc with rfl | rfl
      · show (iotaL n).getD 0 0 / 2 = _
        rw [iota_get (by omega)]; rfl
      · show (iotaL n).getD 2 0 / 2 = _
        rw [iota_get (by omega)]; rfl
    · rw [if_neg h3]
theorem turnH_id {pr : Bool} (hpr : pr = m) (h : Hom) : turnH n pr (toN (iotaL n) n) h = h := by
  rw [turnH_eq, turnV_id h1 h4 hi hpr _ (leM_lt h), setV_id, nodeU_id h1 h4 hi, nodeU_id h1 h4 hi]
  split <;> rfl
theorem turnS_id {pr : Bool} (hpr : pr = m) {g : Geo} (hg : g.c = n) {s : Sy} (hf : fitsB g s = true) : turnS n pr (toN (iotaL n) n) (iotaL n) s = s := by
  unfold fitsB fit4 at hf
  simp only [Bool.and_eq_true, decide_eq_true_eq] at hf
  obtain ⟨⟨⟨⟨q1, q2⟩, q3⟩, q4⟩, q5, q6⟩ := hf
  unfold turnS
  have e1 : s.homes.map (turnH n pr (toN (iotaL n) n)) = s.homes := by
    have := List.map_congr_left (l := s.homes) (f := turnH n pr (toN (iotaL n) n)) (g := id) fun x _ => turnH_id h1 h4 hi hpr x
    rw [this, List.map_id]
  have e2 : s.net.map (turnM n (toN (iotaL n) n)) = s.net := by
    have := List.map_congr_left (l := s.net) (f := turnM n (toN (iotaL n) n)) (g := id) fun x _ => turnM_id h1 h4 hi x
    rw [this, List.map_id]
  rw [e1, e2, pick_iota (by omega), pick_iota (by omega)]
theorem turnP_id {p : Prg} (hp : p.threads.length = n) (hok : okPrg p = true) : turnP (iotaL n) p = p := by
  have hO := okPrg_parts hok
  unfold turnP
  rw [pick_iota hp, turnC_id (n := n) (lo := p.locs.length) (fun k hk => ?_) 20 p.cond (by rw [← hp]; exact hO.cond)]
  rw [(inv_of h1 h4 hi).2 k hk]
  exact to_iota h1 h4 hi k hk
end
section
variable {n : Nat} {m : Bool} {a b : List Int} (h1 : 1 ≤ n) (h4 : n ≤ 4) (ha : a ∈ grpL n m) (hb : b ∈ grpL n m)
include h1 h4 ha hb
theorem turnSt_comp (x : StD) : turnSt n (toN b n) (turnSt n (toN a n) x) = turnSt n (toN (pickL 0 a b) n) x := by
  by_cases hk : x.k = 5
  · have e : turnSt n (toN a n) x = { x with m := turnM n (toN a n) x.m } := by unfold turnSt; rw [if_pos hk]
    rw [e]
    unfold turnSt
    rw [if_pos hk, if_pos hk, turnM_comp h1 h4 ha hb]
  · have e : turnSt n (toN a n) x = { x with n := nodeU n (toN a n) x.n } := by unfold turnSt; rw [if_neg hk]
    rw [e]
    unfold turnSt
    rw [if_neg hk, if_neg hk, nodeU_comp h1 h4 ha hb]
theorem turnPf_comp (x : PfD) : turnPf n (toN b n) (turnPf n (toN a n) x) = turnPf n (toN (pickL 0 a b) n) x := by
  unfold turnPf
  rw [nodeU_comp h1 h4 ha hb]
end
end Go.Proofs.YthgmcegmgjoafaaGreatDoor
namespace Go.Proofs.YthgmcegmgjoafaaGreatDoor
open Go.Vc Go.RowKit Go.Sei
section
variable {p : Prg} {g : Geo} {md : UInt8} {vs ss : List Value} {s : Sy} {q : Option Addr} {cap : Nat} {l : List Int} {w : World}
def turnA (md : UInt8) (a : List Int) (s : Sy) : Sy := turnS a.length (decide (md = 3)) (toN a a.length) a s
theorem idxSys_c (hS : SysV w.heap.size w ss s) (hl : SlR Go.Sei.intE w q l) (hf : (turnsL p g && suitsL g md l) = true) (hh : fitsB g s = true) :
    Calls Tryz.prog 62 #[.agg (idxC l.length (decide (md = 3)) (toN l l.length)).toArray, .agg ss.toArray, .slice q l.length cap] w fun e w' => ∃ ts : List Value, e = .returned (.agg ts.toArray) ∧ SysV w'.heap.size w' ts (turnA md l s) ∧ Below w.heap.size w w' := by
  obtain ⟨n, hgc, hn1, hn4, hln, hr⟩ := fits_parts hf
  subst hln
  have hparts : s.cores.length = l.length ∧ s.caches.length = l.length ∧ s.net.length ≤ 64 := by
    unfold fitsB fit4 at hh
    simp only [Bool.and_eq_true, decide_eq_true_eq] at hh
    obtain ⟨⟨⟨⟨_, h2⟩, h3⟩, h4⟩, _⟩ := hh
    exact ⟨by omega, by omega, h4⟩
  obtain ⟨hcn, hkn, hn64⟩ := hparts
  obtain ⟨⟨p1, c1, p2, c2, p3, c3, hss, hco, hca, hne, hnil⟩, h6⟩ := id hS
  obtain ⟨xs, hxs, hx, hxb⟩ := cors_row hco (Nat.le_refl _)
  obtain ⟨ys, hys, hy⟩ := cacs_row hca (Nat.le_refl _)
  have hxl : xs.length = s.cores.length := by rw [← hxs, List.length_map]
  have hyl : ys.length = s.caches.length := by rw [← hys, List.length_map]
  have hss2 : ss = sysC (.slice p1 xs.length c1) (.slice p2 ys.length c2) s.homes (.slice p3 s.net.length c3) := by rw [hss, hxl, hyl]; rfl
  have hrn : ∀ x ∈ l, 0 ≤ x ∧ x < l.length := by
    simp only [turnsL, suitsL, permL, Bool.and_eq_true, decide_eq_true_eq] at hf
    intro x hx
    have := perm_range hf.2.1.2 x hx
    omega
  have hio : IdxOk l.length (toN l l.length) := idx_ok hn4 (by omega)
  obtain ⟨to, hto⟩ : ∃ to, to = toN l l.length := ⟨_, rfl⟩
  have htg : ∀ k, 0 ≤ to.getD k 0 ∧ to.getD k 0 < 64 := fun k => by rw [hto]; exact toN_get (by omega) k
  unfold turnA
  rw [← hto] at hio ⊢
  obtain ⟨pr, hpr⟩ : ∃ pr, pr = decide (md = 3) := ⟨_, rfl⟩
  rw [← hpr]
  have hH2 : (s.homes.map (turnH l.length pr to)).length = 6 := by rw [List.length_map, h6]
  have hzb : ∀ x ∈ pickL corD xs l, RowB stoE w.heap.size w x.2.1 x.1.buf := fun x hm => by
    unfold pickL at hm
    obtain ⟨i, hi, rfl⟩ := List.mem_map.1 hm
    have := hrn i hi
    have h0 : i.toNat < xs.length := by omega
    rw [List.getD_eq_getElem?_getD, List.getElem?_eq_getElem h0]
    exact hxb _ (List.getElem_mem h0)
  refine Calls.mono (sysI_c (pr := pr) hio htg hss2 h6 hx hy hne hn64 hl (by omega) (fun x hm => by have := hrn x hm; omega) (fun x hm => by have := hrn x hm; omega)) ?_
  rintro e Z ⟨bc, bk, bn, rfl, fc, fk, fn, ⟨gc, gk, gn⟩, hbZ⟩
  have e1 : (turnS l.length pr to l s).cores = (pickL corD xs l).map (·.1) := by rw [pick_map, hxs]; rfl
  have e2 : (turnS l.length pr to l s).caches = (pickL cacD ys l).map (·.1) := by rw [pick_map, hys]; rfl
  refine ⟨_, rfl, ⟨⟨some ⟨bc, 0, none⟩, l.length, some ⟨bk, 0, none⟩, l.length, some ⟨bn, 0, none⟩, s.net.length, ?_, ⟨bc, 0, .inr rfl, fun i hi => ?_⟩, ⟨bk, 0, .inr rfl, fun i hi => ?_⟩, .inr ⟨bn, 0, rfl, ?_, ?_⟩, fun h => by cases h⟩, hH2⟩, hbZ⟩
  · rw [e1, e2]
    unfold sysC
    simp only [List.length_map, pickI_len, turnS]
  · simp only [e1, List.length_map] at hi ⊢
    rw [List.getElem_map]
    have hcx : Cells Z ⟨bc, 0 + i * 12, none⟩ (corE.enc (pickL corD xs l)[i]) := by
      have := cells_sub (n := i * 12) (m := 12) (cells_block fc)
      have e := flat_get (E := corE) (pickL corD xs l) i hi
      have e12 : corE.sz = 12 := rfl
      rw [e12] at e
      rw [e] at this
      exact this
    exact ⟨(pickL corD xs l)[i].2.1, (pickL corD xs l)[i].2.2, hlt fc, hcx, ((hzb _ (List.getElem_mem hi)).below hbZ).mono hbZ.size⟩
  · simp only [e2, List.length_map] at hi ⊢
    rw [List.getElem_map]
    have hcx : Cells Z ⟨bk, 0 + i * 160, none⟩ (cacE.enc (pickL cacD ys l)[i]) := by
      have := cells_sub (n := i * 160) (m := 160) (cells_block fk)
      have e := flat_get (E := cacE) (pickL cacD ys l) i hi
      have e160 : cacE.sz = 160 := rfl
      rw [e160] at e
      rw [e] at this
      exact this
    exact ⟨hlt fk, hcx, ((pickL cacD ys l)[i]).2⟩
  · exact hlt fn
  · exact cells_block fn
end
end Go.Proofs.YthgmcegmgjoafaaGreatDoor
namespace Go.Proofs.YthgmcegmgjoafaaGreatDoor
open Go.Vc Go.RowKit Go.Sei
def codeOf (m : Msg) : List UInt8 := [m.kind, m.from_, m.to, m.line, m.asker, m.acks, if m.alone then 1 else 0, m.d0, m.d1, m.d2, m.d3]
theorem code_c (m : Msg) (w : World) : Calls Tryz.prog 166 #[m.val] w fun e w' => e = .returned (.agg ((codeOf m).map u8).toArray) ∧ Below w.heap.size w w' := by
  refine calls_of_E (S := sg 25) (sgOk _) (args := [m.val]) Tryz.func166 rfl rfl (Nat.le_of_ble_eq_true rfl) rfl ?_
  have c1 := cells_block (hold (.cells #[.int .u8 0, .int .u8 0, .int .u8 0, .int .u8 0, .int .u8 0, .int .u8 0, .int .u8 0, .int .u8 0, .int .u8 0, .int .u8 0, .int .u8 0] 260) (hnew w (.cells m.val.cells 53)))
  refine ⟨_, cells_at c1 (i := 0) rfl, ?_⟩
  refine ⟨_, cells_at c1 (i := 1) rfl, ?_⟩
  refine ⟨_, cells_at c1 (i := 2) rfl, ?_⟩
  refine ⟨_, cells_at c1 (i := 3) rfl, ?_⟩
  refine ⟨_, cells_at c1 (i := 4) rfl, ?_⟩
  refine ⟨_, cells_at c1 (i := 5) rfl, ?_⟩
  refine ⟨[u8 m.kind, u8 m.from_, u8 m.to, u8 m.line, u8 m.asker, u8 m.acks, u8 0, u8 0, u8 0, u8 0, u8 0], rfl, ?_⟩
  obtain ⟨X, hX⟩ : ∃ X, X = (w.alloc (.cells m.val.cells 53)).alloc (.cells #[.int .u8 0, .int .u8 0, .int .u8 0, .int .u8 0, .int .u8 0, .int .u8 0, .int .u8 0, .int .u8 0, .int .u8 0, .int .u8 0, .int .u8 0] 260) := ⟨_, rfl⟩
  have hbX : Below w.heap.size w X := hX ▸ ((Below.refl _ _).alloc (Nat.le_refl _) _).alloc (by simp) _
  have f1 : X.heap[w.heap.size]? = some (.cells m.val.cells 53 (0, 0)) := by rw [hX]; exact hold _ (hnew w _)
  have f2 : X.heap[w.heap.size + 1]? = some (.cells #[.int .u8 0, .int .u8 0, .int .u8 0, .int .u8 0, .int .u8 0, .int .u8 0, .int .u8 0, .int .u8 0, .int .u8 0, .int .u8 0, .int .u8 0] 260 (0, 0)) := by
    have := hnew (w.alloc (.cells m.val.cells 53)) (.cells #[.int .u8 0, .int .u8 0, .int .u8 0, .int .u8 0, .int .u8 0, .int .u8 0, .int .u8 0, .int .u8 0, .int .u8 0, .int .u8 0, .int .u8 0] 260)
    rw [World.size_alloc] at this
    rw [hX]; exact this
  refine store_new (X := (w.alloc (.cells m.val.cells 53)).alloc (.cells #[.int .u8 0, .int .u8 0, .int .u8 0, .int .u8 0, .int .u8 0, .int .u8 0, .int .u8 0, .int .u8 0, .int .u8 0, .int .u8 0, .int .u8 0] 260)) (ttOk.get 260 _ rfl) (by rfl) rfl (by rfl) fun Y hbY f3 sY => ?_
  rw [← hX] at hbY f3 sY
  refine ⟨_, cells_at (cells_block (block_below hbY f1)) (i := 6) rfl, ?_⟩
  have hXs : X.heap.size = w.heap.size + 2 := by rw [hX]; simp
  have hbwY : Below w.heap.size w Y := hbX.trans (hbY.mono hbX.size)
  have f1Y := block_below hbY f1
  have f2Y := block_below hbY f2
  subst hX
  refine And.intro (fun h => ?_) (fun h => ?_)
  · refine ⟨6, rfl, by decide, ?_⟩
    refine store_cell (o := 6) (v := .int .u8 1) (ttOk.get 5 _ rfl) rfl f3 (Nat.le_of_ble_eq_true rfl) rfl rfl fun Z f4 gZ sZ => ?_
    have F : Z.heap[((w.alloc (.cells m.val.cells 53)).alloc (.cells #[.int .u8 0, .int .u8 0, .int .u8 0, .int .u8 0, .int .u8 0, .int .u8 0, .int .u8 0, .int .u8 0, .int .u8 0, .int .u8 0, .int .u8 0] 260)).heap.size]? =
        some (.cells (((codeOf m).take 7).map u8 ++ [u8 0, u8 0, u8 0, u8 0]).toArray 260 (0, 0)) := by
      rw [f4]; simp only [codeOf, h, if_true]; rfl
    refine DrawE.ord [3] [0, 1, 2, 3] (by kernel_rfl) ?_
    refine ⟨7, rfl, by decide, ?_⟩
    have hs5 : (Tryz.prog.info? 5).map (·.size) = some 1 := by kernel_rfl
    have cZ : Cells Z.drew ⟨w.heap.size, 7, none⟩ [u8 m.d0, u8 m.d1, u8 m.d2, u8 m.d3] := by
      have hZ1 : Z.heap[w.heap.size]? = some (.cells m.val.cells 53 (0, 0)) := (gZ.block _ (hlt f1Y) (by simp; omega)).trans f1Y
      exact cells_sub (n := 7) (m := 4) (cells_block (hdr hZ1))
    refine SatR.mk (run_copy_row _ Z.drew 23 23 _ 5 _ 7 4 4 ⟨w.heap.size, 7, none⟩ 4 4 _ _ [u8 m.d0, u8 m.d1, u8 m.d2, u8 m.d3] Tryz.underlying23 hs5 (hdr F) rfl cZ (Nat.le_of_ble_eq_true rfl) (by simp [u8, Value.oneCell'])) ?_
    have G := setRow_new (cs' := ((((codeOf m).take 7).map u8 ++ [u8 0, u8 0, u8 0, u8 0]).toArray.toList.take 7 ++ [u8 m.d0, u8 m.d1, u8 m.d2, u8 m.d3] ++ (((codeOf m).take 7).map u8 ++ [u8 0, u8 0, u8 0, u8 0]).toArray.toList.drop (7 + 4)).toArray) (hdr F)
    have hZ2 := (gZ.block _ (hlt f2Y) (by simp)).trans f2Y
    refine ⟨(codeOf m).map u8, rfl, cells_block G, hlt G, ?_⟩
    refine store_box (v := .agg ((codeOf m).map u8).toArray) (ttOk.get 260 _ rfl) ((setRow_old (g := ((w.alloc (.cells m.val.cells 53)).alloc (.cells #[.int .u8 0, .int .u8 0, .int .u8 0, .int .u8 0, .int .u8 0, .int .u8 0, .int .u8 0, .int .u8 0, .int .u8 0, .int .u8 0, .int .u8 0] 260)).heap.size) (k := (w.alloc (.cells m.val.cells 53)).heap.size) (by simp)).trans (hdr (by rw [World.size_alloc]; exact hZ2))) (by rfl) rfl (by rfl) ?_
    have hbZ : Below w.heap.size w Z := hbwY.grown gZ hbwY.size (fun k e => by simp at e; omega)
    refine ⟨(codeOf m).map u8, rfl, cells_block (setRow_new ((setRow_old (by simp)).trans (hdr (by rw [World.size_alloc]; exact hZ2)))), And.intro rfl ?_⟩
    exact below_setRow (below_setRow hbZ.drew (by simp; omega) _) (by simp) _
  · have F : Y.heap[((w.alloc (.cells m.val.cells 53)).alloc (.cells #[.int .u8 0, .int .u8 0, .int .u8 0, .int .u8 0, .int .u8 0, .int .u8 0, .int .u8 0, .int .u8 0, .int .u8 0, .int .u8 0, .int .u8 0] 260)).heap.size]? =
        some (.cells (((codeOf m).take 7).map u8 ++ [u8 0, u8 0, u8 0, u8 0]).toArray 260 (0, 0)) := by
      rw [f3]; simp only [codeOf, h, Bool.false_eq_true, if_false]; rfl
    refine DrawE.ord [3] [0, 1, 2, 3] (by kernel_rfl) ?_
    refine ⟨7, rfl, by decide, ?_⟩
    have hs5 : (Tryz.prog.info? 5).map (·.size) = some 1 := by kernel_rfl
    have cZ : Cells Y.drew ⟨w.heap.size, 7, none⟩ [u8 m.d0, u8 m.d1, u8 m.d2, u8 m.d3] := by
      have hZ1 : Y.heap[w.heap.size]? = some (.cells m.val.cells 53 (0, 0)) := f1Y
      exact cells_sub (n := 7) (m := 4) (cells_block (hdr hZ1))
    refine SatR.mk (run_copy_row _ Y.drew 23 23 _ 5 _ 7 4 4 ⟨w.heap.size, 7, none⟩ 4 4 _ _ [u8 m.d0, u8 m.d1, u8 m.d2, u8 m.d3] Tryz.underlying23 hs5 (hdr F) rfl cZ (Nat.le_of_ble_eq_true rfl) (by simp [u8, Value.oneCell'])) ?_
    have G := setRow_new (cs' := ((((codeOf m).take 7).map u8 ++ [u8 0, u8 0, u8 0, u8 0]).toArray.toList.take 7 ++ [u8 m.d0, u8 m.d1, u8 m.d2, u8 m.d3] ++ (((codeOf m).take 7).map u8 ++ [u8 0, u8 0, u8 0, u8 0]).toArray.toList.drop (7 + 4)).toArray) (hdr F)
    have hZ2 := f2Y
    refine ⟨(codeOf m).map u8, rfl, cells_block G, hlt G, ?_⟩
    refine store_box (v := .agg ((codeOf m).map u8).toArray) (ttOk.get 260 _ rfl) ((setRow_old (g := ((w.alloc (.cells m.val.cells 53)).alloc (.cells #[.int .u8 0, .int .u8 0, .int .u8 0, .int .u8 0, .int .u8 0, .int .u8 0, .int .u8 0, .int .u8 0, .int .u8 0, .int .u8 0, .int .u8 0] 260)).heap.size) (k := (w.alloc (.cells m.val.cells 53)).heap.size) (by simp)).trans (hdr (by rw [World.size_alloc]; exact hZ2))) (by rfl) rfl (by rfl) ?_
    have hbZ : Below w.heap.size w Y := hbwY
    refine ⟨(codeOf m).map u8, rfl, cells_block (setRow_new ((setRow_old (by simp)).trans (hdr (by rw [World.size_alloc]; exact hZ2)))), And.intro rfl ?_⟩
    exact below_setRow (below_setRow hbZ.drew (by simp; omega) _) (by simp) _
end Go.Proofs.YthgmcegmgjoafaaGreatDoor
namespace Go.Proofs.YthgmcegmgjoafaaGreatDoor
open Go.Vc Go.RowKit Go.Sei
def bitB (b : Bool) (v : UInt8) : UInt8 := if b then v else 0
def encSto (s : Sto) : List UInt8 := [s.l, s.v]
def hdCor (c : Cor) : List UInt8 := [c.pc, c.r0, c.r1, c.r2, c.r3, c.r4, c.r5, c.r6, c.r7, UInt8.ofNat c.buf.length]
def encCor (c : Cor) : List UInt8 := hdCor c ++ (c.buf.flatMap encSto ++ [bitB c.waits 1 + bitB c.drain 2])
def encLin (x : Lin) : List UInt8 := [x.line, x.state, x.need, bitB x.has 1, x.d0, x.d1, x.d2, x.d3]
def encNte (n : Nte) : List UInt8 := [n.kind, UInt8.ofNat n.ways.toNat, n.o0, n.o1, n.o2, n.o3, n.bits]
def encCac (c : Cac) : List UInt8 := c.ways.flatMap encLin ++ (c.notes.flatMap encNte ++ [c.k, c.l, c.a, c.b])
def encHom (h : Hom) : List UInt8 := [h.state, h.owner, h.kind, h.m0, h.m1, h.m2, h.m3, h.m4, h.m5, h.m6, h.m7, bitB h.all 1, h.wait, h.asker, h.d0, h.d1, h.d2, h.d3]
def encSy (s : Sy) : List UInt8 := s.cores.flatMap encCor ++ (s.caches.flatMap encCac ++ (s.homes.flatMap encHom ++ (UInt8.ofNat s.net.length :: s.net.flatMap codeOf)))
abbrev Prs (α : Type) := List UInt8 → Option (α × List UInt8)
def reps {α : Type} (d : Prs α) : Nat → Prs (List α)
  | 0, b => some ([], b)
  | n + 1, b => match d b with
    | none => none
    | some (x, r) => match reps d n r with
      | none => none
      | some (xs, r') => some (x :: xs, r')
def decSto : Prs Sto
  | l :: v :: r => some (⟨l, v⟩, r)
  | _ => none
def decCor : Prs Cor
  | pc :: r0 :: r1 :: r2 :: r3 :: r4 :: r5 :: r6 :: r7 :: n :: b => (match reps decSto n.toNat b with
    | some (st, f :: b') => if f.toNat ≤ 3 then some (⟨pc, r0, r1, r2, r3, r4, r5, r6, r7, st, decide (f.toNat % 2 = 1), decide (f.toNat / 2 = 1)⟩, b') else none
    | _ => none)
  | _ => none
def decLin : Prs Lin
  | line :: state :: need :: h :: d0 :: d1 :: d2 :: d3 :: r => if h.toNat ≤ 1 then some (⟨line, state, need, decide (h.toNat = 1), d0, d1, d2, d3⟩, r) else none
  | _ => none
def decNte : Prs Nte
  | kind :: ways :: o0 :: o1 :: o2 :: o3 :: bits :: r => some (⟨kind, ways.toNat, o0, o1, o2, o3, bits⟩, r)
  | _ => none
def decCac : Prs Cac := fun b => match reps decLin 16 b with
  | none => none
  | some (ws, b1) => match reps decNte 4 b1 with
    | some (ns, k :: l :: a :: c :: r) => some (⟨ws, ns, k, l, a, c⟩, r)
    | _ => none
def decHom : Prs Hom
  | state :: owner :: kind :: m0 :: m1 :: m2 :: m3 :: m4 :: m5 :: m6 :: m7 :: al :: wait :: asker :: d0 :: d1 :: d2 :: d3 :: r =>
    if al.toNat ≤ 1 then some (⟨state, owner, kind, m0, m1, m2, m3, m4, m5, m6, m7, decide (al.toNat = 1), wait, asker, d0, d1, d2, d3⟩, r) else none
  | _ => none
def decMsg : Prs Msg
  | b0 :: b1 :: b2 :: b3 :: b4 :: b5 :: b6 :: b7 :: b8 :: b9 :: b10 :: r => if b6.toNat ≤ 1 then some (⟨b0, b1, b2, b3, b4, b5, decide (b6.toNat = 1), b7, b8, b9, b10⟩, r) else none
  | _ => none
def decSy (n : Nat) (b : List UInt8) : Option Sy := match reps decCor n b with
  | none => none
  | some (cs, b1) => match reps decCac n b1 with
    | none => none
    | some (ca, b2) => match reps decHom 6 b2 with
      | some (hs, k :: b3) => if k.toNat ≤ 64 then (match reps decMsg k.toNat b3 with
        | some (ms, []) => some ⟨cs, ca, hs, ms⟩
        | _ => none) else none
      | _ => none
structure Fmt {α : Type} (enc : α → List UInt8) (dec : Prs α) (ok : α → Prop) : Prop where
  f : ∀ x r, ok x → dec (enc x ++ r) = some (x, r)
  g : ∀ b x r, dec b = some (x, r) → ok x ∧ b = enc x ++ r
theorem reps_f {α : Type} {enc : α → List UInt8} {dec : Prs α} {ok : α → Prop} (h : Fmt enc dec ok) : ∀ (l : List α) (r : List UInt8), (∀ x ∈ l, ok x) → reps dec l.length (l.flatMap enc ++ r) = some (l, r)
  | [], r, _ => rfl
  | x :: l, r, ho => by
    rw [List.flatMap_cons, List.append_assoc, List.length_cons, reps, h.f x _ (ho x List.mem_cons_self)]
    simp only [reps_f h l r fun y hy => ho y (List.mem_cons_of_mem _ hy)]
theorem reps_g {α : Type} {enc : α → List UInt8} {dec : Prs α} {ok : α → Prop} (h : Fmt enc dec ok) : ∀ (n : Nat) (b : List UInt8) (l : List α) (r : List UInt8), reps dec n b = some (l, r) → l.length = n ∧ (∀ x ∈ l, ok x) ∧ b = l.flatMap enc ++ r
  | 0, b, l, r, hr => by
    simp only [reps, Option.some.injEq, Prod.mk.injEq] at hr
    obtain ⟨rfl, rfl⟩ := hr
    exact ⟨rfl, by simp, rfl⟩
  | n + 1, b, l, r, hr => by
    rw [reps] at hr
    split at hr
    · cases hr
    · rename_i x r1 hx
      split at hr
      · cases hr
      · rename_i xs r2 hxs
        simp only [Option.some.injEq, Prod.mk.injEq] at hr
        obtain ⟨rfl, rfl⟩ := hr
        obtain ⟨h1, h2⟩ := h.g _ _ _ hx
        obtain ⟨h3, h4, h5⟩ := reps_g h n _ _ _ hxs
        refine ⟨by simp [h3], fun y hy => ?_, by rw [h2, h5, List.flatMap_cons, List.append_assoc]⟩
        rcases List.mem_cons.1 hy with rfl | hy
        · exact h1
        · exact h4 y hy
theorem reps_more {α : Type} (dec : Prs α) : ∀ (n : Nat) (b : List UInt8), reps dec (n + 1) b = match reps dec n b with
    | none => none
    | some (xs, r) => match dec r with
      | none => none
      | some (x, r') => some (xs ++ [x], r')
  | 0, b => by
    simp only [reps]
    cases dec b with
    | none => rfl
    | some x => rfl
  | n + 1, b => by
    rw [reps]
    cases h : dec b with
    | none => simp only [reps, h]
    | some x =>
      obtain ⟨x, r⟩ := x
      simp only
      rw [reps_more dec n r]
      conv => rhs; rw [reps, h]
      simp only
      cases h2 : reps dec n r with
      | none => rfl
      | some y =>
        obtain ⟨ys, r2⟩ := y
        simp only
        cases dec r2 with
        | none => rfl
        | some z => rfl
theorem reps_none {α : Type} {dec : Prs α} {b : List UInt8} {k n : Nat} (h : reps dec k b = none) (hk : k ≤ n) : reps dec n b = none := by
  induction n with
  | zero => have : k = 0 := by omega
            subst this; exact h
  | succ n ih =>
    rcases Nat.lt_or_ge k (n + 1) with h1 | h1
    · rw [reps_more, ih (by omega)]
    · have : k = n + 1 := by omega
      subst this; exact h
theorem reps_step {α : Type} {dec : Prs α} {b r r' : List UInt8} {n : Nat} {l : List α} {x : α} (h : reps dec n b = some (l, r)) (hx : dec r = some (x, r')) : reps dec (n + 1) b = some (l ++ [x], r') := by
  rw [reps_more, h]; simp only [hx]
theorem reps_fail {α : Type} {dec : Prs α} {b r : List UInt8} {n m : Nat} {l : List α} (h : reps dec n b = some (l, r)) (hx : dec r = none) (hm : n < m) : reps dec m b = none := by
  refine reps_none (k := n + 1) ?_ hm
  rw [reps_more, h]; simp only [hx]
theorem bit_back {b : Bool} : decide ((bitB b 1).toNat = 1) = b ∧ (bitB b 1).toNat ≤ 1 := by cases b <;> decide
theorem bit_of {h : UInt8} (h1 : h.toNat ≤ 1) : bitB (decide (h.toNat = 1)) 1 = h := by
  have h3 : h.toNat = 0 ∨ h.toNat = 1 := by omega
  rcases h3 with h3 | h3
  · have : h = 0 := UInt8.toNat_inj.1 h3
    subst this; rfl
  · have : h = 1 := UInt8.toNat_inj.1 h3
    subst this; rfl
theorem fmt_sto : Fmt encSto decSto fun _ => True := ⟨fun x r _ => rfl, fun b x r h => by
  unfold decSto at h
  split at h
  · simp only [Option.some.injEq, Prod.mk.injEq] at h
    obtain ⟨rfl, rfl⟩ := h
    exact ⟨trivial, rfl⟩
  · cases h⟩
theorem fmt_lin : Fmt encLin decLin fun _ => True := ⟨fun x r _ => by
  simp only [encLin, List.cons_append, List.nil_append, decLin, if_pos (bit_back (b := x.has)).2, bit_back.1], fun b x r h => by
  unfold decLin at h
  split at h
  · split at h
    · rename_i h1
      simp only [Option.some.injEq, Prod.mk.injEq] at h
      obtain ⟨rfl, rfl⟩ := h
      exact ⟨trivial, by simp only [encLin, bit_of h1, List.cons_append, List.nil_append]⟩
    · cases h
  · cases h⟩
theorem fmt_msg : Fmt codeOf decMsg fun _ => True := ⟨fun x r _ => by
  have e : (if x.alone then (1 : UInt8) else 0) = bitB x.alone 1 := rfl
  simp only [codeOf, e, List.cons_append, List.nil_append, decMsg, if_pos (bit_back (b := x.alone)).2, bit_back.1], fun b x r h => by
  unfold decMsg at h
  split at h
  · split at h
    · rename_i h1
      simp only [Option.some.injEq, Prod.mk.injEq] at h
      obtain ⟨rfl, rfl⟩ := h
      have e := bit_of h1
      unfold bitB at e
      exact ⟨trivial, by simp only [codeOf, e, List.cons_append, List.nil_append]⟩
    · cases h
  · cases h⟩
theorem fmt_hom : Fmt encHom decHom fun _ => True := ⟨fun x r _ => by
  simp only [encHom, List.cons_append, List.nil_append, decHom, if_pos (bit_back (b := x.all)).2, bit_back.1], fun b x r h => by
  unfold decHom at h
  split at h
  · split at h
    · rename_i h1
      simp only [Option.some.injEq, Prod.mk.injEq] at h
      obtain ⟨rfl, rfl⟩ := h
      exact ⟨trivial, by simp only [encHom, bit_of h1, List.cons_append, List.nil_append]⟩
    · cases h
  · cases h⟩
def okNte (n : Nte) : Prop := 0 ≤ n.ways ∧ n.ways ≤ 255
theorem fmt_nte : Fmt encNte decNte okNte := ⟨fun x r ho => by
  obtain ⟨a, w, b, c, d, e, f⟩ := x
  obtain ⟨h1, h2⟩ := ho
  simp only at h1 h2
  have h3 : ((UInt8.ofNat w.toNat).toNat : Int) = w := by rw [UInt8.toNat_ofNat']; omega
  simp only [encNte, List.cons_append, List.nil_append, decNte, h3], fun b x r h => by
  unfold decNte at h
  split at h
  · rename_i kind ways o0 o1 o2 o3 bits r'
    simp only [Option.some.injEq, Prod.mk.injEq] at h
    obtain ⟨rfl, rfl⟩ := h
    have := u8_lt ways
    exact ⟨⟨by dsimp only; omega, by dsimp only; omega⟩, by simp [encNte]⟩
  · cases h⟩
theorem flags_back (a b : Bool) : decide ((bitB a 1 + bitB b 2).toNat % 2 = 1) = a ∧ decide ((bitB a 1 + bitB b 2).toNat / 2 = 1) = b ∧ (bitB a 1 + bitB b 2).toNat ≤ 3 := by cases a <;> cases b <;> decide
theorem flags_of {f : UInt8} (h : f.toNat ≤ 3) : bitB (decide (f.toNat % 2 = 1)) 1 + bitB (decide (f.toNat / 2 = 1)) 2 = f := by
  have h3 : f.toNat = 0 ∨ f.toNat = 1 ∨ f.toNat = 2 ∨ f.toNat = 3 := by omega
  rcases h3 with h3 | h3 | h3 | h3
  · have : f = 0 := UInt8.toNat_inj.1 h3
    subst this; rfl
  · have : f = 1 := UInt8.toNat_inj.1 h3
    subst this; rfl
  · have : f = 2 := UInt8.toNat_inj.1 h3
    subst this; rfl
  · have : f = 3 := UInt8.toNat_inj.1 h3
    subst this; rfl
def okCor (c : Cor) : Prop := c.buf.length ≤ 255
theorem fmt_cor : Fmt encCor decCor okCor := ⟨fun x r ho => by
  obtain ⟨h1, h2, h3⟩ := flags_back x.waits x.drain
  have h4 : (UInt8.ofNat x.buf.length).toNat = x.buf.length := by rw [UInt8.toNat_ofNat']; unfold okCor at ho; omega
  have h5 := reps_f fmt_sto x.buf ((bitB x.waits 1 + bitB x.drain 2) :: r) fun _ _ => trivial
  simp only [encCor, hdCor, List.cons_append, List.nil_append, List.append_assoc, decCor, h4]
  simp only [h5, if_pos h3, h1, h2], fun b x r h => by
  unfold decCor at h
  split at h
  · rename_i pc r0 r1 r2 r3 r4 r5 r6 r7 n b0
    split at h
    · rename_i st f b' hst
      split at h
      · rename_i h1
        simp only [Option.some.injEq, Prod.mk.injEq] at h
        obtain ⟨rfl, rfl⟩ := h
        obtain ⟨h2, _, h3⟩ := reps_g fmt_sto _ _ _ _ hst
        have h4 := u8_lt n
        refine ⟨by unfold okCor; dsimp only; omega, ?_⟩
        simp only [encCor, hdCor, flags_of h1, h2, h3, List.cons_append, List.nil_append, List.append_assoc, UInt8.ofNat_toNat]
      · cases h
    · cases h
  · cases h⟩
def okCac (c : Cac) : Prop := c.ways.length = 16 ∧ c.notes.length = 4 ∧ ∀ n ∈ c.notes, okNte n
theorem fmt_cac : Fmt encCac decCac okCac := ⟨fun x r ho => by
  obtain ⟨h1, h2, h3⟩ := ho
  have e1 := reps_f fmt_lin x.ways (x.notes.flatMap encNte ++ ([x.k, x.l, x.a, x.b] ++ r)) fun _ _ => trivial
  have e2 := reps_f fmt_nte x.notes ([x.k, x.l, x.a, x.b] ++ r) h3
  rw [h1] at e1
  rw [h2] at e2
  simp only [encCac, List.append_assoc, decCac]
  rw [e1]
  simp only [List.cons_append, List.nil_append] at e2 ⊢
  simp only [e2], fun b x r h => by
  unfold decCac at h
  split at h
  · cases h
  · rename_i ws b1 h1
    split at h
    · rename_i ns k l a c r' h2
      simp only [Option.some.injEq, Prod.mk.injEq] at h
      obtain ⟨rfl, rfl⟩ := h
      obtain ⟨a1, _, a3⟩ := reps_g fmt_lin _ _ _ _ h1
      obtain ⟨b1, b2, b3⟩ := reps_g fmt_nte _ _ _ _ h2
      refine ⟨⟨a1, b1, b2⟩, ?_⟩
      simp only [encCac, a3, b3, List.append_assoc, List.cons_append, List.nil_append]
    · cases h⟩
structure okSy (n : Nat) (s : Sy) : Prop where
  cores : s.cores.length = n
  caches : s.caches.length = n
  homes : s.homes.length = 6
  net : s.net.length ≤ 64
  cor : ∀ c ∈ s.cores, okCor c
  cac : ∀ c ∈ s.caches, okCac c
theorem dec_enc {n : Nat} {s : Sy} (h : okSy n s) : decSy n (encSy s) = some s := by
  have e1 := reps_f fmt_cor s.cores (s.caches.flatMap encCac ++ (s.homes.flatMap encHom ++ (UInt8.ofNat s.net.length :: s.net.flatMap codeOf))) h.cor
  have e2 := reps_f fmt_cac s.caches (s.homes.flatMap encHom ++ (UInt8.ofNat s.net.length :: s.net.flatMap codeOf)) h.cac
  have e3 := reps_f fmt_hom s.homes (UInt8.ofNat s.net.length :: s.net.flatMap codeOf) fun _ _ => trivial
  have e4 := reps_f fmt_msg s.net [] fun _ _ => trivial
  have e5 : (UInt8.ofNat s.net.length).toNat = s.net.length := by rw [UInt8.toNat_ofNat']; have := h.net; omega
  rw [h.cores] at e1
  rw [h.caches] at e2
  rw [h.homes] at e3
  rw [List.append_nil] at e4
  simp only [decSy, encSy, e1]
  simp only [e2, e3, e5, if_pos h.net, e4]
theorem enc_dec {n : Nat} {b : List UInt8} {s : Sy} (h : decSy n b = some s) : okSy n s ∧ b = encSy s := by
  unfold decSy at h
  split at h
  · cases h
  · rename_i cs b1 h1
    split at h
    · cases h
    · rename_i ca b2 h2
      split at h
      · rename_i hs k b3 h3
        split at h
        · rename_i hk
          split at h
          · rename_i ms h4
            simp only [Option.some.injEq] at h
            subst h
            obtain ⟨a1, a2, a3⟩ := reps_g fmt_cor _ _ _ _ h1
            obtain ⟨c1, c2, c3⟩ := reps_g fmt_cac _ _ _ _ h2
            obtain ⟨d1, _, d3⟩ := reps_g fmt_hom _ _ _ _ h3
            obtain ⟨f1, _, f3⟩ := reps_g fmt_msg _ _ _ _ h4
            refine ⟨⟨a1, c1, d1, by dsimp only; omega, a2, c2⟩, ?_⟩
            simp only [encSy, a3, c3, d3, f3, f1, List.append_nil, UInt8.ofNat_toNat]
          · cases h
        · cases h
      · cases h
theorem enc_inj {n m : Nat} {s t : Sy} (hs : okSy n s) (ht : okSy m t) (hn : n = m) (h : encSy s = encSy t) : s = t := by
  subst hn
  have h1 := dec_enc hs
  rw [h, dec_enc ht] at h1
  exact (Option.some.inj h1).symm
theorem dec_more {n : Nat} {b : List UInt8} {s : Sy} (h : decSy n b = some s) (x : UInt8) : decSy n (b ++ [x]) = none := by
  cases h2 : decSy n (b ++ [x]) with
  | none => rfl
  | some t =>
    exfalso
    obtain ⟨hs, hb⟩ := enc_dec h
    obtain ⟨ht, hc⟩ := enc_dec h2
    rw [hb] at hc
    have e1 := reps_f fmt_cor s.cores (s.caches.flatMap encCac ++ (s.homes.flatMap encHom ++ (UInt8.ofNat s.net.length :: s.net.flatMap codeOf)) ++ [x]) hs.cor
    have e2 := reps_f fmt_cac s.caches (s.homes.flatMap encHom ++ (UInt8.ofNat s.net.length :: s.net.flatMap codeOf) ++ [x]) hs.cac
    have e3 := reps_f fmt_hom s.homes (UInt8.ofNat s.net.length :: s.net.flatMap codeOf ++ [x]) fun _ _ => trivial
    have e4 := reps_f fmt_msg s.net [x] fun _ _ => trivial
    have e5 : (UInt8.ofNat s.net.length).toNat = s.net.length := by rw [UInt8.toNat_ofNat']; have := hs.net; omega
    rw [hs.cores] at e1
    rw [hs.caches] at e2
    rw [hs.homes] at e3
    rw [hb] at h2
    simp only [decSy, encSy, List.append_assoc, List.cons_append] at h2 e1 e2 e3
    simp only [e1, e2, e3, e5, if_pos hs.net, e4] at h2
    cases h2
theorem cor_len (c : Cor) : (encCor c).length = 11 + 2 * c.buf.length := by
  have : (c.buf.flatMap encSto).length = 2 * c.buf.length := by
    induction c.buf with
    | nil => rfl
    | cons a r ih => rw [List.flatMap_cons, List.length_append, ih]; simp only [encSto, List.length_cons, List.length_nil]; omega
  simp only [encCor, hdCor, List.length_append, this, List.length_cons, List.length_nil]; omega
theorem cac_len {c : Cac} (h1 : c.ways.length = 16) (h2 : c.notes.length = 4) : (encCac c).length = 160 := by
  have e1 : ∀ l : List Lin, (l.flatMap encLin).length = 8 * l.length := fun l => by
    induction l with
    | nil => rfl
    | cons a r ih => rw [List.flatMap_cons, List.length_append, ih]; simp only [encLin, List.length_cons, List.length_nil]; omega
  have e2 : ∀ l : List Nte, (l.flatMap encNte).length = 7 * l.length := fun l => by
    induction l with
    | nil => rfl
    | cons a r ih => rw [List.flatMap_cons, List.length_append, ih]; simp only [encNte, List.length_cons, List.length_nil]; omega
  simp only [encCac, List.length_append, e1, e2, h1, h2, List.length_cons, List.length_nil]
def bufsL (l : List Cor) : Nat := (l.map fun c => c.buf.length).sum
theorem cors_len (l : List Cor) : (l.flatMap encCor).length = 11 * l.length + 2 * bufsL l := by
  unfold bufsL
  induction l with
  | nil => rfl
  | cons a r ih => rw [List.flatMap_cons, List.length_append, ih, cor_len]; simp only [List.map_cons, List.sum_cons, List.length_cons]; omega
theorem cacs_len : ∀ l : List Cac, (∀ c ∈ l, c.ways.length = 16 ∧ c.notes.length = 4) → (l.flatMap encCac).length = 160 * l.length
  | [], _ => rfl
  | a :: r, h => by
    rw [List.flatMap_cons, List.length_append, cacs_len r fun c hc => h c (List.mem_cons_of_mem _ hc), cac_len (h a List.mem_cons_self).1 (h a List.mem_cons_self).2]
    simp only [List.length_cons]; omega
theorem homs_len (l : List Hom) : (l.flatMap encHom).length = 18 * l.length := by
  induction l with
  | nil => rfl
  | cons a r ih => rw [List.flatMap_cons, List.length_append, ih]; simp only [encHom, List.length_cons, List.length_nil]; omega
theorem msgs_len (l : List Msg) : (l.flatMap codeOf).length = 11 * l.length := by
  induction l with
  | nil => rfl
  | cons a r ih => rw [List.flatMap_cons, List.length_append, ih]; simp only [codeOf, List.length_cons, List.length_nil]; omega
theorem sy_len {n : Nat} {s : Sy} (h : okSy n s) : (encSy s).length = 171 * n + 109 + 11 * s.net.length + 2 * bufsL s.cores := by
  simp only [encSy, List.length_append, List.length_cons, cors_len, cacs_len s.caches fun c hc => ⟨(h.cac c hc).1, (h.cac c hc).2.1⟩, homs_len, msgs_len, h.cores, h.caches, h.homes]
  omega
end Go.Proofs.YthgmcegmgjoafaaGreatDoor
namespace Go.Vc
open Go.RowKit
def deferOf (S : Sig) (E : Env) (o : Oper) (c : Call) (K : Env → Prop) : Prop :=
  match okDst S.n o.dst, o.guard with
  | true, none => withL E c.args.toList fun vs => (match c.callee with
    | .value f => with1 E f fun vf => (match vf with
      | .func fn first captured => K ⟨(setE o.dst undef E).vs, { target := .fn fn captured, args := (first.toList ++ vs).toArray } :: E.ds⟩
      | _ => False)
    | _ => False)
  | _, _ => False
def opsF (S : Sig) (all : List Oper) : Nat → List Oper → Env → World → (Env → World → Prop) → (Env → List PanicEntry → World → Prop) → Prop
  | _, [], E, w, K, _ => K E w
  | i, o :: r, E, w, K, KP => (match o.op with
    | .defer c => deferOf S E o c fun E' => opsF S all (i + 1) r E' w K KP
    | _ => (match noSel o.op with
      | true => stepE S all false i o E w (fun E' w' => opsF S all (i + 1) r E' w' K KP) KP
      | false => False))
section
variable {S : Sig} {n : Nat}
theorem defer_run {P : Program} {E : Env} {a : Act} {w : World} {f : Operand} {args : Array Operand} {ats : Array TypeId} {ty : TypeId} {fn : Fn} {first captured : Array Value} {vs : List Value} (ha : Agrees S a E) (hvf : opd E f = some (.func fn first captured))
    (e1 : args.toList.map a.eval = vs) : (do pure (Next.defer (← resolve a.eval { callee := .value f, args := args, argTypes := ats } ty)) : Sem Next).run P w = .ok (.defer { target := .fn fn captured, args := (first.toList ++ vs).toArray }) w := by
  have e2 := ha.eval hvf
  have e1 : args.map a.eval = vs.toArray := by rw [← e1, ← Array.toList_map]
  have e3 : first ++ vs.toArray = (first.toList ++ vs).toArray := by rw [← Array.toList_inj]; simp
  simp only [resolve, e1, e2]
  simp [go_sem, e3]
theorem opsF_sound (hS : SigOk S) (hr0 : S.r = none) {ops : Array Oper} {Q : Exit → Env → World → Prop} :
    ∀ (r : List Oper) (i : Nat) (E : Env) (a : Act) (w : World), (∀ k o, r[k]? = some o → ops[i + k]? = some o) → Agrees S a E →
      opsF S ops.toList i r E w (fun E w => Q .normal E w) (fun E ch w => Q (.panic ch) E w) →
      wpOpsIn (FR S.r) n S.P ops (lift S Q) (List.range' i r.length) a w
  | [], i, E, a, w, _, ha, h => by simp only [List.length_nil, List.range'_zero, wpOpsIn]; exact ⟨E, ha, h⟩
  | o :: r, i, E, a, w, hr, ha, h => by
    rw [List.length_cons, List.range'_succ, wpOpsIn_cons]
    have ho : ops[i]? = some o := by simpa using hr 0 o rfl
    have hrest : ∀ k o', r[k]? = some o' → ops[i + 1 + k]? = some o' := fun k o' hk => by have := hr (k + 1) o' (by simpa using hk); rwa [Nat.add_assoc, Nat.add_comm 1 k]
    unfold opsF at h
    split at h
    · rename_i c hop
      unfold deferOf at h
      split at h
      · rename_i hd hg
        obtain ⟨vs, h, hvs⟩ := withL_elim (S := S) h
        split at h
        · rename_i f hf
          obtain ⟨vf, hvf, h⟩ := with1_elim h
          split at h
          · rename_i fn first captured
            have hrun : (execOp a.eval o).run S.P w = .ok (.defer { target := .fn fn captured, args := (first.toList ++ vs).toArray }) w := by
              obtain ⟨callee, args, argTypes⟩ := c
              simp only at hf
              subst hf
              have := defer_run (P := S.P) (ats := argTypes) (ty := o.type) ha hvf (hvs a ha) (w := w)
              rw [← this]; unfold execOp; rw [hop]
            unfold wpOpIn
            simp only [ho]
            have hw : Region.wanted o (yielded ops a.tmps) = true := by simp [Region.wanted, hg]
            rw [if_pos hw]
            refine ⟨fun _ _ => trivial, ?_⟩
            have hro : (FR S.r).round = none := hr0
            rw [hro, Oper.semAt_none, hrun, Oper.uponIn_defer]
            refine opsF_sound hS hr0 r (i + 1) _ _ _ hrest ?_ h
            have hp := ha.put hd undef
            cases hdst : o.dst with
            | none => rw [hdst] at hp; exact ⟨hp.size, by simp only [Act.put]; rw [ha.defers], hp.val⟩
            | some d => rw [hdst] at hp; exact ⟨hp.size, by simp only [Act.put]; rw [ha.defers], hp.val⟩
          · exact h.elim
        · exact h.elim
      · exact h.elim
    · split at h
      · rename_i hsel
        refine stepE_seq hS ho hsel h ha (fun E' a' w' ha' hk => ?_) (fun ch w' hk => ⟨E, ha, hk⟩)
        exact opsF_sound hS hr0 r (i + 1) E' a' w' hrest ha' hk
      · exact h.elim
def postD (S : Sig) (fn : Func) (R : Ending → World → Prop) : Exit → Env → World → Prop
  | .normal, E, w => ∀ a, Agrees S a E → LeavesInM (FR none) NN S.P fn a.tmps R E.ds .returning w
  | .ret, E, w => ∀ a, Agrees S a E → LeavesInM (FR none) NN S.P fn a.tmps R E.ds .returning w
  | .panic ch, E, w => ∀ a, Agrees S a E → LeavesInM (FR none) NN S.P fn a.tmps R E.ds (.panicking ch) w
  | _, _, _ => False
def wpD (S : Sig) (x : Code) (ops : Array Oper) (z : Code) (E : Env) (w : World) (Q : Exit → Env → World → Prop) : Prop :=
  wpE S x E w fun ex E' w' => match ex with
    | .normal => opsF S ops.toList 0 ops.toList E' w' (fun E w => wpE S z E w Q) (fun E ch w => Q (.panic ch) E w)
    | ex => Q ex E' w'
theorem args_agree {S : Sig} {fn : Func} {args : List Value} (hn : fn.ntmps = S.n) (hle : args.length ≤ S.n) :
    Agrees S { tmps := args.toArray ++ Array.replicate (fn.ntmps - args.toArray.size) undef, defers := [] } ⟨argsE 0 args, []⟩ := by
  refine ⟨?_, rfl, fun t v hv => ?_⟩
  · simp [hn]; omega
  · obtain ⟨_, h2⟩ := argsE_find _ _ _ _ hv
    simp only [Nat.sub_zero] at h2
    have hlt : t < args.length := (List.getElem?_eq_some_iff.1 h2).1
    simp only [Array.getElem?_append, List.size_toArray, hlt, if_true]
    simpa using h2
theorem calls_of_D (hS : SigOk S) {f : FuncId} {fn : Func} {x z : Code} {id : Nat} {ops : Array Oper} {args : List Value} {w : World} {R : Ending → World → Prop}
    (hf : S.P.funcs[f]? = some fn) (hb : fn.body = some (.seq x (.seq (.region id ops false) z))) (hn : fn.ntmps = S.n) (hle : args.length ≤ S.n) (hr : S.r = none)
    (h : wpD S x ops z ⟨argsE 0 args, []⟩ w (postD S fn R)) : Calls S.P f args.toArray w R := by
  rw [← callsIn_wide (n := NN)]
  have hF : FR none = Fence.wide := rfl
  rw [← hF]
  refine callsIn_of_wp_marks hf hb trivial ?_
  have ha := args_agree (fn := fn) hn hle
  have fin : ∀ ex a' w', lift S (postD S fn R) ex a' w' → bodyPostM (FR none) NN S.P fn R ex a' w' := by
    rintro ex a' w' ⟨E', ha', hq⟩
    cases ex with
    | normal => have := hq a' ha'; rw [← ha'.defers] at this; exact this
    | ret => have := hq a' ha'; rw [← ha'.defers] at this; exact this
    | panic ch => have := hq a' ha'; rw [← ha'.defers] at this; exact this
    | exit _ => exact hq.elim
    | goto _ => exact hq.elim
    | outgrown => exact hq.elim
  have hrF : (FR S.r) = FR none := by rw [hr]
  rw [← hrF] at fin ⊢
  refine wpIn_seq ?_
  refine wpIn_mono (wpE_sound hS x _ _ w _ ha h) ?_
  rintro ex a' w' ⟨E', ha', hq⟩
  cases ex with
  | normal =>
    have hreg : (Code.region id ops false).wpIn (FR S.r) NN S.P (lift S fun ex E w => match ex with | .normal => wpE S z E w (postD S fn R) | ex => postD S fn R ex E w) a' w' := by
      refine wpIn_region ?_
      rw [List.range_eq_range']
      have h1 := opsF_sound (n := NN) hS hr (Q := fun ex E w => match ex with | .normal => wpE S z E w (postD S fn R) | ex => postD S fn R ex E w) ops.toList 0 E' a' w' (fun k o hk => by simpa using hk) ha' hq
      simpa using h1
    refine wpIn_seq (wpIn_mono hreg ?_)
    rintro ex a'' w'' ⟨E'', ha'', hq''⟩
    cases ex with
    | normal => exact wpIn_mono (wpE_sound hS z _ _ w'' _ ha'' hq'') fin
    | ret => exact fin _ _ _ ⟨E'', ha'', hq''⟩
    | panic ch => exact fin _ _ _ ⟨E'', ha'', hq''⟩
    | exit _ => exact hq''.elim
    | goto _ => exact hq''.elim
    | outgrown => exact hq''.elim
  | ret => exact fin _ _ _ ⟨E', ha', hq⟩
  | panic ch => exact fin _ _ _ ⟨E', ha', hq⟩
  | exit _ => exact hq.elim
  | goto _ => exact hq.elim
  | outgrown => exact hq.elim
end
end Go.Vc
namespace Go.Proofs.YthgmcegmgjoafaaGreatDoor
open Go.Vc Go.RowKit Go.Sei
theorem callE_of {S : Sig} {g : Nat} {first captured : Array Value} {vs : List Value} {w : World} {K : Value → World → Prop} {KP : List PanicEntry → World → Prop} (h : calleeOk S g = true)
    (hc : CallR S.P g (first.toList ++ vs ++ captured.toList).toArray w K KP) : callE S (.func (.func g) first captured) vs w K KP := by
  unfold callE; simp only [h]; exact hc
theorem CallR.imp {P : Program} {g : Nat} {args : Array Value} {w : World} {K K' : Value → World → Prop} {KP KP' : List PanicEntry → World → Prop} (h : CallR P g args w K KP) (hk : ∀ v w, K v w → K' v w) (hp : ∀ ch w, KP ch w → KP' ch w) : CallR P g args w K' KP' :=
  Calls.mono h fun e w' he => by cases e <;> first | exact hk _ _ he | exact hp _ _ he | exact he
theorem each_Cor {p : Option Addr} {b o n cap gf : Nat} {caps : List Value} (I : Nat → World → Prop) {KP : List PanicEntry → World → Prop} {w : World} (hok : calleeOk (sg 16) gf = true) (hp : n = 0 ∨ p = some ⟨b, o, none⟩) (hn : n ≤ 1000000000)
    (hc : ∀ i w, i < n → I i w → CallR Tryz.prog gf (.pointer (some ⟨b, o + i * 12, none⟩) :: caps).toArray w (fun _ w' => I (i + 1) w') KP) (h0 : I 0 w) :
    CallR Tryz.prog 117 #[.slice p n cap, .func (.func gf) #[] caps.toArray] w (fun _ w' => I n w') KP := by
  refine calls_of_E (S := sg 16) (sgOk _) (args := [.slice p n cap, .func (.func gf) #[] caps.toArray]) Tryz.func117 rfl rfl (Nat.le_of_ble_eq_true rfl) rfl ?_
  refine ⟨Nat, fun k => ⟨[(0, .slice p n cap), (1, .func (.func gf) #[] caps.toArray), (6, .int .i64 n), (7, .int .i64 (k : Nat))], []⟩,
    fun k V => k ≤ n ∧ I k V, fun k => n - k, 0, ⟨.cons rfl (.cons rfl (.cons rfl (.cons rfl .nil))), rfl⟩, ⟨Nat.zero_le _, h0⟩, ?_⟩
  rintro k V ⟨hk, hI⟩
  refine And.intro (fun h => ?_) (fun h => ?_)
  · have h : (k : Int) < n := of_decide_eq_true h
    have hkn : k < n := by omega
    rcases hp with hp | hp
    · omega
    subst hp
    refine ⟨k, rfl, hkn, ?_⟩
    refine callE_of hok ?_
    refine CallR.imp (hc k V hkn hI) (fun v w' hI' => ?_) (fun ch w' hq => ⟨rfl, hq⟩)
    refine ⟨(k + 1 : Nat), (wrap_i64 (by omega)).trans (by omega), ?_⟩
    exact ⟨k + 1, ⟨.cons rfl (.cons rfl (.cons rfl (.cons rfl .nil))), rfl⟩, ⟨hkn, hI'⟩, by dsimp only; omega⟩
  · have h : ¬ (k : Int) < n := of_decide_eq_false h
    have e : k = n := by omega
    subst e
    exact hI
theorem each_Cac {p : Option Addr} {b o n cap gf : Nat} {caps : List Value} (I : Nat → World → Prop) {KP : List PanicEntry → World → Prop} {w : World} (hok : calleeOk (sg 16) gf = true) (hp : n = 0 ∨ p = some ⟨b, o, none⟩) (hn : n ≤ 1000000000)
    (hc : ∀ i w, i < n → I i w → CallR Tryz.prog gf (.pointer (some ⟨b, o + i * 160, none⟩) :: caps).toArray w (fun _ w' => I (i + 1) w') KP) (h0 : I 0 w) :
    CallR Tryz.prog 120 #[.slice p n cap, .func (.func gf) #[] caps.toArray] w (fun _ w' => I n w') KP := by
  refine calls_of_E (S := sg 16) (sgOk _) (args := [.slice p n cap, .func (.func gf) #[] caps.toArray]) Tryz.func120 rfl rfl (Nat.le_of_ble_eq_true rfl) rfl ?_
  refine ⟨Nat, fun k => ⟨[(0, .slice p n cap), (1, .func (.func gf) #[] caps.toArray), (6, .int .i64 n), (7, .int .i64 (k : Nat))], []⟩,
    fun k V => k ≤ n ∧ I k V, fun k => n - k, 0, ⟨.cons rfl (.cons rfl (.cons rfl (.cons rfl .nil))), rfl⟩, ⟨Nat.zero_le _, h0⟩, ?_⟩
  rintro k V ⟨hk, hI⟩
  refine And.intro (fun h => ?_) (fun h => ?_)
  · have h : (k : Int) < n := of_decide_eq_true h
    have hkn : k < n := by omega
    rcases hp with hp | hp
    · omega
    subst hp
    refine ⟨k, rfl, hkn, ?_⟩
    refine callE_of hok ?_
    refine CallR.imp (hc k V hkn hI) (fun v w' hI' => ?_) (fun ch w' hq => ⟨rfl, hq⟩)
    refine ⟨(k + 1 : Nat), (wrap_i64 (by omega)).trans (by omega), ?_⟩
    exact ⟨k + 1, ⟨.cons rfl (.cons rfl (.cons rfl (.cons rfl .nil))), rfl⟩, ⟨hkn, hI'⟩, by dsimp only; omega⟩
  · have h : ¬ (k : Int) < n := of_decide_eq_false h
    have e : k = n := by omega
    subst e
    exact hI
theorem each_Hom {p : Option Addr} {b o n cap gf : Nat} {caps : List Value} (I : Nat → World → Prop) {KP : List PanicEntry → World → Prop} {w : World} (hok : calleeOk (sg 16) gf = true) (hp : n = 0 ∨ p = some ⟨b, o, none⟩) (hn : n ≤ 1000000000)
    (hc : ∀ i w, i < n → I i w → CallR Tryz.prog gf (.pointer (some ⟨b, o + i * 11, none⟩) :: caps).toArray w (fun _ w' => I (i + 1) w') KP) (h0 : I 0 w) :
    CallR Tryz.prog 123 #[.slice p n cap, .func (.func gf) #[] caps.toArray] w (fun _ w' => I n w') KP := by
  refine calls_of_E (S := sg 16) (sgOk _) (args := [.slice p n cap, .func (.func gf) #[] caps.toArray]) Tryz.func123 rfl rfl (Nat.le_of_ble_eq_true rfl) rfl ?_
  refine ⟨Nat, fun k => ⟨[(0, .slice p n cap), (1, .func (.func gf) #[] caps.toArray), (6, .int .i64 n), (7, .int .i64 (k : Nat))], []⟩,
    fun k V => k ≤ n ∧ I k V, fun k => n - k, 0, ⟨.cons rfl (.cons rfl (.cons rfl (.cons rfl .nil))), rfl⟩, ⟨Nat.zero_le _, h0⟩, ?_⟩
  rintro k V ⟨hk, hI⟩
  refine And.intro (fun h => ?_) (fun h => ?_)
  · have h : (k : Int) < n := of_decide_eq_true h
    have hkn : k < n := by omega
    rcases hp with hp | hp
    · omega
    subst hp
    refine ⟨k, rfl, hkn, ?_⟩
    refine callE_of hok ?_
    refine CallR.imp (hc k V hkn hI) (fun v w' hI' => ?_) (fun ch w' hq => ⟨rfl, hq⟩)
    refine ⟨(k + 1 : Nat), (wrap_i64 (by omega)).trans (by omega), ?_⟩
    exact ⟨k + 1, ⟨.cons rfl (.cons rfl (.cons rfl (.cons rfl .nil))), rfl⟩, ⟨hkn, hI'⟩, by dsimp only; omega⟩
  · have h : ¬ (k : Int) < n := of_decide_eq_false h
    have e : k = n := by omega
    subst e
    exact hI
theorem each_Msg {p : Option Addr} {b o n cap gf : Nat} {caps : List Value} (I : Nat → World → Prop) {KP : List PanicEntry → World → Prop} {w : World} (hok : calleeOk (sg 16) gf = true) (hp : n = 0 ∨ p = some ⟨b, o, none⟩) (hn : n ≤ 1000000000)
    (hc : ∀ i w, i < n → I i w → CallR Tryz.prog gf (.pointer (some ⟨b, o + i * 11, none⟩) :: caps).toArray w (fun _ w' => I (i + 1) w') KP) (h0 : I 0 w) :
    CallR Tryz.prog 127 #[.slice p n cap, .func (.func gf) #[] caps.toArray] w (fun _ w' => I n w') KP := by
  refine calls_of_E (S := sg 16) (sgOk _) (args := [.slice p n cap, .func (.func gf) #[] caps.toArray]) Tryz.func127 rfl rfl (Nat.le_of_ble_eq_true rfl) rfl ?_
  refine ⟨Nat, fun k => ⟨[(0, .slice p n cap), (1, .func (.func gf) #[] caps.toArray), (6, .int .i64 n), (7, .int .i64 (k : Nat))], []⟩,
    fun k V => k ≤ n ∧ I k V, fun k => n - k, 0, ⟨.cons rfl (.cons rfl (.cons rfl (.cons rfl .nil))), rfl⟩, ⟨Nat.zero_le _, h0⟩, ?_⟩
  rintro k V ⟨hk, hI⟩
  refine And.intro (fun h => ?_) (fun h => ?_)
  · have h : (k : Int) < n := of_decide_eq_true h
    have hkn : k < n := by omega
    rcases hp with hp | hp
    · omega
    subst hp
    refine ⟨k, rfl, hkn, ?_⟩
    refine callE_of hok ?_
    refine CallR.imp (hc k V hkn hI) (fun v w' hI' => ?_) (fun ch w' hq => ⟨rfl, hq⟩)
    refine ⟨(k + 1 : Nat), (wrap_i64 (by omega)).trans (by omega), ?_⟩
    exact ⟨k + 1, ⟨.cons rfl (.cons rfl (.cons rfl (.cons rfl .nil))), rfl⟩, ⟨hkn, hI'⟩, by dsimp only; omega⟩
  · have h : ¬ (k : Int) < n := of_decide_eq_false h
    have e : k = n := by omega
    subst e
    exact hI
theorem each_Sto {p : Option Addr} {b o n cap gf : Nat} {caps : List Value} (I : Nat → World → Prop) {KP : List PanicEntry → World → Prop} {w : World} (hok : calleeOk (sg 16) gf = true) (hp : n = 0 ∨ p = some ⟨b, o, none⟩) (hn : n ≤ 1000000000)
    (hc : ∀ i w, i < n → I i w → CallR Tryz.prog gf (.pointer (some ⟨b, o + i * 2, none⟩) :: caps).toArray w (fun _ w' => I (i + 1) w') KP) (h0 : I 0 w) :
    CallR Tryz.prog 169 #[.slice p n cap, .func (.func gf) #[] caps.toArray] w (fun _ w' => I n w') KP := by
  refine calls_of_E (S := sg 16) (sgOk _) (args := [.slice p n cap, .func (.func gf) #[] caps.toArray]) Tryz.func169 rfl rfl (Nat.le_of_ble_eq_true rfl) rfl ?_
  refine ⟨Nat, fun k => ⟨[(0, .slice p n cap), (1, .func (.func gf) #[] caps.toArray), (6, .int .i64 n), (7, .int .i64 (k : Nat))], []⟩,
    fun k V => k ≤ n ∧ I k V, fun k => n - k, 0, ⟨.cons rfl (.cons rfl (.cons rfl (.cons rfl .nil))), rfl⟩, ⟨Nat.zero_le _, h0⟩, ?_⟩
  rintro k V ⟨hk, hI⟩
  refine And.intro (fun h => ?_) (fun h => ?_)
  · have h : (k : Int) < n := of_decide_eq_true h
    have hkn : k < n := by omega
    rcases hp with hp | hp
    · omega
    subst hp
    refine ⟨k, rfl, hkn, ?_⟩
    refine callE_of hok ?_
    refine CallR.imp (hc k V hkn hI) (fun v w' hI' => ?_) (fun ch w' hq => ⟨rfl, hq⟩)
    refine ⟨(k + 1 : Nat), (wrap_i64 (by omega)).trans (by omega), ?_⟩
    exact ⟨k + 1, ⟨.cons rfl (.cons rfl (.cons rfl (.cons rfl .nil))), rfl⟩, ⟨hkn, hI'⟩, by dsimp only; omega⟩
  · have h : ¬ (k : Int) < n := of_decide_eq_false h
    have e : k = n := by omega
    subst e
    exact hI
theorem each_Row {p : Option Addr} {b o n cap gf : Nat} {caps : List Value} (I : Nat → World → Prop) {KP : List PanicEntry → World → Prop} {w : World} (hok : calleeOk (sg 16) gf = true) (hp : n = 0 ∨ p = some ⟨b, o, none⟩) (hn : n ≤ 1000000000)
    (hc : ∀ i w, i < n → I i w → CallR Tryz.prog gf (.pointer (some ⟨b, o + i * 32, none⟩) :: caps).toArray w (fun _ w' => I (i + 1) w') KP) (h0 : I 0 w) :
    CallR Tryz.prog 172 #[.slice p n cap, .func (.func gf) #[] caps.toArray] w (fun _ w' => I n w') KP := by
  refine calls_of_E (S := sg 16) (sgOk _) (args := [.slice p n cap, .func (.func gf) #[] caps.toArray]) Tryz.func172 rfl rfl (Nat.le_of_ble_eq_true rfl) rfl ?_
  refine ⟨Nat, fun k => ⟨[(0, .slice p n cap), (1, .func (.func gf) #[] caps.toArray), (6, .int .i64 n), (7, .int .i64 (k : Nat))], []⟩,
    fun k V => k ≤ n ∧ I k V, fun k => n - k, 0, ⟨.cons rfl (.cons rfl (.cons rfl (.cons rfl .nil))), rfl⟩, ⟨Nat.zero_le _, h0⟩, ?_⟩
  rintro k V ⟨hk, hI⟩
  refine And.intro (fun h => ?_) (fun h => ?_)
  · have h : (k : Int) < n := of_decide_eq_true h
    have hkn : k < n := by omega
    rcases hp with hp | hp
    · omega
    subst hp
    refine ⟨k, rfl, hkn, ?_⟩
    refine callE_of hok ?_
    refine CallR.imp (hc k V hkn hI) (fun v w' hI' => ?_) (fun ch w' hq => ⟨rfl, hq⟩)
    refine ⟨(k + 1 : Nat), (wrap_i64 (by omega)).trans (by omega), ?_⟩
    exact ⟨k + 1, ⟨.cons rfl (.cons rfl (.cons rfl (.cons rfl .nil))), rfl⟩, ⟨hkn, hI'⟩, by dsimp only; omega⟩
  · have h : ¬ (k : Int) < n := of_decide_eq_false h
    have e : k = n := by omega
    subst e
    exact hI
theorem each_Lin {p : Option Addr} {b o n cap gf : Nat} {caps : List Value} (I : Nat → World → Prop) {KP : List PanicEntry → World → Prop} {w : World} (hok : calleeOk (sg 16) gf = true) (hp : n = 0 ∨ p = some ⟨b, o, none⟩) (hn : n ≤ 1000000000)
    (hc : ∀ i w, i < n → I i w → CallR Tryz.prog gf (.pointer (some ⟨b, o + i * 8, none⟩) :: caps).toArray w (fun _ w' => I (i + 1) w') KP) (h0 : I 0 w) :
    CallR Tryz.prog 174 #[.slice p n cap, .func (.func gf) #[] caps.toArray] w (fun _ w' => I n w') KP := by
  refine calls_of_E (S := sg 16) (sgOk _) (args := [.slice p n cap, .func (.func gf) #[] caps.toArray]) Tryz.func174 rfl rfl (Nat.le_of_ble_eq_true rfl) rfl ?_
  refine ⟨Nat, fun k => ⟨[(0, .slice p n cap), (1, .func (.func gf) #[] caps.toArray), (6, .int .i64 n), (7, .int .i64 (k : Nat))], []⟩,
    fun k V => k ≤ n ∧ I k V, fun k => n - k, 0, ⟨.cons rfl (.cons rfl (.cons rfl (.cons rfl .nil))), rfl⟩, ⟨Nat.zero_le _, h0⟩, ?_⟩
  rintro k V ⟨hk, hI⟩
  refine And.intro (fun h => ?_) (fun h => ?_)
  · have h : (k : Int) < n := of_decide_eq_true h
    have hkn : k < n := by omega
    rcases hp with hp | hp
    · omega
    subst hp
    refine ⟨k, rfl, hkn, ?_⟩
    refine callE_of hok ?_
    refine CallR.imp (hc k V hkn hI) (fun v w' hI' => ?_) (fun ch w' hq => ⟨rfl, hq⟩)
    refine ⟨(k + 1 : Nat), (wrap_i64 (by omega)).trans (by omega), ?_⟩
    exact ⟨k + 1, ⟨.cons rfl (.cons rfl (.cons rfl (.cons rfl .nil))), rfl⟩, ⟨hkn, hI'⟩, by dsimp only; omega⟩
  · have h : ¬ (k : Int) < n := of_decide_eq_false h
    have e : k = n := by omega
    subst e
    exact hI
theorem each_Nte {p : Option Addr} {b o n cap gf : Nat} {caps : List Value} (I : Nat → World → Prop) {KP : List PanicEntry → World → Prop} {w : World} (hok : calleeOk (sg 16) gf = true) (hp : n = 0 ∨ p = some ⟨b, o, none⟩) (hn : n ≤ 1000000000)
    (hc : ∀ i w, i < n → I i w → CallR Tryz.prog gf (.pointer (some ⟨b, o + i * 7, none⟩) :: caps).toArray w (fun _ w' => I (i + 1) w') KP) (h0 : I 0 w) :
    CallR Tryz.prog 176 #[.slice p n cap, .func (.func gf) #[] caps.toArray] w (fun _ w' => I n w') KP := by
  refine calls_of_E (S := sg 16) (sgOk _) (args := [.slice p n cap, .func (.func gf) #[] caps.toArray]) Tryz.func176 rfl rfl (Nat.le_of_ble_eq_true rfl) rfl ?_
  refine ⟨Nat, fun k => ⟨[(0, .slice p n cap), (1, .func (.func gf) #[] caps.toArray), (6, .int .i64 n), (7, .int .i64 (k : Nat))], []⟩,
    fun k V => k ≤ n ∧ I k V, fun k => n - k, 0, ⟨.cons rfl (.cons rfl (.cons rfl (.cons rfl .nil))), rfl⟩, ⟨Nat.zero_le _, h0⟩, ?_⟩
  rintro k V ⟨hk, hI⟩
  refine And.intro (fun h => ?_) (fun h => ?_)
  · have h : (k : Int) < n := of_decide_eq_true h
    have hkn : k < n := by omega
    rcases hp with hp | hp
    · omega
    subst hp
    refine ⟨k, rfl, hkn, ?_⟩
    refine callE_of hok ?_
    refine CallR.imp (hc k V hkn hI) (fun v w' hI' => ?_) (fun ch w' hq => ⟨rfl, hq⟩)
    refine ⟨(k + 1 : Nat), (wrap_i64 (by omega)).trans (by omega), ?_⟩
    exact ⟨k + 1, ⟨.cons rfl (.cons rfl (.cons rfl (.cons rfl .nil))), rfl⟩, ⟨hkn, hI'⟩, by dsimp only; omega⟩
  · have h : ¬ (k : Int) < n := of_decide_eq_false h
    have e : k = n := by omega
    subst e
    exact hI
end Go.Proofs.YthgmcegmgjoafaaGreatDoor
namespace Go.Proofs.YthgmcegmgjoafaaGreatDoor
open Go.Vc Go.RowKit Go.Sei
def EncB (B : Nat) (L : List Nat) (g : Nat) (out : List UInt8) (w : World) : Prop :=
  ∃ p cap, w.heap[g]? = some (.cells #[.slice p out.length cap] 212 (0, 0)) ∧ OwnS byteE 5 B w p cap out ∧ B ≤ g ∧ (∀ a, p = some a → a.block ≠ g ∧ a.block ∉ L) ∧ g ∉ L ∧ ∀ k ∈ L, k < w.heap.size
structure Kp (B : Nat) (L : List Nat) (w w' : World) : Prop where
  b : Below B w w'
  l : ∀ k ∈ L, w'.heap[k]? = w.heap[k]?
theorem Kp.refl (B : Nat) (L : List Nat) (w : World) : Kp B L w w := ⟨Below.refl _ _, fun _ _ => rfl⟩
theorem Kp.trans {B : Nat} {L : List Nat} {a b c : World} (h : Kp B L a b) (k : Kp B L b c) : Kp B L a c := ⟨h.b.trans k.b, fun i hi => (k.l i hi).trans (h.l i hi)⟩
theorem Kp.mono {B : Nat} {L L' : List Nat} {a b : World} (h : Kp B L a b) (hl : ∀ k ∈ L', k ∈ L) : Kp B L' a b := ⟨h.b, fun i hi => h.l i (hl i hi)⟩
theorem Kp.of_below {B : Nat} {L : List Nat} {a b : World} (h : Below a.heap.size a b) (hB : B ≤ a.heap.size) (hl : ∀ k ∈ L, k < a.heap.size) : Kp B L a b := ⟨h.mono hB, fun i hi => h.block i (hl i hi)⟩
theorem EncB.lt {B g : Nat} {L : List Nat} {out : List UInt8} {w : World} (h : EncB B L g out w) : B ≤ w.heap.size ∧ g < w.heap.size ∧ ∀ k ∈ L, k < w.heap.size := by
  obtain ⟨p, cap, fg, ho, hB, _, _, hL⟩ := h
  have := hlt fg
  exact ⟨by omega, this, hL⟩
theorem EncB.below {B g : Nat} {L : List Nat} {out : List UInt8} {w w2 : World} (h : EncB B L g out w) (hb : Below w.heap.size w w2) : EncB B L g out w2 := by
  obtain ⟨p, cap, fg, ho, hB, hp, hg, hL⟩ := h
  exact ⟨p, cap, block_below hb fg, ho.below hb, hB, hp, hg, fun k hk => Nat.lt_of_lt_of_le (hL k hk) hb.size⟩
theorem EncB.box {B g : Nat} {L : List Nat} {out : List UInt8} {w w2 : World} (h : EncB B L g out w) (hb : Below w.heap.size w w2) (hs : w.heap.size < w2.heap.size) : EncB B (w.heap.size :: L) g out w2 := by
  obtain ⟨p, cap, fg, ho, hB, hp, hg, hL⟩ := h
  have h1 := hlt fg
  refine ⟨p, cap, block_below hb fg, ho.below hb, hB, fun a ha => ⟨(hp a ha).1, ?_⟩, ?_, ?_⟩
  · simp only [List.mem_cons, not_or]
    refine ⟨?_, (hp a ha).2⟩
    rcases ho.inv with ⟨h2, _⟩ | ⟨g', _, h2, _, h3, _⟩
    · rw [h2] at ha; cases ha
    · rw [h2] at ha; cases ha
      have := hlt h3
      dsimp only; omega
  · simp only [List.mem_cons, not_or]; exact ⟨by omega, hg⟩
  · intro k hk
    rcases List.mem_cons.1 hk with rfl | hk
    · exact hs
    · exact Nat.lt_of_lt_of_le (hL k hk) hb.size
theorem EncB.less {B g : Nat} {L L' : List Nat} {out : List UInt8} {w : World} (h : EncB B L g out w) (hl : ∀ k ∈ L', k ∈ L) : EncB B L' g out w := by
  obtain ⟨p, cap, fg, ho, hB, hp, hg, hL⟩ := h
  exact ⟨p, cap, fg, ho, hB, fun a ha => ⟨(hp a ha).1, fun hm => (hp a ha).2 (hl _ hm)⟩, fun hm => hg (hl _ hm), fun k hk => hL k (hl k hk)⟩
theorem bytes_flat (l : List UInt8) : l.flatMap byteE.enc = l.map u8 := by
  induction l with
  | nil => rfl
  | cons a r ih => rw [List.flatMap_cons, ih]; rfl
theorem Put_c {B g : Nat} {L : List Nat} {out : List UInt8} (news : List UInt8) (a : Addr) (c : Nat) {w : World} (hE : EncB B L g out w) (hn : Cells w a (news.map u8)) (hl : out.length + news.length ≤ 1000000) :
    Calls Tryz.prog 126 #[.pointer (some ⟨g, 0, none⟩), .slice (some a) news.length c] w fun e w' => (∃ v, e = .returned v) ∧ EncB B L g (out ++ news) w' ∧ Kp B L w w' := by
  refine calls_of_E (S := sg 13) (sgOk _) (args := [.pointer (some ⟨g, 0, none⟩), .slice (some a) news.length c]) Tryz.func126 rfl rfl (Nat.le_of_ble_eq_true rfl) rfl ?_
  obtain ⟨p, cap, fg, ho, hBg, hpa, hgL, hLl⟩ := hE
  have hgs := hlt fg
  refine ⟨.slice p out.length cap, cells_at (cells_block fg) (i := 0) rfl, ?_⟩
  rw [← bytes_flat] at hn
  refine app_own (α := UInt8) (E := byteE) Tryz.underlying23 (ttOk.get 5 _ rfl) rfl rfl rfl ho rfl hn (by omega) (by omega) (by dsimp only; omega) ?_
  intro p' cap' X ho' hg' hb' hat
  have hne : ∀ b, p = some b → b.block ≠ g := fun b hb => (hpa b hb).1
  have hown : ∀ k, (Value.slice p out.length cap).ownBlock = some k → ∃ b, p = some b ∧ b.block = k := fun k hk => by
    rcases ho.inv with ⟨rfl, _⟩ | ⟨g', _, rfl, _⟩
    · simp [Value.ownBlock] at hk
    · simp [Value.ownBlock] at hk
      exact ⟨_, rfl, hk⟩
  have hk : ∀ k, k < w.heap.size → (∀ b, p = some b → b.block ≠ k) → X.heap[k]? = w.heap[k]? := fun k hk hnk => hg'.block k hk fun e => by
    obtain ⟨b, h1, h2⟩ := hown k e.symm
    exact hnk b h1 h2
  have fX : X.heap[g]? = some (.cells #[.slice p out.length cap] 212 (0, 0)) := (hk g hgs hne).trans fg
  have hp' : ∀ b, p' = some b → b.block ≠ g ∧ b.block ∉ L := fun b hb => by
    rcases hat b hb with h1 | h1
    · exact hpa b h1
    · rw [h1]; exact ⟨by omega, fun hm => by have := hLl _ hm; omega⟩
  refine store_box (v := .slice p' (out ++ news).length cap') (ttOk.get 23 _ rfl) fX (by rfl) rfl (by rfl) ?_
  refine ⟨⟨_, rfl⟩, ⟨p', cap', setRow_new fX, ho'.kept (grown_setRow _ _ _) (fun g' he e => ?_), hBg, hp', hgL, fun k hk => ?_⟩, ⟨below_setRow hb' hBg _, fun k hkL => ?_⟩⟩
  · have := (hp' _ he).1
    simp only [Option.some.injEq] at e
    exact this e.symm
  · have h1 := hLl k hk
    have := hg'.size
    have h3 : (X.setRow g (Value.slice p' (out ++ news).length cap').cells).heap.size = X.heap.size := by simp
    omega
  · have h1 := hLl k hkL
    rw [setRow_old (fun e : k = g => hgL (by rw [← e]; exact hkL))]
    exact hk k h1 fun b hb e => (hpa b hb).2 (by rw [e]; exact hkL)
theorem bit_c (on : Bool) (v : UInt8) (w : World) : Calls Tryz.prog 171 #[.bool on, u8 v] w fun e w' => e = .returned (u8 (bitB on v)) ∧ w = w' := by
  refine calls_of_E (S := sg 7) (sgOk _) (args := [.bool on, u8 v]) Tryz.func171 rfl rfl (Nat.le_of_ble_eq_true rfl) rfl ?_
  refine And.intro (fun h => ?_) (fun h => ?_)
  · have h : on = true := h
    subst h
    exact ⟨rfl, rfl⟩
  · have h : on = false := h
    subst h
    exact ⟨rfl, rfl⟩
end Go.Proofs.YthgmcegmgjoafaaGreatDoor
namespace Go.Proofs.YthgmcegmgjoafaaGreatDoor
open Go.Vc Go.RowKit Go.Sei
def zeroM : Msg := ⟨0, 0, 0, 0, 0, 0, false, 0, 0, 0, 0⟩
theorem Bytes_c (m : Msg) (w : World) : Calls Tryz.prog 129 #[m.val] w fun e w' => ∃ g, e = .returned (.slice (some ⟨g, 0, none⟩) 11 11) ∧ w'.heap[g]? = some (.cells ((codeOf m).map u8).toArray 260 (0, 0)) ∧ w.heap.size ≤ g ∧ Below w.heap.size w w' := by
  refine calls_of_E (S := sg 7) (sgOk _) (args := [m.val]) Tryz.func129 rfl rfl (Nat.le_of_ble_eq_true rfl) rfl ?_
  have hb0 : Below w.heap.size w (w.alloc (.cells m.val.cells 53)) := (Below.refl _ _).alloc (Nat.le_refl _) _
  have f0 := hnew w (.cells m.val.cells 53)
  refine ⟨m.enc, rfl, cells_block f0, hlt f0, ?_⟩
  refine Calls.mono (code_c m _) ?_
  rintro e X ⟨rfl, hbX⟩
  have hb2 := hb0.trans (hbX.mono hb0.size)
  refine store_new (X := X) (v := .agg ((codeOf m).map u8).toArray) (ttOk.get 260 _ rfl) (by rfl) rfl (by rfl) fun Y hbY fY sY => ?_
  exact ⟨X.heap.size, rfl, fY, hb2.size, hb2.trans (hbY.mono hb2.size)⟩
end Go.Proofs.YthgmcegmgjoafaaGreatDoor
namespace Go.Proofs.YthgmcegmgjoafaaGreatDoor
open Go.Vc Go.RowKit Go.Sei
theorem PutLit {B g : Nat} {L : List Nat} {out : List UInt8} (news : List UInt8) {X : World} {T : TypeId} (hE : EncB B L g out X) (hl : out.length + news.length ≤ 1000000) :
    Calls Tryz.prog 126 #[.pointer (some ⟨g, 0, none⟩), .slice (some ⟨X.drew.heap.size, 0, none⟩) news.length news.length] (X.drew.alloc (.cells (news.map u8).toArray T)) fun e w' => (∃ v, e = .returned v) ∧ EncB B L g (out ++ news) w' ∧ Kp B L X w' := by
  have hb1 : Below X.heap.size X (X.drew.alloc (.cells (news.map u8).toArray T)) := (Below.refl _ X).drew.alloc (Nat.le_refl _) _
  refine Calls.mono (Put_c news ⟨X.drew.heap.size, 0, none⟩ news.length (hE.below hb1) (by have := cells_new (w := X.drew) (cs := (news.map u8).toArray) (t := T); simpa using this) hl) ?_
  rintro e V ⟨h0, h1, h2⟩
  exact ⟨h0, h1, (Kp.of_below hb1 hE.lt.1 hE.lt.2.2).trans h2⟩
theorem PutRow {B g : Nat} {L : List Nat} {out : List UInt8} (news : List UInt8) (a : Addr) (c : Nat) {X : World} (hE : EncB B L g out X) (hn : Cells X a (news.map u8)) (hl : out.length + news.length ≤ 1000000) :
    Calls Tryz.prog 126 #[.pointer (some ⟨g, 0, none⟩), .slice (some a) news.length c] X.drew fun e w' => (∃ v, e = .returned v) ∧ EncB B L g (out ++ news) w' ∧ Kp B L X w' := by
  have hb1 : Below X.heap.size X X.drew := (Below.refl _ X).drew
  refine Calls.mono (Put_c news a c (hE.below hb1) hn hl) ?_
  rintro e V ⟨h0, h1, h2⟩
  exact ⟨h0, h1, (Kp.of_below hb1 hE.lt.1 hE.lt.2.2).trans h2⟩
theorem take_flat {α : Type} (f : α → List UInt8) {l : List α} {i : Nat} (hi : i < l.length) : (l.take (i + 1)).flatMap f = (l.take i).flatMap f ++ f l[i] ∧ ((l.take i).flatMap f).length + (f l[i]).length ≤ (l.flatMap f).length := by
  have h1 : (l.take (i + 1)).flatMap f = (l.take i).flatMap f ++ f l[i] := by rw [List.take_succ_eq_append_getElem hi, List.flatMap_append]; simp
  refine ⟨h1, ?_⟩
  rw [← List.length_append, ← h1]
  conv => rhs; rw [← List.take_append_drop (i + 1) l, List.flatMap_append]
  simp
theorem encSto_c {B g bx ox ep : Nat} {L : List Nat} {out : List UInt8} (s : Sto) {w : World} (hE : EncB B L g out w) (hb : w.heap[ep]? = some (.cells #[.pointer (some ⟨g, 0, none⟩)] 268 (0, 0))) (hx : Cells w ⟨bx, ox, none⟩ (stoE.enc s)) (hl : out.length + 2 ≤ 1000000) :
    Calls Tryz.prog 170 #[.pointer (some ⟨bx, ox, none⟩), .pointer (some ⟨ep, 0, none⟩)] w fun e w' => (∃ v, e = .returned v) ∧ EncB B L g (out ++ encSto s) w' ∧ Kp B L w w' := by
  refine calls_of_E (S := sg 16) (sgOk _) (args := [.pointer (some ⟨bx, ox, none⟩), .pointer (some ⟨ep, 0, none⟩)]) Tryz.func170 rfl rfl (Nat.le_of_ble_eq_true rfl) rfl ?_
  refine DrawE.ord [12] [0, 1, 2, 3, 4, 5, 6, 7, 8, 9, 10, 11, 12] (by kernel_rfl) ?_
  refine ⟨_, cells_at (cells_block hb) (i := 0) rfl, ?_⟩
  refine ⟨_, cells_at hx (i := 0) rfl, ?_⟩
  refine ⟨_, cells_at hx (i := 1) rfl, ?_⟩
  refine ⟨⟨by decide, by decide, rfl⟩, _, rfl, ?_⟩
  refine ⟨(Below.refl _ _).alloc (Nat.le_refl _) _, ?_⟩
  refine Calls.mono (PutLit [s.l, s.v] hE hl) ?_
  rintro e V ⟨⟨v, rfl⟩, h1, h2⟩
  exact ⟨⟨_, rfl⟩, h1, h2⟩
theorem encCor_c {B g bc oc : Nat} {L : List Nat} {out : List UInt8} (c : Cor) {w : World} (hE : EncB B L g out w) (hc : CorAt B w bc oc c) (ho : okCor c) (hl : out.length + (encCor c).length ≤ 1000000) :
    Calls Tryz.prog 119 #[.pointer (some ⟨g, 0, none⟩), .pointer (some ⟨bc, oc, none⟩)] w fun e w' => (∃ v, e = .returned v) ∧ EncB B L g (out ++ encCor c) w' ∧ Kp B L w w' := by
  refine calls_of_E (S := sg 54) (sgOk _) (args := [.pointer (some ⟨g, 0, none⟩), .pointer (some ⟨bc, oc, none⟩)]) Tryz.func119 rfl rfl (Nat.le_of_ble_eq_true rfl) rfl ?_
  have hlen := cor_len c
  have hE0 := hE.box (w2 := w.alloc (.cells (Value.pointer (some ⟨g, 0, none⟩)).cells 268)) ((Below.refl _ _).alloc (Nat.le_refl _) _) (by simp)
  have k0 : Kp B L w (w.alloc (.cells (Value.pointer (some ⟨g, 0, none⟩)).cells 268)) := .of_below ((Below.refl _ _).alloc (Nat.le_refl _) _) hE.lt.1 hE.lt.2.2
  have f0 := hnew w (.cells (Value.pointer (some ⟨g, 0, none⟩)).cells 268)
  obtain ⟨W0, hW0⟩ : ∃ W0, w.alloc (.cells (Value.pointer (some ⟨g, 0, none⟩)).cells 268) = W0 := ⟨_, rfl⟩
  obtain ⟨ep, hep⟩ : ∃ ep, w.heap.size = ep := ⟨_, rfl⟩
  rw [hW0] at hE0 k0 f0
  rw [hep] at hE0 f0
  have hc0 := hc.below k0.b
  obtain ⟨p, cap, hbB, hcl, hst⟩ := hc0
  have hx : ∀ V, Kp B (ep :: L) W0 V → Cells V ⟨bc, oc, none⟩ (corCells c (.slice p c.buf.length cap)) := fun V k => cells_belowB k.b hbB hcl
  have hb : ∀ V, Kp B (ep :: L) W0 V → V.heap[ep]? = some (.cells #[.pointer (some ⟨g, 0, none⟩)] 268 (0, 0)) := fun V k => (k.l ep List.mem_cons_self).trans f0
  refine DrawE.ord [8] [0, 1, 2, 3, 4, 5, 6, 7, 8] (by kernel_rfl) ?_
  have ff := f0
  rw [← hW0, ← hep] at ff
  refine ⟨_, cells_at (cells_block ff) (i := 0) rfl, ?_⟩
  rw [hW0]
  refine ⟨_, cells_at hcl (i := 0) rfl, ?_⟩
  refine ⟨⟨by decide, by decide, rfl⟩, _, rfl, ?_⟩
  refine ⟨(Below.refl _ _).alloc (Nat.le_refl _) _, ?_⟩
  refine Calls.mono (PutLit [c.pc] hE0 (by simp only [List.length_cons, List.length_nil]; omega)) ?_
  rintro e V1 ⟨⟨v, rfl⟩, e1, k1⟩
  refine DrawE.ord [7] [0, 1, 2, 3, 4, 5, 6, 7] (by kernel_rfl) ?_
  rw [hep]
  refine ⟨_, cells_at (cells_block (hb _ k1)) (i := 0) rfl, ?_⟩
  refine Calls.mono (PutRow [c.r0, c.r1, c.r2, c.r3, c.r4, c.r5, c.r6, c.r7] ⟨bc, oc + 1, none⟩ 8 e1 (cells_sub (n := 1) (m := 8) (hx _ k1)) (by simp only [List.length_append, List.length_cons, List.length_nil]; omega)) ?_
  rintro e V2 ⟨⟨v, rfl⟩, e2, k2⟩
  have k2 := k1.trans k2
  refine DrawE.ord [10] [0, 1, 2, 3, 4, 5, 6, 7, 8, 9, 10] (by kernel_rfl) ?_
  refine ⟨_, cells_at (cells_block (hb _ k2)) (i := 0) rfl, ?_⟩
  refine ⟨_, cells_at (hx _ k2) (i := 9) rfl, ?_⟩
  have h255 : c.buf.length ≤ 255 := ho
  have hln : ((UInt8.ofNat c.buf.length).toNat : Int) = c.buf.length := by rw [UInt8.toNat_ofNat']; omega
  refine ⟨((UInt8.ofNat c.buf.length).toNat : Int), by rw [hln]; exact wrap_u8 (by omega), ?_⟩
  refine ⟨⟨by decide, by decide, rfl⟩, _, rfl, ?_⟩
  refine ⟨(Below.refl _ _).alloc (Nat.le_refl _) _, ?_⟩
  refine Calls.mono (PutLit [UInt8.ofNat c.buf.length] e2 (by simp only [List.length_append, List.length_cons, List.length_nil]; omega)) ?_
  rintro e V3 ⟨⟨v, rfl⟩, e3, k3⟩
  have k3 := k2.trans k3
  refine ⟨_, cells_at (hx _ k3) (i := 9) rfl, ?_⟩
  obtain ⟨bs, os, hps, hrow⟩ := (hst.below k3.b).get
  have hbuf : ∀ i (hi : i < c.buf.length), ((c.buf.take (i + 1)).flatMap encSto) = (c.buf.take i).flatMap encSto ++ encSto c.buf[i] ∧ ((c.buf.take i).flatMap encSto).length + 2 ≤ 2 * c.buf.length := fun i hi => by
    obtain ⟨t1, t2⟩ := take_flat encSto hi
    have : (c.buf.flatMap encSto).length = 2 * c.buf.length := by
      have := cor_len c
      simp only [encCor, hdCor, List.length_append, List.length_cons, List.length_nil] at this
      omega
    refine ⟨t1, ?_⟩
    rw [this] at t2
    exact t2
  refine CallR.imp (each_Sto (p := p) (b := bs) (o := os) (cap := cap) (caps := [.pointer (some ⟨ep, 0, none⟩)]) (fun i V => EncB B (ep :: L) g (((out ++ [c.pc]) ++ [c.r0, c.r1, c.r2, c.r3, c.r4, c.r5, c.r6, c.r7] ++ [UInt8.ofNat c.buf.length]) ++ (c.buf.take i).flatMap encSto) V ∧ Kp B (ep :: L) V3 V)
    (KP := fun _ _ => False) (by kernel_rfl) hps (by omega) ?_ ⟨by simpa using e3, Kp.refl _ _ _⟩) ?_ (fun _ _ h => h.elim)
  · rintro i V hi ⟨hi1, hi2⟩
    obtain ⟨t1, t2⟩ := hbuf i hi
    obtain ⟨r1, r2⟩ := hrow i hi
    refine Calls.mono (encSto_c c.buf[i] hi1 (hb _ (k3.trans hi2)) (cells_belowB hi2.b r1 r2) (by simp only [List.length_append, List.length_cons, List.length_nil]; omega)) ?_
    rintro e V' ⟨⟨v, rfl⟩, i1, i2⟩
    exact ⟨by rw [t1, ← List.append_assoc]; exact i1, hi2.trans i2⟩
  rintro v V4 ⟨e4, k4⟩
  rw [List.take_length] at e4
  have k4 := k3.trans k4
  refine DrawE.ord [15] [0, 1, 2, 3, 4, 5, 6, 8, 9, 10, 11, 7, 12, 13, 14, 15] (by kernel_rfl) ?_
  refine ⟨_, cells_at (cells_block (hb _ k4)) (i := 0) rfl, ?_⟩
  refine ⟨_, cells_at (hx _ k4) (i := 10) rfl, ?_⟩
  refine ⟨_, cells_at (hx _ k4) (i := 11) rfl, ?_⟩
  refine Calls.mono (bit_c c.waits 1 _) ?_
  rintro e _ ⟨rfl, rfl⟩
  refine ⟨Below.refl _ _, ?_⟩
  refine Calls.mono (bit_c c.drain 2 _) ?_
  rintro e _ ⟨rfl, rfl⟩
  refine ⟨Below.refl _ _, ?_⟩
  refine ⟨((bitB c.waits 1 + bitB c.drain 2).toNat : Int), by cases c.waits <;> cases c.drain <;> rfl, ?_⟩
  refine ⟨⟨by decide, by decide, rfl⟩, _, rfl, ?_⟩
  refine ⟨(Below.refl _ _).alloc (Nat.le_refl _) _, ?_⟩
  have h2l : (c.buf.flatMap encSto).length = 2 * c.buf.length := by
    have := cor_len c
    simp only [encCor, hdCor, List.length_append, List.length_cons, List.length_nil] at this
    omega
  refine Calls.mono (PutLit [bitB c.waits 1 + bitB c.drain 2] e4 (by simp only [List.length_append, List.length_cons, List.length_nil]; omega)) ?_
  rintro e V5 ⟨⟨v, rfl⟩, e5, k5⟩
  have k5 := k4.trans k5
  refine ⟨⟨_, rfl⟩, ?_, k0.trans (k5.mono fun k hk => List.mem_cons_of_mem _ hk)⟩
  have e6 := e5.less (L' := L) fun k hk => List.mem_cons_of_mem _ hk
  simpa [encCor, hdCor] using e6
theorem encode1_c {B g bc oc : Nat} {L : List Nat} {out : List UInt8} (c : Cor) {w : World} (hE : EncB B L g out w) (hc : CorAt B w bc oc c) (ho : okCor c) (hl : out.length + (encCor c).length ≤ 1000000) :
    Calls Tryz.prog 118 #[.pointer (some ⟨bc, oc, none⟩), .pointer (some ⟨g, 0, none⟩)] w fun e w' => (∃ v, e = .returned v) ∧ EncB B L g (out ++ encCor c) w' ∧ Kp B L w w' := by
  refine calls_of_E (S := sg 5) (sgOk _) (args := [.pointer (some ⟨bc, oc, none⟩), .pointer (some ⟨g, 0, none⟩)]) Tryz.func118 rfl rfl (Nat.le_of_ble_eq_true rfl) rfl ?_
  refine Calls.mono (encCor_c c hE hc ho hl) ?_
  rintro e V ⟨⟨v, rfl⟩, h1, h2⟩
  exact ⟨⟨_, rfl⟩, h1, h2⟩
end Go.Proofs.YthgmcegmgjoafaaGreatDoor
namespace Go.Proofs.YthgmcegmgjoafaaGreatDoor
open Go.Vc Go.RowKit Go.Sei
theorem wrap_s8 (x : UInt8) : IntKind.u8.wrap (s8 x) = (x.toNat : Int) := by
  unfold IntKind.wrap s8
  simp only [IntKind.bits, IntKind.signed, Bool.false_and, Bool.false_eq_true, if_false]
  have := x.toNat_lt
  split <;> omega
theorem encLin_c {B g bx ox ep : Nat} {L : List Nat} {out : List UInt8} (x : Lin) {w : World} (hE : EncB B L g out w) (hep : ep ∈ L) (hb : w.heap[ep]? = some (.cells #[.pointer (some ⟨g, 0, none⟩)] 268 (0, 0))) (hlt : bx < B) (hx : Cells w ⟨bx, ox, none⟩ (linE.enc x)) (hl : out.length + 8 ≤ 1000000) :
    Calls Tryz.prog 175 #[.pointer (some ⟨bx, ox, none⟩), .pointer (some ⟨ep, 0, none⟩)] w fun e w' => (∃ v, e = .returned v) ∧ EncB B L g (out ++ encLin x) w' ∧ Kp B L w w' := by
  refine calls_of_E (S := sg 34) (sgOk _) (args := [.pointer (some ⟨bx, ox, none⟩), .pointer (some ⟨ep, 0, none⟩)]) Tryz.func175 rfl rfl (Nat.le_of_ble_eq_true rfl) rfl ?_
  refine DrawE.ord [22] [0, 1, 2, 3, 4, 5, 6, 7, 8, 9, 10, 11, 12, 13, 14, 15, 16, 17, 18, 19, 20, 21, 22] (by kernel_rfl) ?_
  refine ⟨_, cells_at (cells_block hb) (i := 0) rfl, ?_⟩
  refine ⟨_, cells_at hx (i := 0) rfl, ?_⟩
  refine ⟨_, cells_at hx (i := 1) rfl, ?_⟩
  refine ⟨_, cells_at hx (i := 2) rfl, ?_⟩
  refine ⟨(x.need.toNat : Int), wrap_s8 _, ?_⟩
  refine ⟨_, cells_at hx (i := 3) rfl, ?_⟩
  refine Calls.mono (bit_c x.has 1 _) ?_
  rintro e _ ⟨rfl, rfl⟩
  refine ⟨Below.refl _ _, ?_⟩
  refine ⟨⟨by decide, by decide, rfl⟩, _, rfl, ?_⟩
  refine ⟨(Below.refl _ _).alloc (Nat.le_refl _) _, ?_⟩
  refine Calls.mono (PutLit [x.line, x.state, x.need, bitB x.has 1] hE (by simp only [List.length_cons, List.length_nil]; omega)) ?_
  rintro e V1 ⟨⟨v, rfl⟩, e1, k1⟩
  refine DrawE.ord [7] [0, 1, 2, 3, 4, 5, 6, 7] (by kernel_rfl) ?_
  refine ⟨_, cells_at (cells_block ((k1.l ep hep).trans hb)) (i := 0) rfl, ?_⟩
  refine Calls.mono (PutRow [x.d0, x.d1, x.d2, x.d3] ⟨bx, ox + 4, none⟩ 4 e1 (cells_sub (n := 4) (m := 4) (cells_belowB k1.b hlt hx)) (by simp only [List.length_append, List.length_cons, List.length_nil]; omega)) ?_
  rintro e V2 ⟨⟨v, rfl⟩, e2, k2⟩
  exact ⟨⟨_, rfl⟩, by simpa [encLin] using e2, k1.trans k2⟩
theorem encNte_c {B g bx ox ep : Nat} {L : List Nat} {out : List UInt8} (x : Nte) (hok : okNte x) {w : World} (hE : EncB B L g out w) (hep : ep ∈ L) (hb : w.heap[ep]? = some (.cells #[.pointer (some ⟨g, 0, none⟩)] 268 (0, 0))) (hlt : bx < B) (hx : Cells w ⟨bx, ox, none⟩ (nteE.enc x)) (hl : out.length + 7 ≤ 1000000) :
    Calls Tryz.prog 177 #[.pointer (some ⟨bx, ox, none⟩), .pointer (some ⟨ep, 0, none⟩)] w fun e w' => (∃ v, e = .returned v) ∧ EncB B L g (out ++ encNte x) w' ∧ Kp B L w w' := by
  refine calls_of_E (S := sg 34) (sgOk _) (args := [.pointer (some ⟨bx, ox, none⟩), .pointer (some ⟨ep, 0, none⟩)]) Tryz.func177 rfl rfl (Nat.le_of_ble_eq_true rfl) rfl ?_
  obtain ⟨ho1, ho2⟩ := hok
  have hln : ((UInt8.ofNat x.ways.toNat).toNat : Int) = x.ways := by rw [UInt8.toNat_ofNat']; omega
  refine DrawE.ord [13] [0, 1, 2, 3, 4, 5, 6, 7, 8, 9, 10, 11, 12, 13] (by kernel_rfl) ?_
  refine ⟨_, cells_at (cells_block hb) (i := 0) rfl, ?_⟩
  refine ⟨_, cells_at hx (i := 0) rfl, ?_⟩
  refine ⟨_, cells_at hx (i := 1) rfl, ?_⟩
  refine ⟨((UInt8.ofNat x.ways.toNat).toNat : Int), by rw [hln]; exact wrap_u8 ⟨ho1, ho2⟩, ?_⟩
  refine ⟨⟨by decide, by decide, rfl⟩, _, rfl, ?_⟩
  refine ⟨(Below.refl _ _).alloc (Nat.le_refl _) _, ?_⟩
  refine Calls.mono (PutLit [x.kind, UInt8.ofNat x.ways.toNat] hE (by simp only [List.length_cons, List.length_nil]; omega)) ?_
  rintro e V1 ⟨⟨v, rfl⟩, e1, k1⟩
  refine DrawE.ord [7] [0, 1, 2, 3, 4, 5, 6, 7] (by kernel_rfl) ?_
  refine ⟨_, cells_at (cells_block ((k1.l ep hep).trans hb)) (i := 0) rfl, ?_⟩
  refine Calls.mono (PutRow [x.o0, x.o1, x.o2, x.o3] ⟨bx, ox + 2, none⟩ 4 e1 (cells_sub (n := 2) (m := 4) (cells_belowB k1.b hlt hx)) (by simp only [List.length_append, List.length_cons, List.length_nil]; omega)) ?_
  rintro e V2 ⟨⟨v, rfl⟩, e2, k2⟩
  have k2 := k1.trans k2
  refine DrawE.ord [8] [0, 1, 2, 3, 4, 5, 6, 7, 8] (by kernel_rfl) ?_
  refine ⟨_, cells_at (cells_block ((k2.l ep hep).trans hb)) (i := 0) rfl, ?_⟩
  refine ⟨_, cells_at (cells_belowB k2.b hlt hx) (i := 6) rfl, ?_⟩
  refine ⟨⟨by decide, by decide, rfl⟩, _, rfl, ?_⟩
  refine ⟨(Below.refl _ _).alloc (Nat.le_refl _) _, ?_⟩
  refine Calls.mono (PutLit [x.bits] e2 (by simp only [List.length_append, List.length_cons, List.length_nil]; omega)) ?_
  rintro e V3 ⟨⟨v, rfl⟩, e3, k3⟩
  exact ⟨⟨_, rfl⟩, by simpa [encNte] using e3, k2.trans k3⟩
theorem lins_len (l : List Lin) : (l.flatMap encLin).length = 8 * l.length := by
  induction l with
  | nil => rfl
  | cons a r ih => rw [List.flatMap_cons, List.length_append, ih]; simp only [encLin, List.length_cons, List.length_nil]; omega
theorem ntes_len (l : List Nte) : (l.flatMap encNte).length = 7 * l.length := by
  induction l with
  | nil => rfl
  | cons a r ih => rw [List.flatMap_cons, List.length_append, ih]; simp only [encNte, List.length_cons, List.length_nil]; omega
theorem encRow_c {B g bx ox ep : Nat} {L : List Nat} {out : List UInt8} (ls : List Lin) (h4 : ls.length = 4) {w : World} (hE : EncB B L g out w) (hep : ep ∈ L) (hb : w.heap[ep]? = some (.cells #[.pointer (some ⟨g, 0, none⟩)] 268 (0, 0))) (hlt : bx < B) (hx : Cells w ⟨bx, ox, none⟩ (ls.flatMap linE.enc)) (hl : out.length + 32 ≤ 1000000) :
    Calls Tryz.prog 173 #[.pointer (some ⟨bx, ox, none⟩), .pointer (some ⟨ep, 0, none⟩)] w fun e w' => (∃ v, e = .returned v) ∧ EncB B L g (out ++ ls.flatMap encLin) w' ∧ Kp B L w w' := by
  refine calls_of_E (S := sg 8) (sgOk _) (args := [.pointer (some ⟨bx, ox, none⟩), .pointer (some ⟨ep, 0, none⟩)]) Tryz.func173 rfl rfl (Nat.le_of_ble_eq_true rfl) rfl ?_
  refine CallR.imp (each_Lin (b := bx) (o := ox) (n := 4) (cap := 4) (caps := [.pointer (some ⟨ep, 0, none⟩)]) (fun i V => EncB B L g (out ++ (ls.take i).flatMap encLin) V ∧ Kp B L w V)
    (KP := fun _ _ => False) (by kernel_rfl) (.inr rfl) (by decide) ?_ ⟨by simpa using hE, Kp.refl _ _ _⟩) ?_ (fun _ _ h => h.elim)
  · rintro i V hi ⟨hi1, hi2⟩
    have hil : i < ls.length := by omega
    obtain ⟨t1, t2⟩ := take_flat encLin hil
    have hxi : Cells w ⟨bx, ox + i * 8, none⟩ (linE.enc ls[i]) := by have := flat_get (E := linE) ls i hil; rw [← this]; exact cells_sub hx
    refine Calls.mono (encLin_c ls[i] hi1 hep ((hi2.l ep hep).trans hb) hlt (cells_belowB hi2.b hlt hxi) (by rw [List.length_append, lins_len, List.length_take]; omega)) ?_
    rintro e V' ⟨⟨v, rfl⟩, i1, i2⟩
    exact ⟨by rw [t1, ← List.append_assoc]; exact i1, hi2.trans i2⟩
  rintro v V ⟨e4, k4⟩
  rw [List.take_of_length_le (by omega)] at e4
  exact ⟨⟨_, rfl⟩, e4, k4⟩
theorem encCac_c {B g bc oc : Nat} {L : List Nat} {out : List UInt8} (c : Cac) {w : World} (hE : EncB B L g out w) (hc : CacAt B w bc oc c) (ho : okCac c) (hl : out.length + 160 ≤ 1000000) :
    Calls Tryz.prog 122 #[.pointer (some ⟨g, 0, none⟩), .pointer (some ⟨bc, oc, none⟩)] w fun e w' => (∃ v, e = .returned v) ∧ EncB B L g (out ++ encCac c) w' ∧ Kp B L w w' := by
  refine calls_of_E (S := sg 41) (sgOk _) (args := [.pointer (some ⟨g, 0, none⟩), .pointer (some ⟨bc, oc, none⟩)]) Tryz.func122 rfl rfl (Nat.le_of_ble_eq_true rfl) rfl ?_
  obtain ⟨ho1, ho2, ho3⟩ := ho
  have hE0 := hE.box (w2 := w.alloc (.cells (Value.pointer (some ⟨g, 0, none⟩)).cells 268)) ((Below.refl _ _).alloc (Nat.le_refl _) _) (by simp)
  have k0 : Kp B L w (w.alloc (.cells (Value.pointer (some ⟨g, 0, none⟩)).cells 268)) := .of_below ((Below.refl _ _).alloc (Nat.le_refl _) _) hE.lt.1 hE.lt.2.2
  have f0 := hnew w (.cells (Value.pointer (some ⟨g, 0, none⟩)).cells 268)
  obtain ⟨W0, hW0⟩ : ∃ W0, w.alloc (.cells (Value.pointer (some ⟨g, 0, none⟩)).cells 268) = W0 := ⟨_, rfl⟩
  obtain ⟨ep, hep⟩ : ∃ ep, w.heap.size = ep := ⟨_, rfl⟩
  rw [hW0] at hE0 k0 f0
  rw [hep] at hE0 f0
  obtain ⟨hbB, hcl, _, _⟩ := hc.below k0.b
  have hx : ∀ V, Kp B (ep :: L) W0 V → Cells V ⟨bc, oc, none⟩ (cacCells c) := fun V k => cells_belowB k.b hbB hcl
  have hb : ∀ V, Kp B (ep :: L) W0 V → V.heap[ep]? = some (.cells #[.pointer (some ⟨g, 0, none⟩)] 268 (0, 0)) := fun V k => (k.l ep List.mem_cons_self).trans f0
  have hw1 : ∀ V, Kp B (ep :: L) W0 V → Cells V ⟨bc, oc, none⟩ (c.ways.flatMap linE.enc) := fun V k => (cells_app.1 (hx V k)).1
  have hw2 : ∀ V, Kp B (ep :: L) W0 V → Cells V ⟨bc, oc + 128, none⟩ (c.notes.flatMap nteE.enc) ∧ Cells V ⟨bc, oc + 156, none⟩ (opCells c) := fun V k => by
    have h1 := (cells_app.1 (hx V k)).2
    rw [flat_len (E := linE), ho1] at h1
    obtain ⟨h2, h3⟩ := cells_app.1 h1
    rw [flat_len (E := nteE), ho2] at h3
    exact ⟨h2, h3⟩
  subst hW0 hep
  refine CallR.imp (each_Row (b := bc) (o := oc) (n := 4) (cap := 4) (caps := [.pointer (some ⟨w.heap.size, 0, none⟩)]) (fun i V => EncB B (w.heap.size :: L) g (out ++ (c.ways.take (4 * i)).flatMap encLin) V ∧ Kp B (w.heap.size :: L) (w.alloc (.cells (Value.pointer (some ⟨g, 0, none⟩)).cells 268)) V)
    (KP := fun _ _ => False) (by kernel_rfl) (.inr rfl) (by decide) ?_ ⟨by simpa using hE0, Kp.refl _ _ _⟩) ?_ (fun _ _ h => h.elim)
  · rintro i V hi ⟨hi1, hi2⟩
    have hr : Cells V ⟨bc, oc + i * 32, none⟩ (((c.ways.drop (4 * i)).take 4).flatMap linE.enc) := by
      rw [← flat_sub]
      have := cells_sub (n := i * 32) (m := 32) (hw1 V hi2)
      have e : 4 * i * linE.sz = i * 32 := by show 4 * i * 8 = _; omega
      rw [e]; exact this
    refine Calls.mono (encRow_c ((c.ways.drop (4 * i)).take 4) (by rw [List.length_take, List.length_drop]; omega) hi1 List.mem_cons_self (hb V hi2) hbB hr (by rw [List.length_append, lins_len, List.length_take]; omega)) ?_
    rintro e V' ⟨⟨v, rfl⟩, i1, i2⟩
    refine ⟨?_, hi2.trans i2⟩
    have e : 4 * (i + 1) = 4 * i + 4 := by omega
    rw [e, List.take_add, List.flatMap_append, ← List.append_assoc]; exact i1
  rintro v V1 ⟨e1, k1⟩
  rw [List.take_of_length_le (by omega)] at e1
  refine CallR.imp (each_Nte (b := bc) (o := oc + 128) (n := 4) (cap := 4) (caps := [.pointer (some ⟨w.heap.size, 0, none⟩)]) (fun i V => EncB B (w.heap.size :: L) g ((out ++ c.ways.flatMap encLin) ++ (c.notes.take i).flatMap encNte) V ∧ Kp B (w.heap.size :: L) (w.alloc (.cells (Value.pointer (some ⟨g, 0, none⟩)).cells 268)) V)
    (KP := fun _ _ => False) (by kernel_rfl) (.inr rfl) (by decide) ?_ ⟨by simpa using e1, k1⟩) ?_ (fun _ _ h => h.elim)
  · rintro i V hi ⟨hi1, hi2⟩
    have hil : i < c.notes.length := by omega
    obtain ⟨t1, t2⟩ := take_flat encNte hil
    have hxi : Cells V ⟨bc, oc + 128 + i * 7, none⟩ (nteE.enc c.notes[i]) := by have := flat_get (E := nteE) c.notes i hil; rw [← this]; exact cells_sub (hw2 V hi2).1
    refine Calls.mono (encNte_c c.notes[i] (ho3 _ (List.getElem_mem _)) hi1 List.mem_cons_self (hb V hi2) hbB hxi (by rw [List.length_append, List.length_append, lins_len, ntes_len, List.length_take]; omega)) ?_
    rintro e V' ⟨⟨v, rfl⟩, i1, i2⟩
    exact ⟨by rw [t1, ← List.append_assoc]; exact i1, hi2.trans i2⟩
  rintro v V2 ⟨e2, k2⟩
  rw [List.take_of_length_le (by omega)] at e2
  refine DrawE.ord [24] [0, 1, 2, 3, 4, 5, 6, 7, 8, 9, 10, 11, 12, 13, 14, 15, 16, 17, 18, 19, 20, 21, 22, 23, 24] (by kernel_rfl) ?_
  refine ⟨_, cells_at (cells_block (hb _ k2)) (i := 0) rfl, ?_⟩
  have ho4 := (hw2 _ k2).2
  refine ⟨_, cells_at ho4 (i := 0) rfl, ?_⟩
  refine ⟨_, cells_at ho4 (i := 1) rfl, ?_⟩
  refine ⟨_, cells_at ho4 (i := 2) rfl, ?_⟩
  refine ⟨_, cells_at ho4 (i := 3) rfl, ?_⟩
  refine ⟨⟨by decide, by decide, rfl⟩, _, rfl, ?_⟩
  refine ⟨(Below.refl _ _).alloc (Nat.le_refl _) _, ?_⟩
  refine Calls.mono (PutLit [c.k, c.l, c.a, c.b] e2 (by simp only [List.length_append, lins_len, ntes_len, ho1, ho2, List.length_cons, List.length_nil]; omega)) ?_
  rintro e V3 ⟨⟨v, rfl⟩, e3, k3⟩
  refine ⟨⟨_, rfl⟩, ?_, k0.trans ((k2.trans k3).mono fun k hk => List.mem_cons_of_mem _ hk)⟩
  have e6 := e3.less (L' := L) fun k hk => List.mem_cons_of_mem _ hk
  simpa [encCac] using e6
theorem encode2_c {B g bc oc : Nat} {L : List Nat} {out : List UInt8} (c : Cac) {w : World} (hE : EncB B L g out w) (hc : CacAt B w bc oc c) (ho : okCac c) (hl : out.length + 160 ≤ 1000000) :
    Calls Tryz.prog 121 #[.pointer (some ⟨bc, oc, none⟩), .pointer (some ⟨g, 0, none⟩)] w fun e w' => (∃ v, e = .returned v) ∧ EncB B L g (out ++ encCac c) w' ∧ Kp B L w w' := by
  refine calls_of_E (S := sg 5) (sgOk _) (args := [.pointer (some ⟨bc, oc, none⟩), .pointer (some ⟨g, 0, none⟩)]) Tryz.func121 rfl rfl (Nat.le_of_ble_eq_true rfl) rfl ?_
  refine Calls.mono (encCac_c c hE hc ho hl) ?_
  rintro e V ⟨⟨v, rfl⟩, h1, h2⟩
  exact ⟨⟨_, rfl⟩, h1, h2⟩
end Go.Proofs.YthgmcegmgjoafaaGreatDoor
namespace Go.Proofs.YthgmcegmgjoafaaGreatDoor
open Go.Vc Go.RowKit Go.Sei
theorem wrap_u8m (a : Int) : IntKind.u8.wrap a = a % 256 := by
  unfold IntKind.wrap
  simp only [IntKind.bits, IntKind.signed, Bool.false_and, Bool.false_eq_true, if_false]
  rfl
theorem leM_shr (h : Hom) (k : Nat) (hk : k < 8) : IntKind.u8.wrap (Int.fdiv (leM h : Int) (2 ^ (min ((8 * k : Nat) : Int).toNat IntKind.u64.bits))) = (((mL h)[k]'hk).toNat : Int) := by
  rw [wrap_u8m]
  have b0 := h.m0.toNat_lt
  have b1 := h.m1.toNat_lt
  have b2 := h.m2.toNat_lt
  have b3 := h.m3.toNat_lt
  have b4 := h.m4.toNat_lt
  have b5 := h.m5.toNat_lt
  have b6 := h.m6.toNat_lt
  have b7 := h.m7.toNat_lt
  have h8 : k = 0 ∨ k = 1 ∨ k = 2 ∨ k = 3 ∨ k = 4 ∨ k = 5 ∨ k = 6 ∨ k = 7 := by omega
  rcases h8 with rfl | rfl | rfl | rfl | rfl | rfl | rfl | rfl
  · show Int.fdiv (leM h : Int) 1 % 256 = (h.m0.toNat : Int)
    rw [Int.fdiv_eq_ediv_of_nonneg _ (by decide)]; unfold leM; omega
  · show Int.fdiv (leM h : Int) 256 % 256 = (h.m1.toNat : Int)
    rw [Int.fdiv_eq_ediv_of_nonneg _ (by decide)]; unfold leM; omega
  · show Int.fdiv (leM h : Int) 65536 % 256 = (h.m2.toNat : Int)
    rw [Int.fdiv_eq_ediv_of_nonneg _ (by decide)]; unfold leM; omega
  · show Int.fdiv (leM h : Int) 16777216 % 256 = (h.m3.toNat : Int)
    rw [Int.fdiv_eq_ediv_of_nonneg _ (by decide)]; unfold leM; omega
  · show Int.fdiv (leM h : Int) 4294967296 % 256 = (h.m4.toNat : Int)
    rw [Int.fdiv_eq_ediv_of_nonneg _ (by decide)]; unfold leM; omega
  · show Int.fdiv (leM h : Int) 1099511627776 % 256 = (h.m5.toNat : Int)
    rw [Int.fdiv_eq_ediv_of_nonneg _ (by decide)]; unfold leM; omega
  · show Int.fdiv (leM h : Int) 281474976710656 % 256 = (h.m6.toNat : Int)
    rw [Int.fdiv_eq_ediv_of_nonneg _ (by decide)]; unfold leM; omega
  · show Int.fdiv (leM h : Int) 72057594037927936 % 256 = (h.m7.toNat : Int)
    rw [Int.fdiv_eq_ediv_of_nonneg _ (by decide)]; unfold leM; omega
theorem encHom_c {B g bx ox : Nat} {L : List Nat} {out : List UInt8} (h : Hom) {w : World} (hE : EncB B L g out w) (hlt : bx < B) (hx : Cells w ⟨bx, ox, none⟩ (homE.enc h)) (hl : out.length + 18 ≤ 1000000) :
    Calls Tryz.prog 125 #[.pointer (some ⟨g, 0, none⟩), .pointer (some ⟨bx, ox, none⟩)] w fun e w' => (∃ v, e = .returned v) ∧ EncB B L g (out ++ encHom h) w' ∧ Kp B L w w' := by
  refine calls_of_E (S := sg 68) (sgOk _) (args := [.pointer (some ⟨g, 0, none⟩), .pointer (some ⟨bx, ox, none⟩)]) Tryz.func125 rfl rfl (Nat.le_of_ble_eq_true rfl) rfl ?_
  have hxV : ∀ V, Kp B L w V → Cells V ⟨bx, ox, none⟩ (homE.enc h) := fun V k => cells_belowB k.b hlt hx
  refine DrawE.ord [17] [0, 1, 2, 3, 4, 5, 6, 7, 8, 9, 10, 11, 12, 13, 14, 15, 16, 17] (by kernel_rfl) ?_
  refine ⟨_, cells_at hx (i := 0) rfl, ?_⟩
  refine ⟨_, cells_at hx (i := 1) rfl, ?_⟩
  refine ⟨_, cells_at hx (i := 2) rfl, ?_⟩
  refine ⟨⟨by decide, by decide, rfl⟩, _, rfl, ?_⟩
  refine ⟨(Below.refl _ _).alloc (Nat.le_refl _) _, ?_⟩
  refine Calls.mono (PutLit [h.state, h.owner, h.kind] hE (by simp only [List.length_cons, List.length_nil]; omega)) ?_
  rintro e V1 ⟨⟨v, rfl⟩, e1, k1⟩
  refine ⟨Nat, fun k => ⟨[(0, .pointer (some ⟨g, 0, none⟩)), (1, .pointer (some ⟨bx, ox, none⟩)), (23, .int .i64 (k : Nat))], []⟩,
    fun k V => k ≤ 8 ∧ EncB B L g ((out ++ [h.state, h.owner, h.kind]) ++ (mL h).take k) V ∧ Kp B L w V, fun k => 8 - k, 0, ⟨.cons rfl (.cons rfl (.cons rfl .nil)), rfl⟩, ⟨by omega, by simpa using e1, k1⟩, ?_⟩
  rintro k V ⟨hk, ek, kk⟩
  refine And.intro (fun hc => ?_) (fun hc => ?_)
  · have hc : (k : Int) < 8 := of_decide_eq_true hc
    have hk8 : k < 8 := by omega
    refine DrawE.ord [13] [0, 1, 2, 3, 4, 5, 6, 7, 8, 9, 10, 11, 12, 13] (by kernel_rfl) ?_
    refine ⟨_, cells_at (hxV _ kk) (i := 3) rfl, ?_⟩
    refine ⟨((8 * k : Nat) : Int), (wrap_i64 (by omega)).trans (by omega), ?_⟩
    refine ⟨by omega, _, rfl, ?_⟩
    refine ⟨(((mL h)[k]'hk8).toNat : Int), leM_shr h k hk8, ?_⟩
    refine ⟨⟨by decide, by decide, rfl⟩, _, rfl, ?_⟩
    refine ⟨(Below.refl _ _).alloc (Nat.le_refl _) _, ?_⟩
    refine Calls.mono (PutLit [(mL h)[k]'hk8] ek (by simp only [List.length_append, List.length_cons, List.length_nil, List.length_take]; omega)) ?_
    rintro e V2 ⟨⟨v, rfl⟩, e2, k2⟩
    refine ⟨(k + 1 : Nat), (wrap_i64 (by omega)).trans (by omega), ?_⟩
    refine ⟨k + 1, ⟨.cons rfl (.cons rfl (.cons rfl .nil)), rfl⟩, ⟨by omega, ?_, kk.trans k2⟩, by dsimp only; omega⟩
    rw [List.take_succ_eq_append_getElem (by rw [mL_len]; omega), ← List.append_assoc]
    exact e2
  · have hc : ¬ (k : Int) < 8 := of_decide_eq_false hc
    have hk8 : k = 8 := by omega
    subst hk8
    have e8 : (mL h).take 8 = mL h := rfl
    rw [e8] at ek
    have hm := mL_len h
    refine DrawE.ord [18] [0, 1, 2, 3, 4, 5, 6, 7, 9, 10, 11, 12, 13, 14, 15, 16, 8, 17, 18] (by kernel_rfl) ?_
    refine ⟨_, cells_at (hxV _ kk) (i := 4) rfl, ?_⟩
    refine ⟨_, cells_at (hxV _ kk) (i := 5) rfl, ?_⟩
    refine ⟨_, cells_at (hxV _ kk) (i := 6) rfl, ?_⟩
    refine Calls.mono (bit_c h.all 1 _) ?_
    rintro e _ ⟨rfl, rfl⟩
    refine ⟨Below.refl _ _, ?_⟩
    refine ⟨⟨by decide, by decide, rfl⟩, _, rfl, ?_⟩
    refine ⟨(Below.refl _ _).alloc (Nat.le_refl _) _, ?_⟩
    refine Calls.mono (PutLit [bitB h.all 1, h.wait, h.asker] ek (by simp only [List.length_append, List.length_cons, List.length_nil, hm]; omega)) ?_
    rintro e V2 ⟨⟨v, rfl⟩, e2, k2⟩
    have k2 := kk.trans k2
    refine DrawE.ord [7] [0, 1, 2, 3, 4, 5, 6, 7] (by kernel_rfl) ?_
    refine Calls.mono (PutRow [h.d0, h.d1, h.d2, h.d3] ⟨bx, ox + 7, none⟩ 4 e2 (cells_sub (n := 7) (m := 4) (hxV _ k2)) (by simp only [List.length_append, List.length_cons, List.length_nil, hm]; omega)) ?_
    rintro e V3 ⟨⟨v, rfl⟩, e3, k3⟩
    exact ⟨⟨_, rfl⟩, by simpa [encHom, mL] using e3, k2.trans k3⟩
theorem encode3_c {B g bx ox : Nat} {L : List Nat} {out : List UInt8} (h : Hom) {w : World} (hE : EncB B L g out w) (hlt : bx < B) (hx : Cells w ⟨bx, ox, none⟩ (homE.enc h)) (hl : out.length + 18 ≤ 1000000) :
    Calls Tryz.prog 124 #[.pointer (some ⟨bx, ox, none⟩), .pointer (some ⟨g, 0, none⟩)] w fun e w' => (∃ v, e = .returned v) ∧ EncB B L g (out ++ encHom h) w' ∧ Kp B L w w' := by
  refine calls_of_E (S := sg 5) (sgOk _) (args := [.pointer (some ⟨bx, ox, none⟩), .pointer (some ⟨g, 0, none⟩)]) Tryz.func124 rfl rfl (Nat.le_of_ble_eq_true rfl) rfl ?_
  refine Calls.mono (encHom_c h hE hlt hx hl) ?_
  rintro e V ⟨⟨v, rfl⟩, h1, h2⟩
  exact ⟨⟨_, rfl⟩, h1, h2⟩
theorem encode4_c {B g bx ox : Nat} {L : List Nat} {out : List UInt8} (m : Msg) {w : World} (hE : EncB B L g out w) (hlt : bx < B) (hx : Cells w ⟨bx, ox, none⟩ (Msg.E.enc m)) (hl : out.length + 11 ≤ 1000000) :
    Calls Tryz.prog 128 #[.pointer (some ⟨bx, ox, none⟩), .pointer (some ⟨g, 0, none⟩)] w fun e w' => (∃ v, e = .returned v) ∧ EncB B L g (out ++ codeOf m) w' ∧ Kp B L w w' := by
  refine calls_of_E (S := sg 9) (sgOk _) (args := [.pointer (some ⟨bx, ox, none⟩), .pointer (some ⟨g, 0, none⟩)]) Tryz.func128 rfl rfl (Nat.le_of_ble_eq_true rfl) rfl ?_
  refine ⟨m.enc, rfl, hx, Nat.lt_of_lt_of_le hlt hE.lt.1, ?_⟩
  refine Calls.mono (Bytes_c m w) ?_
  rintro e V ⟨gb, rfl, fb, hgb, hbV⟩
  have hcb : Cells V ⟨gb, 0, none⟩ ((codeOf m).map u8) := by have := cells_block fb; simpa using this
  refine Calls.mono (Put_c (codeOf m) ⟨gb, 0, none⟩ 11 (hE.below hbV) hcb hl) ?_
  rintro e V2 ⟨⟨v, rfl⟩, h1, h2⟩
  exact ⟨⟨_, rfl⟩, h1, (Kp.of_below hbV hE.lt.1 hE.lt.2.2).trans h2⟩
theorem below_of_grown {a b : World} (h : a.grownBy b none) : Below a.heap.size a b := ⟨h.os, h.tape, h.output, h.size, fun k hk => h.block k hk (by simp)⟩
theorem make_own {α : Type} {E : Enc α} {P : Program} {w : World} {t T B : Nat} {iT : TI} {z : List Value} (hu : P.underlying t = some (.slice T)) (hT : TIok P T iT) (hz : iT.zero = some z) (hs : iT.size = E.sz) (hB : B ≤ w.heap.size) (kl kc : IntKind) (c : Nat)
    (h1 : iT.bytes * c ≤ 281474976710656) (h63 : c ≤ 9223372036854775807) {K : Value → World → Prop}
    (k : ∀ w', OwnS E T B w' (some ⟨w.heap.size, 0, none⟩) c ([] : List α) → Below w.heap.size w w' → w'.heap.size = w.heap.size + 1 → K (.slice (some ⟨w.heap.size, 0, none⟩) 0 c) w') :
    SatR ((Instr.makeSlice t (.int kl 0) (.int kc (c : Int))).run P w) K := by
  obtain ⟨⟨inf, hi, hsz, hby, hzz⟩, _⟩ := hT
  obtain ⟨zv, hzv, hzc⟩ := hzz z hz
  have h63' : (c : Int) ≤ 9223372036854775807 := by omega
  have hb' : (inf.bytes : Int) * (c : Int) ≤ 281474976710656 := by
    have h : ((inf.bytes * c : Nat) : Int) ≤ 281474976710656 := by rw [hby]; omega
    rwa [Int.natCast_mul] at h
  have hr := run_make (P := P) w t T inf zv hu hi hzv kl kc 0 c (Int.le_refl _) (by omega) hb' h63'
  simp only [Int.toNat_zero, Int.toNat_natCast] at hr
  refine SatR.mk hr (k _ ?_ ((Below.refl _ _).alloc (Nat.le_refl _) _) (by simp))
  have := World.ownsRow_made (base := B) (e := T) (size := inf.size) w (madeCells zv.cells (c * inf.size)) c hB (by unfold maxLen; omega) (size_madeCells _ _)
  rw [hsz, hs] at this
  rw [hsz, hs]
  exact this
theorem own_weak {α : Type} {E : Enc α} {T B B' cap : Nat} {w : World} {p : Option Addr} {l : List α} (h : OwnS E T B w p cap l) (hB : B' ≤ B) : OwnS E T B' w p cap l := by
  obtain ⟨h1, h2⟩ := h
  refine ⟨h1, h2.imp id ?_⟩
  rintro ⟨g, c, cur, e1, e2, rest⟩
  exact ⟨g, c, cur, e1, by omega, rest⟩
end Go.Proofs.YthgmcegmgjoafaaGreatDoor
namespace Go.Proofs.YthgmcegmgjoafaaGreatDoor
open Go.Vc Go.RowKit Go.Sei
theorem bufs_take {l : List Cor} {k : Nat} (hk : k < l.length) : bufsL (l.take (k + 1)) = bufsL (l.take k) + l[k].buf.length := by
  unfold bufsL; rw [List.take_succ_eq_append_getElem hk, List.map_append, List.sum_append]; simp
theorem bufs_le : ∀ (l : List Cor), (∀ c ∈ l, okCor c) → bufsL l ≤ 255 * l.length
  | [], _ => by simp [bufsL]
  | a :: r, h => by
    have h1 := bufs_le r fun c hc => h c (List.mem_cons_of_mem _ hc)
    have h2 : a.buf.length ≤ 255 := h a List.mem_cons_self
    unfold bufsL at *
    simp only [List.map_cons, List.sum_cons, List.length_cons]; omega
theorem encode_c {vs : List Value} {s : Sy} {n : Nat} (hok : okSy n s) (hn : n ≤ 4) {w : World} (hS : SysV w.heap.size w vs s) :
    Calls Tryz.prog 63 #[.agg vs.toArray] w fun e w' => ∃ p cap, e = .returned (.slice p (encSy s).length cap) ∧ OwnS byteE 5 w.heap.size w' p cap (encSy s) ∧ Below w.heap.size w w' := by
  refine calls_of_M (S := sg 69) (sgOk _) (args := [.agg vs.toArray]) (.s .p (.c .p (.c .p (.c .p (.c .p (.c .p (.c .p (.c .p (.c .p .p))))))))) Tryz.func63 rfl rfl (Nat.le_of_ble_eq_true rfl) rfl ?_
  have hb0 : Below w.heap.size w (w.alloc (.cells vs.toArray 75)) := (Below.refl _ _).alloc (Nat.le_refl _) _
  have f0 := hnew w (.cells vs.toArray 75)
  have hS0 := hS.below hb0
  have hsz0 : (w.alloc (.cells vs.toArray 75)).heap.size = w.heap.size + 1 := World.size_alloc _ _
  have hS1 := hS0.mono (B' := w.heap.size + 1) (by omega)
  obtain ⟨⟨p1, c1, p2, c2, p3, c3, hvs, hco, hca, hne, hnil⟩, h6⟩ := hS1
  have hlen := sy_len hok
  have hcs := hok.cores
  have hcc := hok.caches
  have hnn := hok.net
  have hbu := bufs_le s.cores hok.cor
  have hH : (s.homes.flatMap homE.enc).length = 66 := by rw [flat_len, h6]; rfl
  have hcl : Cells (w.alloc (.cells vs.toArray 75)) ⟨w.heap.size, 0, none⟩ (.slice p1 s.cores.length c1 :: .slice p2 s.caches.length c2 :: (s.homes.flatMap homE.enc ++ [.slice p3 s.net.length c3])) := by
    have := cells_block f0; rw [← hvs]; exact this
  have hl0 := cells_at hcl (i := 0) rfl
  have hl1 := cells_at hcl (i := 1) rfl
  have hl68 := cells_at hcl (i := 68) (sys_net hH)
  obtain ⟨W0, hW0⟩ : ∃ W0, w.alloc (.cells vs.toArray 75) = W0 := ⟨_, rfl⟩
  obtain ⟨X0, hX0⟩ : ∃ X0 : Nat, X0 = 1 + s.cores.length * 11 + s.caches.length * 160 + 108 + s.net.length * 11 := ⟨_, rfl⟩
  refine ⟨Unit, fun _ => ⟨[(1, .pointer (some ⟨w.heap.size, 0, none⟩)), (3, .int .i64 (X0 : Int))], []⟩, fun _ V => W0 = V, ?_, ?_⟩
  · refine ⟨_, hl0, ?_⟩
    refine ⟨((s.cores.length * 11 : Nat) : Int), (wrap_i64 (by omega)).trans (by omega), ?_⟩
    refine ⟨((1 + s.cores.length * 11 : Nat) : Int), (wrap_i64 (by omega)).trans (by omega), ?_⟩
    refine ⟨_, hl1, ?_⟩
    refine ⟨((s.caches.length * 160 : Nat) : Int), (wrap_i64 (by omega)).trans (by omega), ?_⟩
    refine ⟨((1 + s.cores.length * 11 + s.caches.length * 160 : Nat) : Int), (wrap_i64 (by omega)).trans (by omega), ?_⟩
    refine ⟨((1 + s.cores.length * 11 + s.caches.length * 160 + 108 : Nat) : Int), (wrap_i64 (by omega)).trans (by omega), ?_⟩
    refine ⟨_, hl68, ?_⟩
    refine ⟨((s.net.length * 11 : Nat) : Int), (wrap_i64 (by omega)).trans (by omega), ?_⟩
    refine ⟨((1 + s.cores.length * 11 + s.caches.length * 160 + 108 + s.net.length * 11 : Nat) : Int), (wrap_i64 (by omega)).trans (by omega), ?_⟩
    refine ⟨(), ⟨.cons rfl (.cons (by rw [hX0]; rfl) .nil), rfl⟩, hW0.symm⟩
  rintro _ _ rfl
  subst hW0
  refine ⟨Nat, fun Z => ⟨[(1, .pointer (some ⟨w.heap.size, 0, none⟩)), (3, .int .i64 (Z : Nat))], []⟩, fun Z V => Z ≤ 100000 ∧ w.alloc (.cells vs.toArray 75) = V, ?_, ?_⟩
  · refine ⟨_, hl0, ?_⟩
    refine ⟨Nat, fun k => ⟨[(1, .pointer (some ⟨w.heap.size, 0, none⟩)), (3, .int .i64 ((X0 + 2 * bufsL (s.cores.take k) : Nat) : Int)), (24, .int .i64 (s.cores.length : Nat)), (25, .int .i64 (k : Nat))], []⟩,
      fun k V => k ≤ s.cores.length ∧ w.alloc (.cells vs.toArray 75) = V, fun k => s.cores.length - k, 0, ⟨.cons rfl (.cons rfl (.cons rfl (.cons rfl .nil))), rfl⟩, ⟨Nat.zero_le _, rfl⟩, ?_⟩
    rintro k _ ⟨hk, rfl⟩
    refine And.intro (fun hc => ?_) (fun hc => ?_)
    · have hc : (k : Int) < s.cores.length := of_decide_eq_true hc
      have hks : k < s.cores.length := by omega
      obtain ⟨b, o, hp, hat⟩ := hco
      obtain ⟨pb, cb, hbB, hcb, _⟩ := hat k hks
      rcases hp with hp | hp
      · omega
      subst hp
      have hbt := bufs_take hks
      have hbl : bufsL (s.cores.take (k + 1)) ≤ 255 * 4 := by
        have := bufs_le (s.cores.take (k + 1)) fun c hc => hok.cor c (List.mem_of_mem_take hc)
        have h2 : (s.cores.take (k + 1)).length ≤ 4 := by rw [List.length_take]; omega
        omega
      refine ⟨_, hl0, ?_⟩
      refine ⟨k, rfl, hks, ?_⟩
      refine ⟨_, cells_at hcb (i := 9) rfl, ?_⟩
      refine ⟨((s.cores[k].buf.length * 2 : Nat) : Int), (wrap_i64 (by omega)).trans (by omega), ?_⟩
      refine ⟨((X0 + 2 * bufsL (s.cores.take (k + 1)) : Nat) : Int), (wrap_i64 (by omega)).trans (by omega), ?_⟩
      refine ⟨(k + 1 : Nat), (wrap_i64 (by omega)).trans (by omega), ?_⟩
      exact ⟨k + 1, ⟨.cons rfl (.cons rfl (.cons rfl (.cons rfl .nil))), rfl⟩, ⟨hks, rfl⟩, by dsimp only; omega⟩
    · have hc : ¬ (k : Int) < s.cores.length := of_decide_eq_false hc
      have hkl : k = s.cores.length := by omega
      subst hkl
      have hZ : bufsL (s.cores.take s.cores.length) ≤ 1020 := by rw [List.take_length]; omega
      exact ⟨_, ⟨.cons rfl (.cons rfl .nil), rfl⟩, ⟨by omega, rfl⟩⟩
  rintro Z _ ⟨hZ, rfl⟩
  refine ⟨Nat, fun g => ⟨[(1, .pointer (some ⟨w.heap.size, 0, none⟩)), (5, .pointer (some ⟨g, 0, none⟩))], []⟩, fun g V => EncB (w.heap.size + 1) [] g [] V ∧ Below (w.heap.size + 1) (w.alloc (.cells vs.toArray 75)) V, ?_, ?_⟩
  · refine make_own (α := UInt8) (E := byteE) (B := w.heap.size + 1) Tryz.underlying23 (ttOk.get 5 _ rfl) rfl rfl (by omega) _ _ Z (by dsimp only; omega) (by omega) ?_
    intro W1 ho1 hb1 hs1
    refine ⟨_, rfl, ?_⟩
    refine ⟨_, rfl, ?_⟩
    refine store_new (X := W1) (v := .agg #[.slice (some ⟨(w.alloc (.cells vs.toArray 75)).heap.size, 0, none⟩) 0 Z]) (ttOk.get 212 _ rfl) (by rfl) rfl (by rfl) fun W2 hb2 f2 hs2 => ?_
    exact ⟨_, ⟨.cons rfl (.cons rfl .nil), rfl⟩, ⟨some ⟨(w.alloc (.cells vs.toArray 75)).heap.size, 0, none⟩, Z, f2, ho1.below hb2, by omega, fun a ha => by
      cases ha
      exact ⟨by dsimp only; omega, by simp⟩, by simp, by simp⟩, (hb1.mono (by omega)).trans (hb2.mono (by omega))⟩
  have hclV : ∀ V, Below (w.heap.size + 1) (w.alloc (.cells vs.toArray 75)) V → Cells V ⟨w.heap.size, 0, none⟩ (.slice p1 s.cores.length c1 :: .slice p2 s.caches.length c2 :: (s.homes.flatMap homE.enc ++ [.slice p3 s.net.length c3])) := fun V k => cells_belowB k (by omega) hcl
  have l1 := cors_len s.cores
  have l2 := cacs_len s.caches fun c hc => ⟨(hok.cac c hc).1, (hok.cac c hc).2.1⟩
  have l3 := homs_len s.homes
  have l4 := msgs_len s.net
  rintro g W2 ⟨hE, hB⟩
  refine ⟨Unit, fun _ => ⟨[(1, .pointer (some ⟨w.heap.size, 0, none⟩)), (5, .pointer (some ⟨g, 0, none⟩))], []⟩, fun _ V => EncB (w.heap.size + 1) [] g (s.cores.flatMap encCor) V ∧ Below (w.heap.size + 1) (w.alloc (.cells vs.toArray 75)) V, ?_, ?_⟩
  · refine ⟨_, cells_at (hclV _ hB) (i := 0) rfl, ?_⟩
    obtain ⟨bc, oc, hpc, hatc⟩ := hco
    refine CallR.imp (each_Cor (p := p1) (b := bc) (o := oc) (n := s.cores.length) (cap := c1) (caps := [.pointer (some ⟨g, 0, none⟩)]) (fun i V => EncB (w.heap.size + 1) [] g ((s.cores.take i).flatMap encCor) V ∧ Kp (w.heap.size + 1) [] W2 V)
      (KP := fun _ _ => False) (by kernel_rfl) hpc (by omega) ?_ ⟨by simpa using hE, Kp.refl _ _ _⟩) ?_ (fun _ _ h => h.elim)
    · rintro i V hi ⟨hi1, hi2⟩
      obtain ⟨t1, t2⟩ := take_flat encCor hi
      refine Calls.mono (encode1_c s.cores[i] hi1 ((hatc i hi).below (hB.trans hi2.b)) (hok.cor _ (List.getElem_mem _)) (by omega)) ?_
      rintro e V' ⟨⟨v, rfl⟩, i1, i2⟩
      exact ⟨by rw [t1]; exact i1, hi2.trans i2⟩
    rintro v V1 ⟨e1, k1⟩
    rw [List.take_length] at e1
    exact ⟨(), ⟨.cons rfl (.cons rfl .nil), rfl⟩, e1, hB.trans k1.b⟩
  rintro _ W3 ⟨e1, hB⟩
  refine ⟨Unit, fun _ => ⟨[(1, .pointer (some ⟨w.heap.size, 0, none⟩)), (5, .pointer (some ⟨g, 0, none⟩))], []⟩, fun _ V => EncB (w.heap.size + 1) [] g (s.cores.flatMap encCor ++ s.caches.flatMap encCac) V ∧ Below (w.heap.size + 1) (w.alloc (.cells vs.toArray 75)) V, ?_, ?_⟩
  · refine ⟨_, cells_at (hclV _ hB) (i := 1) rfl, ?_⟩
    obtain ⟨ba, oa, hpa, hata⟩ := hca
    refine CallR.imp (each_Cac (p := p2) (b := ba) (o := oa) (n := s.caches.length) (cap := c2) (caps := [.pointer (some ⟨g, 0, none⟩)]) (fun i V => EncB (w.heap.size + 1) [] g (s.cores.flatMap encCor ++ (s.caches.take i).flatMap encCac) V ∧ Kp (w.heap.size + 1) [] W3 V)
      (KP := fun _ _ => False) (by kernel_rfl) hpa (by omega) ?_ ⟨by simpa using e1, Kp.refl _ _ _⟩) ?_ (fun _ _ h => h.elim)
    · rintro i V hi ⟨hi1, hi2⟩
      obtain ⟨t1, t2⟩ := take_flat encCac hi
      have hlc := cac_len (hok.cac s.caches[i] (List.getElem_mem _)).1 (hok.cac s.caches[i] (List.getElem_mem _)).2.1
      refine Calls.mono (encode2_c s.caches[i] hi1 ((hata i hi).below (hB.trans hi2.b)) (hok.cac _ (List.getElem_mem _)) (by rw [List.length_append]; omega)) ?_
      rintro e V' ⟨⟨v, rfl⟩, i1, i2⟩
      exact ⟨by rw [t1, ← List.append_assoc]; exact i1, hi2.trans i2⟩
    rintro v V2 ⟨e2, k2⟩
    rw [List.take_length] at e2
    exact ⟨(), ⟨.cons rfl (.cons rfl .nil), rfl⟩, e2, hB.trans k2.b⟩
  rintro _ W4 ⟨e2, hB⟩
  refine ⟨Unit, fun _ => ⟨[(1, .pointer (some ⟨w.heap.size, 0, none⟩)), (5, .pointer (some ⟨g, 0, none⟩))], []⟩, fun _ V => EncB (w.heap.size + 1) [] g (s.cores.flatMap encCor ++ s.caches.flatMap encCac ++ s.homes.flatMap encHom) V ∧ Below (w.heap.size + 1) (w.alloc (.cells vs.toArray 75)) V, ?_, ?_⟩
  · refine CallR.imp (each_Hom (b := w.heap.size) (o := 2) (n := 6) (cap := 6) (caps := [.pointer (some ⟨g, 0, none⟩)]) (fun i V => EncB (w.heap.size + 1) [] g ((s.cores.flatMap encCor ++ s.caches.flatMap encCac) ++ (s.homes.take i).flatMap encHom) V ∧ Kp (w.heap.size + 1) [] W4 V)
      (KP := fun _ _ => False) (by kernel_rfl) (.inr rfl) (by decide) ?_ ⟨by simpa using e2, Kp.refl _ _ _⟩) ?_ (fun _ _ h => h.elim)
    · rintro i V hi ⟨hi1, hi2⟩
      have hi' : i < s.homes.length := by omega
      obtain ⟨t1, t2⟩ := take_flat encHom hi'
      have hxi : Cells V ⟨w.heap.size, 2 + i * 11, none⟩ (homE.enc s.homes[i]) := by
        have h1 := hclV V (hB.trans hi2.b)
        have h2 := (cells_app (u := [.slice p1 s.cores.length c1, .slice p2 s.caches.length c2]) (v := s.homes.flatMap homE.enc ++ [.slice p3 s.net.length c3])).1 h1
        have h3 := (cells_app.1 h2.2).1
        have := flat_get (E := homE) s.homes i hi'
        rw [← this]
        exact cells_sub (n := i * 11) (m := 11) h3
      have hl18 : (encHom s.homes[i]).length = 18 := rfl
      refine Calls.mono (encode3_c s.homes[i] hi1 (by omega) hxi (by rw [List.length_append, List.length_append]; omega)) ?_
      rintro e V' ⟨⟨v, rfl⟩, i1, i2⟩
      exact ⟨by rw [t1, ← List.append_assoc]; exact i1, hi2.trans i2⟩
    rintro v V3 ⟨e3, k3⟩
    rw [List.take_of_length_le (by omega)] at e3
    exact ⟨(), ⟨.cons rfl (.cons rfl .nil), rfl⟩, e3, hB.trans k3.b⟩
  rintro _ W5 ⟨e3, hB⟩
  refine ⟨Unit, fun _ => ⟨[(1, .pointer (some ⟨w.heap.size, 0, none⟩)), (5, .pointer (some ⟨g, 0, none⟩))], []⟩, fun _ V => EncB (w.heap.size + 1) [] g (s.cores.flatMap encCor ++ s.caches.flatMap encCac ++ s.homes.flatMap encHom ++ [UInt8.ofNat s.net.length]) V ∧ Below (w.heap.size + 1) (w.alloc (.cells vs.toArray 75)) V, ?_, ?_⟩
  · refine ⟨_, cells_at (hclV _ hB) (i := 68) (sys_net hH), ?_⟩
    have hln : ((UInt8.ofNat s.net.length).toNat : Int) = s.net.length := by rw [UInt8.toNat_ofNat']; omega
    refine ⟨((UInt8.ofNat s.net.length).toNat : Int), by rw [hln]; exact wrap_u8 (by omega), ?_⟩
    refine ⟨⟨by decide, by decide, rfl⟩, _, rfl, ?_⟩
    have hbL : Below W5.heap.size W5 (W5.alloc (.cells [u8 (UInt8.ofNat s.net.length)].toArray 5)) := (Below.refl _ _).alloc (Nat.le_refl _) _
    refine Calls.mono (Put_c [UInt8.ofNat s.net.length] ⟨W5.heap.size, 0, none⟩ 1 (e3.below hbL) cells_new (by simp only [List.length_append, List.length_cons, List.length_nil]; omega)) ?_
    rintro e V4 ⟨⟨v, rfl⟩, e4, k4⟩
    exact ⟨(), ⟨.cons rfl (.cons rfl .nil), rfl⟩, e4, hB.trans ((Kp.of_below hbL e3.lt.1 e3.lt.2.2).trans k4).b⟩
  rintro _ W6 ⟨e4, hB⟩
  refine ⟨Unit, fun _ => ⟨[(1, .pointer (some ⟨w.heap.size, 0, none⟩)), (5, .pointer (some ⟨g, 0, none⟩))], []⟩, fun _ V => EncB (w.heap.size + 1) [] g (encSy s) V ∧ Below (w.heap.size + 1) (w.alloc (.cells vs.toArray 75)) V, ?_, ?_⟩
  · refine ⟨_, cells_at (hclV _ hB) (i := 68) (sys_net hH), ?_⟩
    obtain ⟨bn, on, hpn, hatn⟩ := (hne.below hB).get
    refine CallR.imp (each_Msg (p := p3) (b := bn) (o := on) (n := s.net.length) (cap := c3) (caps := [.pointer (some ⟨g, 0, none⟩)]) (fun i V => EncB (w.heap.size + 1) [] g (((s.cores.flatMap encCor ++ s.caches.flatMap encCac) ++ s.homes.flatMap encHom ++ [UInt8.ofNat s.net.length]) ++ (s.net.take i).flatMap codeOf) V ∧ Kp (w.heap.size + 1) [] W6 V)
      (KP := fun _ _ => False) (by kernel_rfl) hpn (by omega) ?_ ⟨by simpa using e4, Kp.refl _ _ _⟩) ?_ (fun _ _ h => h.elim)
    · rintro i V hi ⟨hi1, hi2⟩
      obtain ⟨t1, t2⟩ := take_flat codeOf hi
      have hl11 : (codeOf s.net[i]).length = 11 := rfl
      obtain ⟨r1, r2⟩ := hatn i hi
      refine Calls.mono (encode4_c s.net[i] hi1 r1 (cells_belowB hi2.b r1 r2) (by simp only [List.length_append, List.length_cons, List.length_nil]; omega)) ?_
      rintro e V' ⟨⟨v, rfl⟩, i1, i2⟩
      exact ⟨by rw [t1, ← List.append_assoc]; exact i1, hi2.trans i2⟩
    rintro v V5 ⟨e5, k5⟩
    rw [List.take_length] at e5
    have ee : ((s.cores.flatMap encCor ++ s.caches.flatMap encCac) ++ s.homes.flatMap encHom ++ [UInt8.ofNat s.net.length]) ++ s.net.flatMap codeOf = encSy s := by simp [encSy]
    rw [ee] at e5
    exact ⟨(), ⟨.cons rfl (.cons rfl .nil), rfl⟩, e5, hB.trans k5.b⟩
  rintro _ W7 ⟨⟨p, cap, fg, ho, _⟩, hB⟩
  refine ⟨_, cells_at (cells_block fg) (i := 0) rfl, ?_⟩
  exact ⟨p, cap, rfl, own_weak ho (by omega), hb0.trans (hB.mono (by omega))⟩
end Go.Proofs.YthgmcegmgjoafaaGreatDoor
namespace Go.Proofs.YthgmcegmgjoafaaGreatDoor
open Go.Vc Go.RowKit Go.Sei
theorem Grow_c (n : Nat) (hn : n ≤ 1000000000) (w : World) (B : Nat) (hB : B ≤ w.heap.size) :
    Calls Tryz.prog 163 #[.slice none 0 0, .int .i64 n] w fun e w' => ∃ p cap, e = .returned (.slice p 0 cap) ∧ OwnS Msg.E 53 B w' p cap [] ∧ Below w.heap.size w w' := by
  refine calls_of_E (S := sg 27) (sgOk _) (args := [.slice none 0 0, .int .i64 n]) Tryz.func163 rfl rfl (Nat.le_of_ble_eq_true rfl) rfl ?_
  refine And.intro (fun h => ?_) (fun _ => ?_)
  · have := of_decide_eq_true h
    omega
  have hcap : ∀ w, (Builtin.cap_ #[45] 3 #[.slice none 0 0]).run Tryz.prog w = .ok (.int .i64 0) w := fun w => by simp [Builtin.cap_, run_underlying Tryz.underlying45, goInt]
  refine SatR.mk (hcap _) ?_
  refine ⟨0, by rfl, ?_⟩
  refine ⟨n, (wrap_i64 (by omega)).trans (by omega), ?_⟩
  refine And.intro (fun h => ?_) (fun _ => ?_)
  · have h := of_decide_eq_true h
    refine SatR.mk (hcap _) ?_
    refine ⟨0, rfl, by omega, ?_⟩
    refine app_zeros (α := Msg) (E := Msg.E) Tryz.underlying45 Tryz.underlying3 (ttOk.get 53 _ rfl) rfl rfl rfl hB (by omega) (by omega) (by dsimp only; omega) ?_
    intro cap' w' ho hb hc
    refine ⟨0, rfl, by omega, ?_⟩
    exact ⟨some ⟨w.heap.size, 0, none⟩, cap', by rw [cutBase_zero]; rfl, ho, hb⟩
  · exact ⟨none, 0, rfl, .nil, Below.refl _ _⟩
structure Part where
  p : Option Addr
  cap : Nat
  l : List Msg
def Part.val (q : Part) : Value := .slice q.p q.l.length q.cap
def partE : Enc Part := ⟨fun q => [q.val], 1, fun _ => rfl, by decide, fun a u hu => by
  simp only [List.mem_cons, List.not_mem_nil, or_false] at hu; subst hu; rfl⟩
def Part.ok (w : World) (q : Part) : Prop := SlR Msg.E w q.p q.l ∧ (q.p = none → q.cap = 0)
theorem Part.ok.below {w w2 : World} {q : Part} (h : q.ok w) (hb : Below w.heap.size w w2) : q.ok w2 := ⟨h.1.below hb, h.2⟩
def total (qs : List Part) : List Msg := qs.flatMap (·.l)
theorem total_take {qs : List Part} {k : Nat} (hk : k < qs.length) : total (qs.take (k + 1)) = total (qs.take k) ++ qs[k].l := by
  unfold total; rw [List.take_succ_eq_append_getElem hk, List.flatMap_append]; simp
theorem total_len {qs : List Part} (k : Nat) : (total (qs.take k)).length ≤ (total qs).length := by
  have : total qs = total (qs.take k) ++ total (qs.drop k) := by unfold total; rw [← List.flatMap_append, List.take_append_drop]
  rw [this]; simp
theorem Concat_c (p : Option Addr) (cap : Nat) (qs : List Part) (w : World) (hp : SlR partE w p qs) (hq : ∀ q ∈ qs, q.ok w) (hn : (total qs).length ≤ 1000000000) (hqn : qs.length ≤ 1000000000) :
    Calls Tryz.prog 100 #[.slice p qs.length cap] w fun e w' => ∃ p' cap', e = .returned (.slice p' (total qs).length cap') ∧ OwnS Msg.E 53 w.heap.size w' p' cap' (total qs) ∧ Below w.heap.size w w' := by
  refine calls_of_E (S := sg 36) (sgOk _) (args := [.slice p qs.length cap]) Tryz.func100 rfl rfl (Nat.le_of_ble_eq_true rfl) rfl ?_
  refine ⟨Nat, fun k => ⟨[(0, .slice p qs.length cap), (2, .slice none 0 0), (3, .int .i64 (total (qs.take k)).length), (9, .slice p qs.length cap), (10, .int .i64 qs.length), (11, .int .i64 (k : Nat))], []⟩,
    fun k X => k ≤ qs.length ∧ X = w, fun k => qs.length - k, 0, ⟨.cons rfl (.cons rfl (.cons rfl (.cons rfl (.cons rfl (.cons rfl .nil))))), rfl⟩, ⟨Nat.zero_le _, rfl⟩, ?_⟩
  rintro k X ⟨hk, rfl⟩
  refine And.intro (fun h => ?_) (fun h => ?_)
  · have h := of_decide_eq_true h
    have hkl : k < qs.length := by omega
    obtain ⟨b, o, rfl, hb, hc⟩ := hp.at hkl
    have ht := total_take hkl
    have ht1 := total_len (qs := qs) (k + 1)
    rw [ht, List.length_append] at ht1
    refine ⟨k, rfl, hkl, ?_⟩
    refine ⟨_, cells_head (hc k hkl), ?_⟩
    refine ⟨_, wrap_i64 (by omega), ?_⟩
    refine And.intro (fun h => ?_) (fun h => ?_)
    · have := of_decide_eq_true h
      omega
    · refine ⟨_, wrap_i64 (by omega), ?_⟩
      exact ⟨k + 1, ⟨.cons rfl (.cons rfl (.cons (by rw [ht, List.length_append]; rfl) (.cons rfl (.cons rfl (.cons rfl .nil))))), rfl⟩, ⟨hkl, rfl⟩, by dsimp only; omega⟩
  · have h := of_decide_eq_false h
    have hke : k = qs.length := by omega
    subst hke
    have hT : total (qs.take qs.length) = total qs := by rw [List.take_length]
    refine Calls.mono (Grow_c (total (qs.take qs.length)).length (by rw [hT]; exact hn) X X.heap.size (Nat.le_refl _)) ?_
    rintro e Y ⟨pg, cg, rfl, hog, hbY⟩
    refine ⟨Nat × Option Addr × Nat, fun s => ⟨[(0, .slice p qs.length cap), (2, .slice none 0 0), (6, .slice s.2.1 (total (qs.take s.1)).length s.2.2), (25, .slice p qs.length cap), (26, .int .i64 qs.length), (27, .int .i64 (s.1 : Nat))], []⟩,
      fun s Z => s.1 ≤ qs.length ∧ Below X.heap.size X Z ∧ OwnS Msg.E 53 X.heap.size Z s.2.1 s.2.2 (total (qs.take s.1)), fun s => qs.length - s.1, (0, pg, cg), ⟨.cons rfl (.cons rfl (.cons rfl (.cons rfl (.cons rfl (.cons rfl .nil))))), rfl⟩, ⟨Nat.zero_le _, hbY, hog⟩, ?_⟩
    rintro ⟨k, pn, cn⟩ Z ⟨hk, hbZ, hoZ⟩
    dsimp only at hk hoZ
    refine And.intro (fun h => ?_) (fun h => ?_)
    · have h := of_decide_eq_true h
      have hkl : k < qs.length := by omega
      obtain ⟨b, o, rfl, hb, hc⟩ := (hp.below hbZ).at hkl
      have ht := total_take hkl
      have ht1 := total_len (qs := qs) (k + 1)
      rw [ht, List.length_append] at ht1
      have hqk := (hq qs[k] (List.getElem_mem _)).below hbZ
      refine ⟨k, rfl, hkl, ?_⟩
      refine ⟨_, cells_head (hc k hkl), ?_⟩
      refine app_any (α := Msg) (E := Msg.E) (news := qs[k].l) Tryz.underlying45 (ttOk.get 53 _ rfl) rfl rfl rfl hoZ rfl hqk.1 hqk.2 hbZ.size (by omega) (by dsimp only; omega) ?_
      intro p' cap' w' ho' hg' hb'
      refine ⟨_, wrap_i64 (by omega), ?_⟩
      rw [← ht] at ho'
      exact ⟨(k + 1, p', cap'), ⟨.cons rfl (.cons rfl (.cons (by rw [ht]; rfl) (.cons rfl (.cons rfl (.cons rfl .nil))))), rfl⟩, ⟨hkl, hbZ.trans hb', ho'⟩, by dsimp only; omega⟩
    · have h := of_decide_eq_false h
      have hke : k = qs.length := by omega
      subst hke
      rw [hT] at hoZ
      exact ⟨pn, cn, by rw [← hT]; rfl, hoZ, hbZ⟩
end Go.Proofs.YthgmcegmgjoafaaGreatDoor
namespace Go.Proofs.YthgmcegmgjoafaaGreatDoor
open Go.Vc Go.RowKit Go.Sei
abbrev RowM (w : World) (g : Nat) (sp : List Value) (l : List Msg) : Prop := RowS Msg.E 53 w g sp l
theorem swap_c (g cap a b n L : Nat) (sp : List Value) (P X M Y Q : List Msg) (cmp : Value) (w : World) (hr : RowM w g sp (P ++ X ++ M ++ Y ++ Q)) (hX : X.length = n) (hY : Y.length = n)
    (ha : P.length = a) (hb : b = P.length + X.length + M.length) (hL : L = (P ++ X ++ M ++ Y ++ Q).length) (hl : L ≤ 1000000000) :
    Calls Tryz.prog 241 #[.slice (some ⟨g, 0, none⟩) L cap, .int .i64 a, .int .i64 b, .int .i64 n, cmp] w
      fun e w' => (∃ v, e = .returned v) ∧ RowM w' g sp (P ++ Y ++ M ++ X ++ Q) ∧ w.grownBy w' (some g) := by
  subst ha
  have hL2 : L = b + n + Q.length := by rw [hL, hb]; simp; omega
  refine calls_of_E (S := sg 38) (sgOk _) (args := [.slice (some ⟨g, 0, none⟩) L cap, .int .i64 P.length, .int .i64 b, .int .i64 n, cmp]) Tryz.func241 rfl rfl (Nat.le_of_ble_eq_true rfl) rfl ?_
  refine ⟨Nat, fun k => ⟨[(0, .slice (some ⟨g, 0, none⟩) L cap), (1, .int .i64 P.length), (2, .int .i64 b), (3, .int .i64 n), (10, .int .i64 (k : Nat))], []⟩,
    fun k W => k ≤ n ∧ RowM W g sp (P ++ Y.take k ++ X.drop k ++ M ++ X.take k ++ Y.drop k ++ Q) ∧ w.grownBy W (some g), fun k => n - k, 0,
    ⟨.cons rfl (.cons rfl (.cons rfl (.cons rfl (.cons rfl .nil)))), rfl⟩, ⟨Nat.zero_le _, by simpa using hr, grown_refl _ _⟩, ?_⟩
  rintro k W ⟨hk, hrW, hgW⟩
  refine And.intro (fun h => ?_) (fun h => ?_)
  · have h := of_decide_eq_true h
    have hkn : k < n := by omega
    have hx : X.drop k = X[k] :: X.drop (k + 1) := List.drop_eq_getElem_cons (by omega)
    have hy : Y.drop k = Y[k] :: Y.drop (k + 1) := List.drop_eq_getElem_cons (by omega)
    have e0 : P ++ Y.take k ++ X.drop k ++ M ++ X.take k ++ Y.drop k ++ Q = (P ++ Y.take k) ++ X[k] :: (X.drop (k + 1) ++ M ++ X.take k ++ Y[k] :: (Y.drop (k + 1) ++ Q)) := by rw [hx, hy]; simp only [List.append_assoc, List.cons_append]
    have hA : (P ++ Y.take k).length = P.length + k := by simp; omega
    have hB : ∀ z : Msg, ((P ++ Y.take k) ++ z :: (X.drop (k + 1) ++ M ++ X.take k)).length = b + k := fun z => by simp [hb]; omega
    have r0 : RowM W.drew g sp ((P ++ Y.take k) ++ X[k] :: (X.drop (k + 1) ++ M ++ X.take k ++ Y[k] :: (Y.drop (k + 1) ++ Q))) := e0 ▸ hrW
    have r1 : RowM W.drew g sp (((P ++ Y.take k) ++ X[k] :: (X.drop (k + 1) ++ M ++ X.take k)) ++ Y[k] :: (Y.drop (k + 1) ++ Q)) := by
      have : ((P ++ Y.take k) ++ X[k] :: (X.drop (k + 1) ++ M ++ X.take k)) ++ Y[k] :: (Y.drop (k + 1) ++ Q) = (P ++ Y.take k) ++ X[k] :: (X.drop (k + 1) ++ M ++ X.take k ++ Y[k] :: (Y.drop (k + 1) ++ Q)) := by simp
      rw [this]; exact r0
    have hgl := r0.lt
    refine DrawE.ord [21, 23] [0, 1, 2, 3, 4, 5, 6, 7, 8, 9, 10, 11, 12, 13, 14, 15, 16, 17, 18, 19, 20, 21, 22, 23] (by kernel_rfl) ?_
    refine ⟨(P.length + k : Nat), (wrap_i64 (by omega)).trans (by omega), ?_⟩
    refine ⟨(b + k : Nat), (wrap_i64 (by omega)).trans (by omega), ?_⟩
    refine ⟨(b + k : Nat), (wrap_i64 (by omega)).trans (by omega), ?_⟩
    refine ⟨b + k, rfl, by omega, ?_⟩
    refine ⟨Y[k].enc, rfl, r1.mid (hB _), hgl, ?_⟩
    refine ⟨(P.length + k : Nat), (wrap_i64 (by omega)).trans (by omega), ?_⟩
    refine ⟨P.length + k, rfl, by omega, ?_⟩
    refine ⟨X[k].enc, rfl, r0.mid hA, hgl, ?_⟩
    refine ⟨P.length + k, rfl, by omega, ?_⟩
    refine store_mid (ttOk.get 53 _ rfl) rfl r0 hA Y[k] fun V1 s1 g1 z1 => ?_
    refine ⟨b + k, rfl, by omega, ?_⟩
    have s2 : RowM V1 g sp (((P ++ Y.take k) ++ Y[k] :: (X.drop (k + 1) ++ M ++ X.take k)) ++ Y[k] :: (Y.drop (k + 1) ++ Q)) := by
      have : ((P ++ Y.take k) ++ Y[k] :: (X.drop (k + 1) ++ M ++ X.take k)) ++ Y[k] :: (Y.drop (k + 1) ++ Q) = (P ++ Y.take k) ++ Y[k] :: (X.drop (k + 1) ++ M ++ X.take k ++ Y[k] :: (Y.drop (k + 1) ++ Q)) := by simp
      rw [this]; exact s1
    refine store_mid (ttOk.get 53 _ rfl) rfl s2 (hB _) X[k] fun V2 s3 g2 z2 => ?_
    refine ⟨(k + 1 : Nat), (wrap_i64 (by omega)).trans (by omega), ?_⟩
    refine ⟨k + 1, ⟨.cons rfl (.cons rfl (.cons rfl (.cons rfl (.cons rfl .nil)))), rfl⟩, ⟨hkn, ?_, grown_trans hgW (grown_trans (grown_of_below (Below.refl _ W).drew) (grown_trans g1 g2))⟩, by dsimp only; omega⟩
    have : P ++ Y.take (k + 1) ++ X.drop (k + 1) ++ M ++ X.take (k + 1) ++ Y.drop (k + 1) ++ Q = ((P ++ Y.take k) ++ Y[k] :: (X.drop (k + 1) ++ M ++ X.take k)) ++ X[k] :: (Y.drop (k + 1) ++ Q) := by
      rw [List.take_succ_eq_append_getElem (by omega), List.take_succ_eq_append_getElem (by omega)]; simp only [List.append_assoc, List.cons_append, List.nil_append]
    rw [this]; exact s3
  · have h := of_decide_eq_false h
    have hkn : k = n := by omega
    subst hkn
    refine And.intro ⟨_, rfl⟩ (And.intro ?_ hgW)
    rw [List.take_of_length_le (by omega), List.take_of_length_le (by omega), List.drop_of_length_le (by omega), List.drop_of_length_le (by omega)] at hrW
    simpa using hrW
theorem rotate_c (g cap a m b L : Nat) (sp : List Value) (A X Y B : List Msg) (cmp : Value) (w : World) (hr : RowM w g sp (A ++ X ++ Y ++ B)) (hX : X ≠ []) (hY : Y ≠ [])
    (ha : A.length = a) (hm : A.length + X.length = m) (hb : A.length + X.length + Y.length = b) (hL : L = (A ++ X ++ Y ++ B).length) (hl : L ≤ 1000000000) :
    Calls Tryz.prog 232 #[.slice (some ⟨g, 0, none⟩) L cap, .int .i64 a, .int .i64 m, .int .i64 b, cmp] w
      fun e w' => (∃ v, e = .returned v) ∧ RowM w' g sp (A ++ Y ++ X ++ B) ∧ w.grownBy w' (some g) := by
  have hX0 : 0 < X.length := List.length_pos_iff.2 hX
  have hY0 : 0 < Y.length := List.length_pos_iff.2 hY
  have hL2 : L = A.length + X.length + Y.length + B.length := by rw [hL]; simp; omega
  refine calls_of_E (S := sg 58) (sgOk _) (args := [.slice (some ⟨g, 0, none⟩) L cap, .int .i64 a, .int .i64 m, .int .i64 b, cmp]) Tryz.func232 rfl rfl (Nat.le_of_ble_eq_true rfl) rfl ?_
  refine ⟨(X.length : Nat), (wrap_i64 (by first | omega | (dsimp only; omega))).trans (by first | omega | (dsimp only; omega)), ?_⟩
  refine ⟨(Y.length : Nat), (wrap_i64 (by first | omega | (dsimp only; omega))).trans (by first | omega | (dsimp only; omega)), ?_⟩
  refine ⟨List Msg × List Msg × List Msg × List Msg, fun s => ⟨[(0, .slice (some ⟨g, 0, none⟩) L cap), (1, .int .i64 a), (2, .int .i64 m), (3, .int .i64 b), (4, cmp), (10, .int .i64 s.2.1.length), (11, .int .i64 s.2.2.1.length)], []⟩,
    fun s W => RowM W g sp (s.1 ++ s.2.1 ++ s.2.2.1 ++ s.2.2.2) ∧ s.1.length + s.2.1.length = m ∧ s.2.1 ≠ [] ∧ s.2.2.1 ≠ [] ∧ s.1 ++ s.2.2.1 ++ s.2.1 ++ s.2.2.2 = A ++ Y ++ X ++ B ∧ w.grownBy W (some g),
    fun s => s.2.1.length + s.2.2.1.length, (A, X, Y, B), ⟨.cons rfl (.cons rfl (.cons rfl (.cons rfl (.cons rfl (.cons rfl (.cons rfl .nil)))))), rfl⟩, ⟨hr, hm, hX, hY, rfl, grown_refl _ _⟩, ?_⟩
  rintro ⟨P, X', Y', Q⟩ W ⟨hrW, hmW, hX', hY', ht, hgW⟩
  dsimp only at hrW hmW hX' hY' ht
  have hX1 : 0 < X'.length := List.length_pos_iff.2 hX'
  have hY1 : 0 < Y'.length := List.length_pos_iff.2 hY'
  have htl : P.length + Y'.length + X'.length + Q.length = L := by
    have := congrArg List.length ht
    simp at this; omega
  refine And.intro (fun h => ?_) (fun h => ?_)
  · have h : ¬ (X'.length : Int) = Y'.length := by simpa using h
    refine And.intro (fun h2 => ?_) (fun h2 => ?_)
    · have h2 : (Y'.length : Int) < X'.length := of_decide_eq_true h2
      have e : X' = X'.take Y'.length ++ X'.drop Y'.length := (List.take_append_drop _ _).symm
      have hl1 : (X'.take Y'.length).length = Y'.length := by rw [List.length_take]; omega
      have hl2 : (X'.drop Y'.length).length = X'.length - Y'.length := by simp
      obtain ⟨X1, hX1e⟩ : ∃ X1, X1 = X'.take Y'.length := ⟨_, rfl⟩
      obtain ⟨X2, hX2e⟩ : ∃ X2, X2 = X'.drop Y'.length := ⟨_, rfl⟩
      rw [← hX1e, ← hX2e] at e
      rw [← hX1e] at hl1
      rw [← hX2e] at hl2
      refine ⟨(P.length : Nat), (wrap_i64 (by first | omega | (dsimp only; omega))).trans (by first | omega | (dsimp only; omega)), ?_⟩
      refine Calls.mono (swap_c g cap P.length m Y'.length L sp P X1 X2 Y' Q cmp W (by rw [e] at hrW; simpa using hrW) hl1 rfl rfl (by omega) (by simp; omega) hl) ?_
      rintro e2 V ⟨⟨v, rfl⟩, hrV, hgV⟩
      refine ⟨(X2.length : Nat), (wrap_i64 (by first | omega | (dsimp only; omega))).trans (by first | omega | (dsimp only; omega)), ?_⟩
      refine ⟨(P ++ Y', X2, X1, Q), ⟨.cons rfl (.cons rfl (.cons rfl (.cons rfl (.cons rfl (.cons rfl (.cons (by rw [hl1]; rfl) .nil)))))), rfl⟩, ⟨by simpa using hrV, by simp; omega, ?_, ?_, ?_, grown_trans hgW hgV⟩, by dsimp only; omega⟩
      · exact List.ne_nil_of_length_pos (by dsimp only; omega)
      · exact List.ne_nil_of_length_pos (by dsimp only; omega)
      · rw [← ht, e]; simp
    · have h2 : ¬ (Y'.length : Int) < X'.length := of_decide_eq_false h2
      have e : Y' = Y'.take (Y'.length - X'.length) ++ Y'.drop (Y'.length - X'.length) := (List.take_append_drop _ _).symm
      have hl1 : (Y'.take (Y'.length - X'.length)).length = Y'.length - X'.length := by rw [List.length_take]; omega
      have hl2 : (Y'.drop (Y'.length - X'.length)).length = X'.length := by simp; omega
      obtain ⟨Y1, hY1e⟩ : ∃ Y1, Y1 = Y'.take (Y'.length - X'.length) := ⟨_, rfl⟩
      obtain ⟨Y2, hY2e⟩ : ∃ Y2, Y2 = Y'.drop (Y'.length - X'.length) := ⟨_, rfl⟩
      rw [← hY1e, ← hY2e] at e
      rw [← hY1e] at hl1
      rw [← hY2e] at hl2
      refine ⟨(P.length : Nat), (wrap_i64 (by first | omega | (dsimp only; omega))).trans (by first | omega | (dsimp only; omega)), ?_⟩
      refine ⟨(m + Y'.length : Nat), (wrap_i64 (by first | omega | (dsimp only; omega))).trans (by first | omega | (dsimp only; omega)), ?_⟩
      refine ⟨(m + Y'.length - X'.length : Nat), (wrap_i64 (by first | omega | (dsimp only; omega))).trans (by first | omega | (dsimp only; omega)), ?_⟩
      refine Calls.mono (swap_c g cap P.length (m + Y'.length - X'.length) X'.length L sp P X' Y1 Y2 Q cmp W (by rw [e] at hrW; simpa using hrW) rfl hl2 rfl (by omega) (by simp; omega) hl) ?_
      rintro e2 V ⟨⟨v, rfl⟩, hrV, hgV⟩
      refine ⟨(Y1.length : Nat), (wrap_i64 (by first | omega | (dsimp only; omega))).trans (by first | omega | (dsimp only; omega)), ?_⟩
      refine ⟨(P, Y2, Y1, X' ++ Q), ⟨.cons rfl (.cons rfl (.cons rfl (.cons rfl (.cons rfl (.cons (by rw [hl2]; rfl) (.cons rfl .nil)))))), rfl⟩, ⟨by simpa using hrV, by dsimp only; omega, ?_, ?_, ?_, grown_trans hgW hgV⟩, by dsimp only; omega⟩
      · exact List.ne_nil_of_length_pos (by dsimp only; omega)
      · exact List.ne_nil_of_length_pos (by dsimp only; omega)
      · rw [← ht, e]; simp
  · have h : (X'.length : Int) = Y'.length := by simpa using h
    refine ⟨(P.length : Nat), (wrap_i64 (by first | omega | (dsimp only; omega))).trans (by first | omega | (dsimp only; omega)), ?_⟩
    refine Calls.mono (swap_c g cap P.length m X'.length L sp P X' [] Y' Q cmp W (by simpa using hrW) rfl (by omega) rfl (by simp; omega) (by simp; omega) hl) ?_
    rintro e2 V ⟨⟨v, rfl⟩, hrV, hgV⟩
    refine And.intro ⟨_, rfl⟩ (And.intro ?_ (grown_trans hgW hgV))
    rw [← ht]; simpa using hrV
end Go.Proofs.YthgmcegmgjoafaaGreatDoor
namespace Go.Sei
structure MOrd (α : Type) where
  lt : α → α → Bool
  irr : ∀ a, lt a a = false
  trans : ∀ a b c, lt a b = true → lt b c = true → lt a c = true
  neg : ∀ a b c, lt a b = false → lt b c = false → lt a c = false
abbrev Tg (α : Type) := α × Nat
def lt2 {α : Type} (O : MOrd α) (x y : Tg α) : Prop := O.lt x.1 y.1 = true ∨ (O.lt y.1 x.1 = false ∧ x.2 < y.2)
def Srt {α : Type} (O : MOrd α) (l : List (Tg α)) : Prop := l.Pairwise (lt2 O)
section
variable {α : Type} {O : MOrd α}
theorem MOrd.asymm (O : MOrd α) {a b : α} (h : O.lt a b = true) : O.lt b a = false := by
  cases hb : O.lt b a with
  | false => rfl
  | true => have := O.trans a b a h hb; rw [O.irr] at this; cases this
theorem lt2_irr {x : Tg α} : ¬ lt2 O x x := by
  rintro (h | ⟨_, h⟩)
  · rw [O.irr] at h; cases h
  · omega
theorem lt2_trans {x y z : Tg α} (h1 : lt2 O x y) (h2 : lt2 O y z) : lt2 O x z := by
  rcases h1 with h1 | ⟨h1, h1'⟩
  · rcases h2 with h2 | ⟨h2, h2'⟩
    · exact .inl (O.trans _ _ _ h1 h2)
    · left
      cases h : O.lt x.1 z.1 with
      | true => rfl
      | false =>
        have := O.neg _ _ _ h h2
        rw [this] at h1; cases h1
  · rcases h2 with h2 | ⟨h2, h2'⟩
    · left
      cases h : O.lt x.1 z.1 with
      | true => rfl
      | false =>
        have := O.neg _ _ _ h1 h
        rw [this] at h2; cases h2
    · exact .inr ⟨O.neg _ _ _ h2 h1, by omega⟩
theorem lt2_asymm {x y : Tg α} (h1 : lt2 O x y) (h2 : lt2 O y x) : False := lt2_irr (lt2_trans h1 h2)
theorem lt2_total {x y : Tg α} (h : x.2 ≠ y.2) : lt2 O x y ∨ lt2 O y x := by
  cases h1 : O.lt x.1 y.1 with
  | true => exact .inl (.inl h1)
  | false =>
    cases h2 : O.lt y.1 x.1 with
    | true => exact .inr (.inl h2)
    | false =>
      rcases Nat.lt_or_gt_of_ne h with h3 | h3
      · exact .inl (.inr ⟨h2, h3⟩)
      · exact .inr (.inr ⟨h1, h3⟩)
theorem srt_unique : ∀ {l1 l2 : List (Tg α)}, Srt O l1 → Srt O l2 → l1.Perm l2 → l1 = l2
  | [], l2, _, _, hp => by simpa using hp.symm
  | a :: r, [], _, _, hp => by simp at hp
  | a :: r, b :: s, h1, h2, hp => by
    have h1' := List.pairwise_cons.1 h1
    have h2' := List.pairwise_cons.1 h2
    have hab : a = b := by
      have ha : a ∈ b :: s := hp.mem_iff.1 List.mem_cons_self
      have hb : b ∈ a :: r := hp.mem_iff.2 List.mem_cons_self
      rcases List.mem_cons.1 ha with e | ha
      · exact e
      · rcases List.mem_cons.1 hb with e | hb
        · exact e.symm
        · exact (lt2_asymm (h1'.1 b hb) (h2'.1 a ha)).elim
    subst hab
    rw [srt_unique h1'.2 h2'.2 ((List.perm_cons a).1 hp)]
theorem ends_lt {X Y : List (Tg α)} (hX : Srt O X) (hY : Srt O Y) (h : ∀ z u, X.getLast? = some z → Y.head? = some u → lt2 O z u) : ∀ x ∈ X, ∀ y ∈ Y, lt2 O x y := by
  intro x hx y hy
  rcases List.eq_nil_or_concat X with e | ⟨X', z, e⟩
  · subst e; cases hx
  · rw [List.concat_eq_append] at e
    subst e
    cases Y with
    | nil => cases hy
    | cons u r =>
      have h0 := h z u (by simp) rfl
      have h1 : x = z ∨ lt2 O x z := by
        rcases List.mem_append.1 hx with hx | hx
        · exact .inr ((List.pairwise_append.1 hX).2.2 x hx z (by simp))
        · exact .inl (by simpa using hx)
      have h2 : lt2 O x u := by
        rcases h1 with rfl | h1
        · exact h0
        · exact lt2_trans h1 h0
      rcases List.mem_cons.1 hy with rfl | hy
      · exact h2
      · exact lt2_trans h2 ((List.pairwise_cons.1 hY).1 y hy)
theorem mrg_combine {L1 L2 R1 R2 S1 S2 : List (Tg α)} (hL : Srt O (L1 ++ L2)) (hR : Srt O (R1 ++ R2)) (h12 : ∀ x ∈ L1, ∀ y ∈ R2, lt2 O x y) (h21 : ∀ y ∈ R1, ∀ x ∈ L2, lt2 O y x)
    (s1 : Srt O S1) (p1 : S1.Perm (L1 ++ R1)) (s2 : Srt O S2) (p2 : S2.Perm (L2 ++ R2)) : Srt O (S1 ++ S2) ∧ (S1 ++ S2).Perm (L1 ++ L2 ++ (R1 ++ R2)) := by
  refine ⟨List.pairwise_append.2 ⟨s1, s2, fun x hx y hy => ?_⟩, ?_⟩
  · rcases List.mem_append.1 (p1.mem_iff.1 hx) with hx | hx <;> rcases List.mem_append.1 (p2.mem_iff.1 hy) with hy | hy
    · exact (List.pairwise_append.1 hL).2.2 x hx y hy
    · exact h12 x hx y hy
    · exact h21 x hx y hy
    · exact (List.pairwise_append.1 hR).2.2 x hx y hy
  · refine (p1.append p2).trans ?_
    rw [List.append_assoc, List.append_assoc]
    refine List.Perm.append_left L1 ?_
    rw [← List.append_assoc, ← List.append_assoc]
    exact List.Perm.append_right R2 List.perm_append_comm
theorem cross_lt {x y : Tg α} (h : x.2 < y.2) : (O.lt y.1 x.1 = true → lt2 O y x) ∧ (O.lt y.1 x.1 = false → lt2 O x y) :=
  ⟨fun h1 => .inl h1, fun h1 => .inr ⟨h1, h⟩⟩
end
end Go.Sei
namespace Go.Proofs.YthgmcegmgjoafaaGreatDoor
open Go.Vc Go.RowKit Go.Sei
abbrev fsts (l : List (Tg Msg)) : List Msg := l.map Prod.fst
structure CmpOk (cap : Array Value) (O : MOrd Msg) (g : Nat) (Good : World → Prop) : Prop where
  run : ∀ X, Good X → ∀ m n : Msg, Calls Tryz.prog 102 ([m.val, n.val] ++ cap.toList).toArray X fun e w' => ∃ v : Int, e = .returned (.int .i64 v) ∧ decide (v < 0) = O.lt m n ∧ Below X.heap.size X w'
  keep : ∀ A B, Good A → A.grownBy B (some g) → Good B
theorem insertion_c (cp : Array Value) (O : MOrd Msg) (Good : World → Prop) (g cap a b L : Nat) (sp : List Value) (A B : List Msg) (xs : List (Tg Msg)) (w : World) (hG : Good w) (hC : CmpOk cp O g Good)
    (hr : RowM w g sp (A ++ fsts xs ++ B)) (ht : xs.Pairwise (fun x y => x.2 < y.2)) (ha : A.length = a) (hb : A.length + xs.length = b) (hL : L = (A ++ fsts xs ++ B).length) (hl : L ≤ 1000000000) :
    Calls Tryz.prog 200 #[.slice (some ⟨g, 0, none⟩) L cap, .int .i64 a, .int .i64 b, .func (.func 102) #[] cp] w
      fun e w' => (∃ v, e = .returned v) ∧ (∃ ys, Srt O ys ∧ ys.Perm xs ∧ RowM w' g sp (A ++ fsts ys ++ B)) ∧ w.grownBy w' (some g) := by
  have hL2 : L = A.length + xs.length + B.length := by rw [hL]; simp; omega
  refine calls_of_E (S := sg 53) (sgOk _) (args := [.slice (some ⟨g, 0, none⟩) L cap, .int .i64 a, .int .i64 b, .func (.func 102) #[] cp]) Tryz.func200 rfl rfl (Nat.le_of_ble_eq_true rfl) rfl ?_
  refine ⟨(a + 1 : Nat), (wrap_i64 (by omega)).trans (by omega), ?_⟩
  refine ⟨Nat × List (Tg Msg), fun s => ⟨[(0, .slice (some ⟨g, 0, none⟩) L cap), (1, .int .i64 a), (2, .int .i64 b), (3, .func (.func 102) #[] cp), (8, .int .i64 (a + s.1 : Nat))], []⟩,
    fun s W => 1 ≤ s.1 ∧ Srt O s.2 ∧ s.2.Perm (xs.take s.1) ∧ RowM W g sp (A ++ fsts s.2 ++ fsts (xs.drop s.1) ++ B) ∧ w.grownBy W (some g), fun s => xs.length - s.1, (1, xs.take 1),
    ⟨.cons rfl (.cons rfl (.cons rfl (.cons rfl (.cons rfl .nil)))), rfl⟩, ⟨Nat.le_refl _, ?_, .refl _, ?_, grown_refl _ _⟩, ?_⟩
  · cases xs with
    | nil => simp [Srt]
    | cons x r => simp [Srt]
  · have : A ++ fsts (xs.take 1) ++ fsts (xs.drop 1) ++ B = A ++ fsts xs ++ B := by
      rw [List.append_assoc A, ← List.map_append, List.take_append_drop]
    dsimp only
    rw [this]; exact hr
  rintro ⟨k, S⟩ W ⟨hk1, hS, hP, hrW, hgW⟩
  dsimp only at hk1 hS hP hrW
  refine And.intro (fun h => ?_) (fun h => ?_)
  · have h : ((a + k : Nat) : Int) < b := of_decide_eq_true h
    have hkl : k < xs.length := by omega
    have hSl : S.length = k := by rw [hP.length_eq, List.length_take]; omega
    obtain ⟨x, hx⟩ : ∃ x, x = xs[k] := ⟨_, rfl⟩
    have hxd : xs.drop k = x :: xs.drop (k + 1) := by rw [hx]; exact List.drop_eq_getElem_cons hkl
    have hlow : ∀ z ∈ S, z.2 < x.2 := fun z hz => by
      have hz : z ∈ xs.take k := hP.mem_iff.1 hz
      obtain ⟨i, hi, e⟩ := List.getElem_of_mem hz
      rw [List.length_take] at hi
      rw [List.getElem_take] at e
      rw [hx, ← e]
      exact List.pairwise_iff_getElem.1 ht i k (by omega) hkl (by omega)
    refine ⟨List (Tg Msg) × List (Tg Msg), fun s => ⟨[(0, .slice (some ⟨g, 0, none⟩) L cap), (1, .int .i64 a), (2, .int .i64 b), (3, .func (.func 102) #[] cp), (8, .int .i64 (a + k : Nat)), (9, .int .i64 (a + s.1.length : Nat))], []⟩,
      fun s V => s.1 ++ s.2 = S ∧ (∀ y ∈ s.2, lt2 O x y) ∧ RowM V g sp (A ++ fsts s.1 ++ x.1 :: (fsts s.2 ++ fsts (xs.drop (k + 1)) ++ B)) ∧ w.grownBy V (some g), fun s => s.1.length, (S, []),
      ⟨.cons rfl (.cons rfl (.cons rfl (.cons rfl (.cons rfl (.cons (by dsimp only; rw [hSl]; rfl) .nil))))), rfl⟩, ⟨by simp, by simp, ?_, hgW⟩, ?_⟩
    · rw [hxd] at hrW
      simpa using hrW
    rintro ⟨S1, S2⟩ V ⟨hSS, hlt, hrV, hgV⟩
    dsimp only at hSS hlt hrV
    have hS1l : S1.length + S2.length = k := by rw [← hSl, ← hSS]; simp
    refine DrawE.ord [] [0, 1, 2, 3, 4, 5, 6, 7, 8, 9, 10, 11, 12, 13, 14, 15, 16] (by kernel_rfl) ?_
    have fin : ∀ Z, RowM Z g sp (A ++ fsts S1 ++ x.1 :: (fsts S2 ++ fsts (xs.drop (k + 1)) ++ B)) → w.grownBy Z (some g) → (∀ z ∈ S1, lt2 O z x) →
        1 ≤ k + 1 ∧ Srt O (S1 ++ x :: S2) ∧ (S1 ++ x :: S2).Perm (xs.take (k + 1)) ∧ RowM Z g sp (A ++ fsts (S1 ++ x :: S2) ++ fsts (xs.drop (k + 1)) ++ B) ∧ w.grownBy Z (some g) := fun Z hrZ hgZ hle => by
      refine ⟨by omega, ?_, ?_, ?_, hgZ⟩
      · rw [← hSS] at hS
        obtain ⟨p1, p2, p3⟩ := List.pairwise_append.1 hS
        refine List.pairwise_append.2 ⟨p1, List.pairwise_cons.2 ⟨hlt, p2⟩, fun u hu v hv => ?_⟩
        rcases List.mem_cons.1 hv with rfl | hv
        · exact hle u hu
        · exact p3 u hu v hv
      · rw [List.take_succ_eq_append_getElem hkl, ← hx]
        refine List.perm_middle.trans ?_
        rw [hSS]
        exact (List.Perm.cons x hP).trans (List.perm_append_singleton x _).symm
      · have : A ++ fsts (S1 ++ x :: S2) ++ fsts (xs.drop (k + 1)) ++ B = A ++ fsts S1 ++ x.1 :: (fsts S2 ++ fsts (xs.drop (k + 1)) ++ B) := by
          simp only [fsts, List.map_append, List.map_cons, List.append_assoc, List.cons_append]
        rw [this]; exact hrZ
    refine And.intro (fun h2 => ?_) (fun h2 => ?_)
    · have h2 : (a : Int) < (a + S1.length : Nat) := of_decide_eq_true h2
      obtain ⟨S1', z, rfl⟩ : ∃ S1' z, S1 = S1' ++ [z] := by
        rcases List.eq_nil_or_concat S1 with e | ⟨q, r, e⟩
        · subst e; simp at h2
        · exact ⟨q, r, by rw [e, List.concat_eq_append]⟩
      have hzl : z.2 < x.2 := hlow z (by rw [← hSS]; simp)
      have r0 : RowM V.drew g sp ((A ++ fsts (S1' ++ [z])) ++ x.1 :: (fsts S2 ++ fsts (xs.drop (k + 1)) ++ B)) := hrV
      have r1 : RowM V.drew g sp ((A ++ fsts S1') ++ z.1 :: (x.1 :: (fsts S2 ++ fsts (xs.drop (k + 1)) ++ B))) := by
        have : (A ++ fsts S1') ++ z.1 :: (x.1 :: (fsts S2 ++ fsts (xs.drop (k + 1)) ++ B)) = A ++ fsts (S1' ++ [z]) ++ x.1 :: (fsts S2 ++ fsts (xs.drop (k + 1)) ++ B) := by
          simp only [fsts, List.map_append, List.map_cons, List.map_nil, List.append_assoc, List.cons_append, List.nil_append]
        rw [this]; exact hrV
      have hA0 : (A ++ fsts (S1' ++ [z])).length = a + (S1' ++ [z]).length := by simp; omega
      have hA1 : (A ++ fsts S1').length = a + S1'.length := by simp; omega
      have hlz : (S1' ++ [z]).length = S1'.length + 1 := by simp
      have hgl := r0.lt
      refine ⟨a + (S1' ++ [z]).length, rfl, by omega, ?_⟩
      refine ⟨x.1.enc, rfl, r0.mid hA0, hgl, ?_⟩
      refine ⟨(a + S1'.length : Nat), (wrap_i64 (by first | omega | (dsimp only; omega))).trans (by first | omega | (dsimp only; omega)), ?_⟩
      refine ⟨a + S1'.length, rfl, by omega, ?_⟩
      refine ⟨z.1.enc, rfl, r1.mid hA1, hgl, ?_⟩
      refine Calls.mono (hC.run V.drew (hC.keep _ _ (hC.keep _ _ hG hgV) (grown_of_below (Below.refl _ V).drew)) x.1 z.1) ?_
      rintro e V2 ⟨v, rfl, hv, hbV⟩
      refine ⟨hbV, ?_⟩
      have hgV2 : w.grownBy V2 (some g) := grown_trans hgV (grown_trans (grown_of_below (Below.refl _ V).drew) (grown_of_below hbV))
      refine And.intro (fun h3 => ?_) (fun h3 => ?_)
      · have h3 : O.lt x.1 z.1 = true := by rw [← hv]; exact h3
        have q0 : RowM V2.drew g sp ((A ++ fsts S1') ++ z.1 :: (x.1 :: (fsts S2 ++ fsts (xs.drop (k + 1)) ++ B))) := r1.below hbV.drew
        have q1 : RowM V2.drew g sp ((A ++ fsts (S1' ++ [z])) ++ x.1 :: (fsts S2 ++ fsts (xs.drop (k + 1)) ++ B)) := r0.below hbV.drew
        have hgl2 := q0.lt
        refine DrawE.ord [15, 17] [0, 1, 2, 3, 4, 5, 6, 7, 8, 9, 10, 11, 12, 13, 14, 15, 16, 17] (by kernel_rfl) ?_
        refine ⟨(a + S1'.length : Nat), (wrap_i64 (by first | omega | (dsimp only; omega))).trans (by first | omega | (dsimp only; omega)), ?_⟩
        refine ⟨(a + S1'.length : Nat), (wrap_i64 (by first | omega | (dsimp only; omega))).trans (by first | omega | (dsimp only; omega)), ?_⟩
        refine ⟨a + S1'.length, rfl, by omega, ?_⟩
        refine ⟨z.1.enc, rfl, q0.mid hA1, hgl2, ?_⟩
        refine ⟨a + (S1' ++ [z]).length, rfl, by omega, ?_⟩
        refine ⟨x.1.enc, rfl, q1.mid hA0, hgl2, ?_⟩
        refine ⟨a + (S1' ++ [z]).length, rfl, by omega, ?_⟩
        refine store_mid (ttOk.get 53 _ rfl) rfl q1 hA0 z.1 fun V3 s1 g1 z1 => ?_
        refine ⟨a + S1'.length, rfl, by omega, ?_⟩
        have s2 : RowM V3 g sp ((A ++ fsts S1') ++ z.1 :: (z.1 :: (fsts S2 ++ fsts (xs.drop (k + 1)) ++ B))) := by
          have : (A ++ fsts S1') ++ z.1 :: (z.1 :: (fsts S2 ++ fsts (xs.drop (k + 1)) ++ B)) = A ++ fsts (S1' ++ [z]) ++ z.1 :: (fsts S2 ++ fsts (xs.drop (k + 1)) ++ B) := by
            simp only [fsts, List.map_append, List.map_cons, List.map_nil, List.append_assoc, List.cons_append, List.nil_append]
          rw [this]; exact s1
        refine store_mid (ttOk.get 53 _ rfl) rfl s2 hA1 x.1 fun V4 s3 g2 z2 => ?_
        refine ⟨(a + S1'.length : Nat), (wrap_i64 (by first | omega | (dsimp only; omega))).trans (by first | omega | (dsimp only; omega)), ?_⟩
        refine ⟨(S1', z :: S2), ⟨.cons rfl (.cons rfl (.cons rfl (.cons rfl (.cons rfl (.cons rfl .nil))))), rfl⟩, ⟨by rw [← hSS]; simp, ?_, s3, grown_trans hgV2 (grown_trans (grown_of_below (Below.refl _ V2).drew) (grown_trans g1 g2))⟩, by dsimp only; omega⟩
        intro y hy
        rcases List.mem_cons.1 hy with rfl | hy
        · exact .inl h3
        · exact hlt y hy
      · have h3 : O.lt x.1 z.1 = false := by rw [← hv]; exact h3
        refine ⟨(a + (k + 1) : Nat), (wrap_i64 (by first | omega | (dsimp only; omega))).trans (by first | omega | (dsimp only; omega)), ?_⟩
        refine ⟨(k + 1, (S1' ++ [z]) ++ x :: S2), ⟨.cons rfl (.cons rfl (.cons rfl (.cons rfl (.cons rfl .nil)))), rfl⟩, fin V2 (r0.below hbV) hgV2 ?_, by dsimp only; omega⟩
        intro u hu
        have hzx : lt2 O z x := .inr ⟨h3, hzl⟩
        rcases List.mem_append.1 hu with hu | hu
        · refine lt2_trans ?_ hzx
          rw [← hSS] at hS
          exact (List.pairwise_append.1 (List.pairwise_append.1 hS).1).2.2 u hu z (by simp)
        · simp at hu; rw [hu]; exact hzx
    · have h2 : ¬ (a : Int) < (a + S1.length : Nat) := of_decide_eq_false h2
      have : S1 = [] := List.eq_nil_of_length_eq_zero (by omega)
      subst this
      refine And.intro (fun h => by cases h) (fun _ => ?_)
      refine ⟨(a + (k + 1) : Nat), (wrap_i64 (by first | omega | (dsimp only; omega))).trans (by first | omega | (dsimp only; omega)), ?_⟩
      exact ⟨(k + 1, [] ++ x :: S2), ⟨.cons rfl (.cons rfl (.cons rfl (.cons rfl (.cons rfl .nil)))), rfl⟩, fin V.drew hrV (grown_trans hgV (grown_of_below (Below.refl _ V).drew)) (by simp), by dsimp only; omega⟩
  · have h : ¬ ((a + k : Nat) : Int) < b := of_decide_eq_false h
    rw [List.take_of_length_le (by omega)] at hP
    rw [List.drop_of_length_le (by omega)] at hrW
    exact And.intro ⟨_, rfl⟩ (And.intro ⟨S, hS, hP, by simpa using hrW⟩ hgW)
end Go.Proofs.YthgmcegmgjoafaaGreatDoor
namespace Go.Proofs.YthgmcegmgjoafaaGreatDoor
open Go.Vc Go.RowKit Go.Sei
theorem RowM.get {w : World} {g : Nat} {sp : List Value} {l : List Msg} (h : RowM w g sp l) {i : Nat} {v : Msg} (hv : l[i]? = some v) : Cells w ⟨g, 0 + i * 11, none⟩ v.enc := by
  obtain ⟨hi, e⟩ := List.getElem?_eq_some_iff.1 hv
  subst e
  exact h.at hi
theorem row_r (A B : List Msg) (l r : List (Tg Msg)) {k : Nat} (hk : k < r.length) : (A ++ fsts l ++ fsts r ++ B)[A.length + l.length + k]? = some r[k].1 := by
  have h : (A ++ fsts l).length = A.length + l.length := by simp
  rw [List.append_assoc (A ++ fsts l), List.getElem?_append_right (by omega), h, Nat.add_sub_cancel_left, List.getElem?_append_left (by simpa using hk)]
  simp [hk]
theorem row_l (A B : List Msg) (l r : List (Tg Msg)) {k : Nat} (hk : k < l.length) : (A ++ fsts l ++ fsts r ++ B)[A.length + k]? = some l[k].1 := by
  rw [List.append_assoc, List.append_assoc, List.getElem?_append_right (by omega), Nat.add_sub_cancel_left, List.getElem?_append_left (by simpa using hk)]
  simp [hk]
def SymGoal (cp : Array Value) (O : MOrd Msg) (Good : World → Prop) (g cap L : Nat) (sp : List Value) (N : Nat) : Prop :=
  ∀ (a m b : Nat) (A B : List Msg) (l r : List (Tg Msg)) (w : World), l.length + r.length ≤ N → 0 < l.length → 0 < r.length → Good w → RowM w g sp (A ++ fsts l ++ fsts r ++ B) → Srt O l → Srt O r → (∀ x ∈ l, ∀ y ∈ r, x.2 < y.2) →
    A.length = a → A.length + l.length = m → A.length + l.length + r.length = b → L = (A ++ fsts l ++ fsts r ++ B).length →
    Calls Tryz.prog 201 #[.slice (some ⟨g, 0, none⟩) L cap, .int .i64 a, .int .i64 m, .int .i64 b, .func (.func 102) #[] cp] w
      fun e w' => (∃ v, e = .returned v) ∧ (∃ ys, Srt O ys ∧ ys.Perm (l ++ r) ∧ RowM w' g sp (A ++ fsts ys ++ B)) ∧ w.grownBy w' (some g)
theorem sym_l (cp : Array Value) (O : MOrd Msg) (Good : World → Prop) (g cap L : Nat) (sp : List Value) (hC : CmpOk cp O g Good) (hl : L ≤ 1000000000)
    (a m b : Nat) (A B : List Msg) (l r : List (Tg Msg)) (w : World) (hone : l.length = 1) (hl0 : 0 < l.length) (hr0 : 0 < r.length) (hG : Good w) (hr : RowM w g sp (A ++ fsts l ++ fsts r ++ B)) (hSl : Srt O l) (hSr : Srt O r) (hX : ∀ x ∈ l, ∀ y ∈ r, x.2 < y.2)
    (ha : A.length = a) (hm : A.length + l.length = m) (hb : A.length + l.length + r.length = b) (hL : L = (A ++ fsts l ++ fsts r ++ B).length) :
    Calls Tryz.prog 201 #[.slice (some ⟨g, 0, none⟩) L cap, .int .i64 a, .int .i64 m, .int .i64 b, .func (.func 102) #[] cp] w
      fun e w' => (∃ v, e = .returned v) ∧ (∃ ys, Srt O ys ∧ ys.Perm (l ++ r) ∧ RowM w' g sp (A ++ fsts ys ++ B)) ∧ w.grownBy w' (some g) := by
  have hL2 : L = A.length + l.length + r.length + B.length := by rw [hL]; simp; omega
  refine calls_of_E (S := sg 220) (sgOk _) (args := [.slice (some ⟨g, 0, none⟩) L cap, .int .i64 a, .int .i64 m, .int .i64 b, .func (.func 102) #[] cp]) Tryz.func201 rfl rfl (Nat.le_of_ble_eq_true rfl) rfl ?_
  refine ⟨(l.length : Nat), (wrap_i64 (by omega)).trans (by omega), ?_⟩
  refine And.intro (fun h => ?_) (fun h1 => ?_)
  · have h : (l.length : Int) = 1 := of_decide_eq_true h
    obtain ⟨x, rfl⟩ : ∃ x, l = [x] := List.length_eq_one_iff.1 (by omega)
    have hXx : ∀ y ∈ r, x.2 < y.2 := fun y hy => hX x (by simp) y hy
    refine ⟨Nat × Nat, fun s => ⟨[(0, .slice (some ⟨g, 0, none⟩) L cap), (1, .int .i64 a), (2, .int .i64 m), (3, .int .i64 b), (4, .func (.func 102) #[] cp), (10, .int .i64 (m + s.1 : Nat)), (11, .int .i64 (m + s.2 : Nat))], []⟩,
      fun s V => s.1 ≤ s.2 ∧ s.2 ≤ r.length ∧ (s.1 = 0 ∨ ∃ y, r[s.1 - 1]? = some y ∧ O.lt y.1 x.1 = true) ∧ (s.2 = r.length ∨ ∃ y, r[s.2]? = some y ∧ O.lt y.1 x.1 = false) ∧ RowM V g sp (A ++ fsts [x] ++ fsts r ++ B) ∧ w.grownBy V (some g),
      fun s => s.2 - s.1, (0, r.length), ⟨.cons rfl (.cons rfl (.cons rfl (.cons rfl (.cons rfl (.cons rfl (.cons (by dsimp only; rw [← hb, ← hm]; rfl) .nil)))))), rfl⟩, ⟨Nat.zero_le _, Nat.le_refl _, .inl rfl, .inl rfl, hr, grown_refl _ _⟩, ?_⟩
    rintro ⟨p, q⟩ V ⟨hpq, hqr, hp, hq, hrV, hgV⟩
    dsimp only at hpq hqr hp hq
    refine And.intro (fun h2 => ?_) (fun h2 => ?_)
    · have h2 : ((m + p : Nat) : Int) < (m + q : Nat) := of_decide_eq_true h2
      have hh : (m + p + (m + q)) / 2 = m + ((m + p + (m + q)) / 2 - m) := by omega
      obtain ⟨c, hc⟩ : ∃ c, c = (m + p + (m + q)) / 2 - m := ⟨_, rfl⟩
      rw [← hc] at hh
      have hc1 : p ≤ c := by omega
      have hc2 : c < q := by omega
      refine ⟨(m + p + (m + q) : Nat), (wrap_i64 (by dsimp only; omega)).trans (by dsimp only; omega), ?_⟩
      refine ⟨(m + p + (m + q) : Nat), wrap_u64 (by omega), ?_⟩
      refine And.intro (by decide) ⟨(m + c : Nat), (half_u64 _).trans (by rw [hh]), ?_⟩
      refine ⟨(m + c : Nat), wrap_i64 (by omega), ?_⟩
      refine DrawE.ord [] [0, 1, 2, 3, 4, 5, 6, 7, 8, 9, 10] (by kernel_rfl) ?_
      have hgl : g < V.drew.heap.size := hrV.lt
      have hrc : c < r.length := by omega
      have g1 : Cells V.drew ⟨g, 0 + (m + c) * 11, none⟩ r[c].1.enc := RowM.get hrV (by rw [← hm]; exact row_r A B [x] r hrc)
      have g2 : Cells V.drew ⟨g, 0 + a * 11, none⟩ x.1.enc := RowM.get hrV (by rw [← ha]; exact row_l A B [x] r (k := 0) (by simp))
      refine ⟨m + c, rfl, by omega, ?_⟩
      refine ⟨_, rfl, g1, hgl, ?_⟩
      refine ⟨a, rfl, by omega, ?_⟩
      refine ⟨_, rfl, g2, hgl, ?_⟩
      refine Calls.mono (hC.run V.drew (hC.keep _ _ (hC.keep _ _ hG hgV) (grown_of_below (Below.refl _ V).drew)) r[c].1 x.1) ?_
      rintro e V2 ⟨v, rfl, hv, hbV⟩
      refine ⟨hbV, ?_⟩
      have hgV2 : w.grownBy V2 (some g) := grown_trans hgV (grown_trans (grown_of_below (Below.refl _ V).drew) (grown_of_below hbV))
      have hrV2 : RowM V2 g sp (A ++ fsts [x] ++ fsts r ++ B) := RowS.below (w := V.drew) hrV hbV
      refine And.intro (fun h3 => ?_) (fun h3 => ?_)
      · rw [hv] at h3
        refine ⟨(m + (c + 1) : Nat), (wrap_i64 (by omega)).trans (by omega), ?_⟩
        exact ⟨(c + 1, q), ⟨.cons rfl (.cons rfl (.cons rfl (.cons rfl (.cons rfl (.cons rfl (.cons rfl .nil)))))), rfl⟩, ⟨hc2, hqr, .inr ⟨r[c], by simp [hrc], h3⟩, hq, hrV2, hgV2⟩, by dsimp only; omega⟩
      · rw [hv] at h3
        exact ⟨(p, c), ⟨.cons rfl (.cons rfl (.cons rfl (.cons rfl (.cons rfl (.cons rfl (.cons rfl .nil)))))), rfl⟩, ⟨hc1, by dsimp only; omega, hp, .inr ⟨r[c], by simp [hrc], h3⟩, hrV2, hgV2⟩, by dsimp only; omega⟩
    · have h2 : ¬ ((m + p : Nat) : Int) < (m + q : Nat) := of_decide_eq_false h2
      have hpe : q = p := by omega
      subst hpe
      have hfin : Srt O (r.take q ++ x :: r.drop q) ∧ (r.take q ++ x :: r.drop q).Perm ([x] ++ r) := by
        have hrs : Srt O (r.take q ++ r.drop q) := by rw [List.take_append_drop]; exact hSr
        have c1 : ∀ y ∈ r.take q, lt2 O y x := fun y hy => by
          refine ends_lt (List.pairwise_append.1 hrs).1 (List.pairwise_singleton _ x) (fun z u hz hu => ?_) y hy x (by simp)
          simp at hu; subst hu
          rcases hp with rfl | ⟨y', hy', hlt⟩
          · simp at hz
          · have hq0 : 0 < q := by
              rcases Nat.eq_zero_or_pos q with e | e
              · subst e; simp at hz
              · exact e
            rw [List.getLast?_eq_getElem?, List.length_take, Nat.min_eq_left hqr, List.getElem?_take, if_pos (by omega), hy'] at hz
            cases hz; exact .inl hlt
        have c2 : ∀ y ∈ r.drop q, lt2 O x y := fun y hy => by
          refine ends_lt (List.pairwise_singleton _ x) (List.pairwise_append.1 hrs).2.1 (fun z u hz hu => ?_) x (by simp) y hy
          simp at hz; subst hz
          rcases hq with e | ⟨y', hy', hlt⟩
          · rw [List.head?_drop, e] at hu; simp at hu
          · rw [List.head?_drop, hy'] at hu
            have hu : y' = u := by simpa using hu
            subst hu
            exact .inr ⟨hlt, hXx y' (List.mem_of_getElem? hy')⟩
        refine ⟨List.pairwise_append.2 ⟨(List.pairwise_append.1 hrs).1, List.pairwise_cons.2 ⟨c2, (List.pairwise_append.1 hrs).2.1⟩, fun u hu v hv => ?_⟩, ?_⟩
        · rcases List.mem_cons.1 hv with rfl | hv
          · exact c1 u hu
          · exact (List.pairwise_append.1 hrs).2.2 u hu v hv
        · refine List.perm_middle.trans ?_
          rw [List.take_append_drop]; exact .refl _
      refine ⟨Nat, fun t => ⟨[(0, .slice (some ⟨g, 0, none⟩) L cap), (1, .int .i64 a), (2, .int .i64 m), (3, .int .i64 b), (4, .func (.func 102) #[] cp), (10, .int .i64 (m + q : Nat)), (13, .int .i64 (a + t : Nat))], []⟩,
        fun t V => t ≤ q ∧ RowM V g sp (A ++ fsts (r.take t) ++ x.1 :: (fsts (r.drop t) ++ B)) ∧ w.grownBy V (some g),
        fun t => q - t, 0, ⟨.cons rfl (.cons rfl (.cons rfl (.cons rfl (.cons rfl (.cons rfl (.cons rfl .nil)))))), rfl⟩, ⟨Nat.zero_le _, by simpa using hrV, hgV⟩, ?_⟩
      rintro t V1 ⟨htq, hrV1, hgV1⟩
      refine ⟨(a + q : Nat), (wrap_i64 (by first | omega | (simp at hm; omega))).trans (by first | omega | (simp at hm; omega)), ?_⟩
      refine And.intro (fun h4 => ?_) (fun h4 => ?_)
      · have h4 : ((a + t : Nat) : Int) < (a + q : Nat) := of_decide_eq_true h4
        have htr : t < r.length := by omega
        have hmm : m = a + 1 := by rw [← hm, ← ha]; rfl
        have hLL : a + 1 + r.length ≤ L := by simp at hL2; omega
        have hd : r.drop t = r[t] :: r.drop (t + 1) := List.drop_eq_getElem_cons htr
        have hA0 : (A ++ fsts (r.take t)).length = a + t := by simp; omega
        have hA1 : ((A ++ fsts (r.take t)) ++ [x.1]).length = a + t + 1 := by simp; omega
        have hA2 : ((A ++ fsts (r.take t)) ++ [r[t].1]).length = a + t + 1 := by simp; omega
        have q0 : RowM V1.drew g sp ((A ++ fsts (r.take t)) ++ x.1 :: (r[t].1 :: (fsts (r.drop (t + 1)) ++ B))) := by
          rw [hd] at hrV1; exact hrV1
        have q1 : RowM V1.drew g sp (((A ++ fsts (r.take t)) ++ [x.1]) ++ r[t].1 :: (fsts (r.drop (t + 1)) ++ B)) := by
          have : ((A ++ fsts (r.take t)) ++ [x.1]) ++ r[t].1 :: (fsts (r.drop (t + 1)) ++ B) = (A ++ fsts (r.take t)) ++ x.1 :: (r[t].1 :: (fsts (r.drop (t + 1)) ++ B)) := by
            simp only [List.append_assoc, List.cons_append, List.nil_append]
          rw [this]; exact q0
        have hgl := q0.lt
        refine DrawE.ord [15, 17] [0, 1, 2, 3, 4, 5, 6, 7, 8, 9, 10, 11, 12, 13, 14, 15, 16, 17] (by kernel_rfl) ?_
        refine ⟨(a + t + 1 : Nat), (wrap_i64 (by omega)).trans (by omega), ?_⟩
        refine ⟨(a + t + 1 : Nat), (wrap_i64 (by omega)).trans (by omega), ?_⟩
        refine ⟨a + t + 1, rfl, by omega, ?_⟩
        refine ⟨r[t].1.enc, rfl, q1.mid hA1, hgl, ?_⟩
        refine ⟨a + t, rfl, by omega, ?_⟩
        refine ⟨x.1.enc, rfl, q0.mid hA0, hgl, ?_⟩
        refine ⟨a + t, rfl, by omega, ?_⟩
        refine store_mid (ttOk.get 53 _ rfl) rfl q0 hA0 r[t].1 fun V3 s1 g1 z1 => ?_
        refine ⟨a + t + 1, rfl, by omega, ?_⟩
        have s2 : RowM V3 g sp (((A ++ fsts (r.take t)) ++ [r[t].1]) ++ r[t].1 :: (fsts (r.drop (t + 1)) ++ B)) := by
          have : ((A ++ fsts (r.take t)) ++ [r[t].1]) ++ r[t].1 :: (fsts (r.drop (t + 1)) ++ B) = (A ++ fsts (r.take t)) ++ r[t].1 :: (r[t].1 :: (fsts (r.drop (t + 1)) ++ B)) := by
            simp only [List.append_assoc, List.cons_append, List.nil_append]
          rw [this]; exact s1
        refine store_mid (ttOk.get 53 _ rfl) rfl s2 hA2 x.1 fun V4 s3 g2 z2 => ?_
        refine ⟨(a + (t + 1) : Nat), (wrap_i64 (by omega)).trans (by omega), ?_⟩
        refine ⟨t + 1, ⟨.cons rfl (.cons rfl (.cons rfl (.cons rfl (.cons rfl (.cons rfl (.cons rfl .nil)))))), rfl⟩, ⟨by omega, ?_, grown_trans hgV1 (grown_trans (grown_of_below (Below.refl _ V1).drew) (grown_trans g1 g2))⟩, by dsimp only; omega⟩
        have : A ++ fsts (r.take (t + 1)) ++ x.1 :: (fsts (r.drop (t + 1)) ++ B) = ((A ++ fsts (r.take t)) ++ [r[t].1]) ++ x.1 :: (fsts (r.drop (t + 1)) ++ B) := by
          rw [List.take_succ_eq_append_getElem htr]
          simp only [fsts, List.map_append, List.map_cons, List.map_nil, List.append_assoc]
        rw [this]; exact s3
      · have h4 : ¬ ((a + t : Nat) : Int) < (a + q : Nat) := of_decide_eq_false h4
        have hte : t = q := by omega
        subst hte
        refine And.intro ⟨_, rfl⟩ (And.intro ⟨r.take t ++ x :: r.drop t, hfin.1, hfin.2, ?_⟩ hgV1)
        have : A ++ fsts (r.take t ++ x :: r.drop t) ++ B = A ++ fsts (r.take t) ++ x.1 :: (fsts (r.drop t) ++ B) := by
          simp only [fsts, List.map_append, List.map_cons, List.append_assoc, List.cons_append]
        rw [this]; exact hrV1
  · exact absurd (of_decide_eq_false h1) (by omega)
end Go.Proofs.YthgmcegmgjoafaaGreatDoor
namespace Go.Proofs.YthgmcegmgjoafaaGreatDoor
open Go.Vc Go.RowKit Go.Sei
theorem sym_r (cp : Array Value) (O : MOrd Msg) (Good : World → Prop) (g cap L : Nat) (sp : List Value) (hC : CmpOk cp O g Good) (hl : L ≤ 1000000000)
    (a m b : Nat) (A B : List Msg) (l r : List (Tg Msg)) (w : World) (hn1 : l.length ≠ 1) (hone : r.length = 1) (hl0 : 0 < l.length) (hr0 : 0 < r.length) (hG : Good w) (hr : RowM w g sp (A ++ fsts l ++ fsts r ++ B)) (hSl : Srt O l) (hSr : Srt O r) (hX : ∀ x ∈ l, ∀ y ∈ r, x.2 < y.2)
    (ha : A.length = a) (hm : A.length + l.length = m) (hb : A.length + l.length + r.length = b) (hL : L = (A ++ fsts l ++ fsts r ++ B).length) :
    Calls Tryz.prog 201 #[.slice (some ⟨g, 0, none⟩) L cap, .int .i64 a, .int .i64 m, .int .i64 b, .func (.func 102) #[] cp] w
      fun e w' => (∃ v, e = .returned v) ∧ (∃ ys, Srt O ys ∧ ys.Perm (l ++ r) ∧ RowM w' g sp (A ++ fsts ys ++ B)) ∧ w.grownBy w' (some g) := by
  have hL2 : L = A.length + l.length + r.length + B.length := by rw [hL]; simp; omega
  refine calls_of_M (S := sg 220) (sgOk _) (args := [.slice (some ⟨g, 0, none⟩) L cap, .int .i64 a, .int .i64 m, .int .i64 b, .func (.func 102) #[] cp]) (.c .p (.s (.s .p (.d (.s .p (.s .p (.c .p .p))) .p)) .p)) Tryz.func201 rfl rfl (Nat.le_of_ble_eq_true rfl) rfl ?_
  refine ⟨Unit, fun _ => ⟨[(0, .slice (some ⟨g, 0, none⟩) L cap), (1, .int .i64 a), (2, .int .i64 m), (3, .int .i64 b), (4, .func (.func 102) #[] cp)], []⟩, fun _ V => w = V, ?_, ?_⟩
  rotate_left
  · rintro _ _ rfl
    refine ⟨(r.length : Nat), (wrap_i64 (by omega)).trans (by omega), ?_⟩
    refine And.intro (fun h => ?_) (fun h2 => ?_)
    · have h : (r.length : Int) = 1 := of_decide_eq_true h
      obtain ⟨y, rfl⟩ : ∃ y, r = [y] := List.length_eq_one_iff.1 (by omega)
      have hXy : ∀ x ∈ l, x.2 < y.2 := fun x hx => hX x hx y (by simp)
      have hyl : (A ++ fsts l ++ fsts [y] ++ B)[m]? = some y.1 := by rw [← hm]; exact row_r A B l [y] (k := 0) (by simp)
      refine ⟨Nat, fun q => ⟨[(0, .slice (some ⟨g, 0, none⟩) L cap), (1, .int .i64 a), (2, .int .i64 m), (3, .int .i64 b), (4, .func (.func 102) #[] cp), (14, .int .i64 (a + q : Nat))], []⟩,
        fun q V => q ≤ l.length ∧ (q = 0 ∨ ∃ z, l[q - 1]? = some z ∧ O.lt y.1 z.1 = false) ∧ (q = l.length ∨ ∃ z, l[q]? = some z ∧ O.lt y.1 z.1 = true) ∧ RowM V g sp (A ++ fsts l ++ fsts [y] ++ B) ∧ w.grownBy V (some g), ?_, ?_⟩
      rotate_left
      · rintro q V ⟨hqr, hp, hq, hrV, hgV⟩
        have hmm : m = a + l.length := by omega
        have hLL : a + l.length + 1 ≤ L := by simp at hL2; omega
        have hfin : Srt O (l.take q ++ y :: l.drop q) ∧ (l.take q ++ y :: l.drop q).Perm (l ++ [y]) := by
          have hrs : Srt O (l.take q ++ l.drop q) := by rw [List.take_append_drop]; exact hSl
          have c1 : ∀ z ∈ l.take q, lt2 O z y := fun z hz0 => by
            refine ends_lt (List.pairwise_append.1 hrs).1 (List.pairwise_singleton _ y) (fun z u hz hu => ?_) z hz0 y (by simp)
            simp at hu; subst hu
            rcases hp with rfl | ⟨z', hz', hlt⟩
            · simp at hz
            · have hq0 : 0 < q := by
                rcases Nat.eq_zero_or_pos q with e | e
                · subst e; simp at hz
                · exact e
              rw [List.getLast?_eq_getElem?, List.length_take, Nat.min_eq_left hqr, List.getElem?_take, if_pos (by omega), hz'] at hz
              have hz : z' = z := by simpa using hz
              subst hz
              exact .inr ⟨hlt, hXy z' (List.mem_of_getElem? hz')⟩
          have c2 : ∀ z ∈ l.drop q, lt2 O y z := fun z hz0 => by
            refine ends_lt (List.pairwise_singleton _ y) (List.pairwise_append.1 hrs).2.1 (fun z u hz hu => ?_) y (by simp) z hz0
            simp at hz; subst hz
            rcases hq with e | ⟨z', hz', hlt⟩
            · rw [List.head?_drop, e] at hu; simp at hu
            · rw [List.head?_drop, hz'] at hu
              have hu : z' = u := by simpa using hu
              subst hu
              exact .inl hlt
          refine ⟨List.pairwise_append.2 ⟨(List.pairwise_append.1 hrs).1, List.pairwise_cons.2 ⟨c2, (List.pairwise_append.1 hrs).2.1⟩, fun u hu v hv => ?_⟩, ?_⟩
          · rcases List.mem_cons.1 hv with rfl | hv
            · exact c1 u hu
            · exact (List.pairwise_append.1 hrs).2.2 u hu v hv
          · refine List.perm_middle.trans ?_
            rw [List.take_append_drop]; exact (List.perm_append_singleton y l).symm
        refine ⟨Nat, fun t => ⟨[(0, .slice (some ⟨g, 0, none⟩) L cap), (1, .int .i64 a), (2, .int .i64 m), (3, .int .i64 b), (4, .func (.func 102) #[] cp), (14, .int .i64 (a + q : Nat)), (17, .int .i64 (a + t : Nat))], []⟩,
          fun t V => q ≤ t ∧ t ≤ l.length ∧ RowM V g sp (A ++ fsts (l.take t) ++ y.1 :: (fsts (l.drop t) ++ B)) ∧ w.grownBy V (some g),
          fun t => t, l.length, ⟨.cons rfl (.cons rfl (.cons rfl (.cons rfl (.cons rfl (.cons rfl (.cons (by dsimp only; rw [← hmm]; rfl) .nil)))))), rfl⟩, ⟨hqr, Nat.le_refl _, by simpa using hrV, hgV⟩, ?_⟩
        rintro t V1 ⟨htq, htl, hrV1, hgV1⟩
        refine And.intro (fun h4 => ?_) (fun h4 => ?_)
        · have h4 : ((a + q : Nat) : Int) < (a + t : Nat) := of_decide_eq_true h4
          obtain ⟨u, rfl⟩ : ∃ u, t = u + 1 := ⟨t - 1, by omega⟩
          have hul : u < l.length := by omega
          have hd : l.take (u + 1) = l.take u ++ [l[u]] := List.take_succ_eq_append_getElem hul
          have hA0 : (A ++ fsts (l.take u)).length = a + u := by simp; omega
          have hA1 : ((A ++ fsts (l.take u)) ++ [l[u].1]).length = a + (u + 1) := by simp; omega
          have q1 : RowM V1.drew g sp (((A ++ fsts (l.take u)) ++ [l[u].1]) ++ y.1 :: (fsts (l.drop (u + 1)) ++ B)) := by
            have : ((A ++ fsts (l.take u)) ++ [l[u].1]) ++ y.1 :: (fsts (l.drop (u + 1)) ++ B) = A ++ fsts (l.take (u + 1)) ++ y.1 :: (fsts (l.drop (u + 1)) ++ B) := by
              rw [hd]; simp only [fsts, List.map_append, List.map_cons, List.map_nil, List.append_assoc]
            rw [this]; exact hrV1
          have q0 : RowM V1.drew g sp ((A ++ fsts (l.take u)) ++ l[u].1 :: (y.1 :: (fsts (l.drop (u + 1)) ++ B))) := by
            have : (A ++ fsts (l.take u)) ++ l[u].1 :: (y.1 :: (fsts (l.drop (u + 1)) ++ B)) = ((A ++ fsts (l.take u)) ++ [l[u].1]) ++ y.1 :: (fsts (l.drop (u + 1)) ++ B) := by
              simp only [List.append_assoc, List.cons_append, List.nil_append]
            rw [this]; exact q1
          have hgl := q0.lt
          refine DrawE.ord [15, 17] [0, 1, 2, 3, 4, 5, 6, 7, 8, 9, 10, 11, 12, 13, 14, 15, 16, 17] (by kernel_rfl) ?_
          refine ⟨(a + u : Nat), (wrap_i64 (by omega)).trans (by omega), ?_⟩
          refine ⟨(a + u : Nat), (wrap_i64 (by omega)).trans (by omega), ?_⟩
          refine ⟨a + u, rfl, by omega, ?_⟩
          refine ⟨l[u].1.enc, rfl, q0.mid hA0, hgl, ?_⟩
          refine ⟨a + (u + 1), rfl, by omega, ?_⟩
          refine ⟨y.1.enc, rfl, q1.mid hA1, hgl, ?_⟩
          refine ⟨a + (u + 1), rfl, by omega, ?_⟩
          refine store_mid (ttOk.get 53 _ rfl) rfl q1 hA1 l[u].1 fun V3 s1 g1 z1 => ?_
          refine ⟨a + u, rfl, by omega, ?_⟩
          have s2 : RowM V3 g sp ((A ++ fsts (l.take u)) ++ l[u].1 :: (l[u].1 :: (fsts (l.drop (u + 1)) ++ B))) := by
            have : (A ++ fsts (l.take u)) ++ l[u].1 :: (l[u].1 :: (fsts (l.drop (u + 1)) ++ B)) = ((A ++ fsts (l.take u)) ++ [l[u].1]) ++ l[u].1 :: (fsts (l.drop (u + 1)) ++ B) := by
              simp only [List.append_assoc, List.cons_append, List.nil_append]
            rw [this]; exact s1
          refine store_mid (ttOk.get 53 _ rfl) rfl s2 hA0 y.1 fun V4 s3 g2 z2 => ?_
          refine ⟨(a + u : Nat), (wrap_i64 (by omega)).trans (by omega), ?_⟩
          refine ⟨u, ⟨.cons rfl (.cons rfl (.cons rfl (.cons rfl (.cons rfl (.cons rfl (.cons rfl .nil)))))), rfl⟩, ⟨by omega, by omega, ?_, grown_trans hgV1 (grown_trans (grown_of_below (Below.refl _ V1).drew) (grown_trans g1 g2))⟩, by dsimp only; omega⟩
          have : A ++ fsts (l.take u) ++ y.1 :: (fsts (l.drop u) ++ B) = (A ++ fsts (l.take u)) ++ y.1 :: (l[u].1 :: (fsts (l.drop (u + 1)) ++ B)) := by
            rw [show l.drop u = l[u] :: l.drop (u + 1) from List.drop_eq_getElem_cons hul]; rfl
          rw [this]; exact s3
        · have h4 : ¬ ((a + q : Nat) : Int) < (a + t : Nat) := of_decide_eq_false h4
          have hte : t = q := by omega
          subst hte
          refine And.intro ⟨_, rfl⟩ (And.intro ⟨l.take t ++ y :: l.drop t, hfin.1, hfin.2, ?_⟩ hgV1)
          have : A ++ fsts (l.take t ++ y :: l.drop t) ++ B = A ++ fsts (l.take t) ++ y.1 :: (fsts (l.drop t) ++ B) := by
            simp only [fsts, List.map_append, List.map_cons, List.append_assoc, List.cons_append]
          rw [this]; exact hrV1
      refine ⟨Nat × Nat, fun s => ⟨[(0, .slice (some ⟨g, 0, none⟩) L cap), (1, .int .i64 a), (2, .int .i64 m), (3, .int .i64 b), (4, .func (.func 102) #[] cp), (14, .int .i64 (a + s.1 : Nat)), (15, .int .i64 (a + s.2 : Nat))], []⟩,
        fun s V => s.1 ≤ s.2 ∧ s.2 ≤ l.length ∧ (s.1 = 0 ∨ ∃ z, l[s.1 - 1]? = some z ∧ O.lt y.1 z.1 = false) ∧ (s.2 = l.length ∨ ∃ z, l[s.2]? = some z ∧ O.lt y.1 z.1 = true) ∧ RowM V g sp (A ++ fsts l ++ fsts [y] ++ B) ∧ w.grownBy V (some g),
        fun s => s.2 - s.1, (0, l.length), ⟨.cons rfl (.cons rfl (.cons rfl (.cons rfl (.cons rfl (.cons rfl (.cons (by dsimp only; rw [← ha, hm]; rfl) .nil)))))), rfl⟩, ⟨Nat.zero_le _, Nat.le_refl _, .inl rfl, .inl rfl, hr, grown_refl _ _⟩, ?_⟩
      rintro ⟨p, q⟩ V ⟨hpq, hqr, hp, hq, hrV, hgV⟩
      dsimp only at hpq hqr hp hq
      have hmm : m = a + l.length := by omega
      have hLL : a + l.length + 1 ≤ L := by simp at hL2; omega
      refine And.intro (fun h2 => ?_) (fun h2 => ?_)
      · have h2 : ((a + p : Nat) : Int) < (a + q : Nat) := of_decide_eq_true h2
        have hh : (a + p + (a + q)) / 2 = a + ((a + p + (a + q)) / 2 - a) := by omega
        obtain ⟨c, hc⟩ : ∃ c, c = (a + p + (a + q)) / 2 - a := ⟨_, rfl⟩
        rw [← hc] at hh
        have hc1 : p ≤ c := by omega
        have hc2 : c < q := by omega
        refine ⟨(a + p + (a + q) : Nat), (wrap_i64 (by dsimp only; omega)).trans (by dsimp only; omega), ?_⟩
        refine ⟨(a + p + (a + q) : Nat), wrap_u64 (by omega), ?_⟩
        refine And.intro (by decide) ⟨(a + c : Nat), (half_u64 _).trans (by rw [hh]), ?_⟩
        refine ⟨(a + c : Nat), wrap_i64 (by omega), ?_⟩
        refine DrawE.ord [] [0, 1, 2, 3, 4, 5, 6, 7, 8, 9, 10, 11] (by kernel_rfl) ?_
        have hgl : g < V.drew.heap.size := hrV.lt
        have hrc : c < l.length := by omega
        have g1 : Cells V.drew ⟨g, 0 + (a + c) * 11, none⟩ l[c].1.enc := RowM.get hrV (by rw [← ha]; exact row_l A B l [y] hrc)
        have g2 : Cells V.drew ⟨g, 0 + m * 11, none⟩ y.1.enc := RowM.get hrV hyl
        refine ⟨m, rfl, by omega, ?_⟩
        refine ⟨_, rfl, g2, hgl, ?_⟩
        refine ⟨a + c, rfl, by omega, ?_⟩
        refine ⟨_, rfl, g1, hgl, ?_⟩
        refine Calls.mono (hC.run V.drew (hC.keep _ _ (hC.keep _ _ hG hgV) (grown_of_below (Below.refl _ V).drew)) y.1 l[c].1) ?_
        rintro e V2 ⟨v, rfl, hv, hbV⟩
        refine ⟨hbV, ?_⟩
        have hgV2 : w.grownBy V2 (some g) := grown_trans hgV (grown_trans (grown_of_below (Below.refl _ V).drew) (grown_of_below hbV))
        have hrV2 : RowM V2 g sp (A ++ fsts l ++ fsts [y] ++ B) := RowS.below (w := V.drew) hrV hbV
        refine And.intro (fun h3 => ?_) (fun h3 => ?_)
        · have h3 : O.lt y.1 l[c].1 = false := by rw [← hv]; simpa using h3
          refine ⟨(a + (c + 1) : Nat), (wrap_i64 (by omega)).trans (by omega), ?_⟩
          exact ⟨(c + 1, q), ⟨.cons rfl (.cons rfl (.cons rfl (.cons rfl (.cons rfl (.cons rfl (.cons rfl .nil)))))), rfl⟩, ⟨hc2, hqr, .inr ⟨l[c], by simp [hrc], h3⟩, hq, hrV2, hgV2⟩, by dsimp only; omega⟩
        · have h3 : O.lt y.1 l[c].1 = true := by rw [← hv]; simpa using h3
          exact ⟨(p, c), ⟨.cons rfl (.cons rfl (.cons rfl (.cons rfl (.cons rfl (.cons rfl (.cons rfl .nil)))))), rfl⟩, ⟨hc1, by dsimp only; omega, hp, .inr ⟨l[c], by simp [hrc], h3⟩, hrV2, hgV2⟩, by dsimp only; omega⟩
      · have h2 : ¬ ((a + p : Nat) : Int) < (a + q : Nat) := of_decide_eq_false h2
        have hpe : q = p := by omega
        subst hpe
        exact ⟨q, ⟨.cons rfl (.cons rfl (.cons rfl (.cons rfl (.cons rfl (.cons rfl .nil))))), rfl⟩, hqr, hp, hq, hrV, hgV⟩
    · exact absurd (of_decide_eq_false h2) (by omega)
  refine ⟨(l.length : Nat), (wrap_i64 (by omega)).trans (by omega), ?_⟩
  refine And.intro (fun h => absurd (of_decide_eq_true h) (by omega)) (fun _ => ?_)
  exact ⟨(), ⟨.cons rfl (.cons rfl (.cons rfl (.cons rfl (.cons rfl .nil)))), rfl⟩, rfl⟩
end Go.Proofs.YthgmcegmgjoafaaGreatDoor
namespace Go.Proofs.YthgmcegmgjoafaaGreatDoor
open Go.Vc Go.RowKit Go.Sei
abbrev symEnv (cp : Array Value) (g cap L a m b : Nat) : VEnv := [(0, .slice (some ⟨g, 0, none⟩) L cap), (1, .int .i64 a), (2, .int .i64 m), (3, .int .i64 b), (4, .func (.func 102) #[] cp)]
theorem sym_m (cp : Array Value) (O : MOrd Msg) (Good : World → Prop) (g cap L : Nat) (sp : List Value) (hC : CmpOk cp O g Good) (hl : L ≤ 1000000000) (N : Nat) (ih : SymGoal cp O Good g cap L sp N)
    (a m b : Nat) (A B : List Msg) (l r : List (Tg Msg)) (w : World) (hN : l.length + r.length ≤ N + 1) (hn1 : l.length ≠ 1) (hn2 : r.length ≠ 1) (hl0 : 0 < l.length) (hr0 : 0 < r.length) (hG : Good w) (hr : RowM w g sp (A ++ fsts l ++ fsts r ++ B)) (hSl : Srt O l) (hSr : Srt O r) (hX : ∀ x ∈ l, ∀ y ∈ r, x.2 < y.2)
    (ha : A.length = a) (hm : A.length + l.length = m) (hb : A.length + l.length + r.length = b) (hL : L = (A ++ fsts l ++ fsts r ++ B).length) :
    Calls Tryz.prog 201 #[.slice (some ⟨g, 0, none⟩) L cap, .int .i64 a, .int .i64 m, .int .i64 b, .func (.func 102) #[] cp] w
      fun e w' => (∃ v, e = .returned v) ∧ (∃ ys, Srt O ys ∧ ys.Perm (l ++ r) ∧ RowM w' g sp (A ++ fsts ys ++ B)) ∧ w.grownBy w' (some g) := by
  have hL2 : L = A.length + l.length + r.length + B.length := by rw [hL]; simp; omega
  refine calls_of_M (S := sg 220) (sgOk _) (args := [.slice (some ⟨g, 0, none⟩) L cap, .int .i64 a, .int .i64 m, .int .i64 b, .func (.func 102) #[] cp]) (.c .p (.c .p (.s .p (.s .p (.s .p (.c .p (.s .p (.s .p (.s .p (.c .p (.c .p .p))))))))))) Tryz.func201 rfl rfl (Nat.le_of_ble_eq_true rfl) rfl ?_
  refine ⟨Unit, fun _ => ⟨symEnv cp g cap L a m b, []⟩, fun _ V => w = V, ?_, ?_⟩
  · refine ⟨(l.length : Nat), (wrap_i64 (by omega)).trans (by omega), ?_⟩
    refine And.intro (fun h => absurd (of_decide_eq_true h) (by omega)) (fun _ => ?_)
    exact ⟨(), ⟨.cons rfl (.cons rfl (.cons rfl (.cons rfl (.cons rfl .nil)))), rfl⟩, rfl⟩
  rintro _ _ rfl
  refine ⟨Unit, fun _ => ⟨symEnv cp g cap L a m b, []⟩, fun _ V => w = V, ?_, ?_⟩
  · refine ⟨(r.length : Nat), (wrap_i64 (by omega)).trans (by omega), ?_⟩
    refine And.intro (fun h => absurd (of_decide_eq_true h) (by omega)) (fun _ => ?_)
    exact ⟨(), ⟨.cons rfl (.cons rfl (.cons rfl (.cons rfl (.cons rfl .nil)))), rfl⟩, rfl⟩
  rintro _ _ rfl
  obtain ⟨mid, hmid⟩ : ∃ mid, mid = (a + b) / 2 := ⟨_, rfl⟩
  obtain ⟨n, hn⟩ : ∃ n, n = mid + m := ⟨_, rfl⟩
  refine ⟨(a + b : Nat), (wrap_i64 (by omega)).trans (by omega), ?_⟩
  refine ⟨(a + b : Nat), wrap_u64 (by omega), ?_⟩
  refine And.intro (by decide) ⟨(mid : Nat), (half_u64 _).trans (by rw [hmid]), ?_⟩
  refine ⟨(mid : Nat), wrap_i64 (by omega), ?_⟩
  refine ⟨(n : Nat), (wrap_i64 (by omega)).trans (by omega), ?_⟩
  refine ⟨Nat × Nat, fun s => ⟨symEnv cp g cap L a m b ++ [(18, .int .i64 mid), (19, .int .i64 n), (20, .int .i64 s.1), (21, .int .i64 s.2)], []⟩,
    fun s V => a ≤ s.1 ∧ s.1 ≤ s.2 ∧ s.2 ≤ m ∧ s.2 ≤ mid ∧ n ≤ b + s.1 ∧ (s.1 = a ∨ n = b + s.1) ∧ (s.2 = m ∨ s.2 = mid) ∧ w = V, ?_, ?_⟩
  · refine And.intro (fun h => ?_) (fun h => ?_)
    · have h : (mid : Int) < m := of_decide_eq_true h
      refine ⟨(n - b : Nat), (wrap_i64 (by omega)).trans (by omega), ?_⟩
      exact ⟨(n - b, mid), ⟨.cons rfl (.cons rfl (.cons rfl (.cons rfl (.cons rfl (.cons rfl (.cons rfl (.cons rfl (.cons rfl .nil)))))))), rfl⟩, by dsimp only; omega, by dsimp only; omega, by dsimp only; omega, by dsimp only; omega, by dsimp only; omega, .inr (by dsimp only; omega), .inr rfl, rfl⟩
    · have h : ¬ (mid : Int) < m := of_decide_eq_false h
      exact ⟨(a, m), ⟨.cons rfl (.cons rfl (.cons rfl (.cons rfl (.cons rfl (.cons rfl (.cons rfl (.cons rfl (.cons rfl .nil)))))))), rfl⟩, by dsimp only; omega, by dsimp only; omega, by dsimp only; omega, by dsimp only; omega, by dsimp only; omega, .inl rfl, .inl rfl, rfl⟩
  rintro ⟨s0, r0⟩ _ ⟨i1, i2, i3, i4, i5, i6, i7, rfl⟩
  dsimp only at i1 i2 i3 i4 i5 i6 i7
  refine ⟨(n - 1 : Nat), (wrap_i64 (by omega)).trans (by omega), ?_⟩
  refine ⟨Nat × Nat, fun s => ⟨symEnv cp g cap L a m b ++ [(18, .int .i64 mid), (19, .int .i64 n), (20, .int .i64 s.1), (21, .int .i64 s.2), (22, .int .i64 (n - 1 : Nat))], []⟩,
    fun s V => a ≤ s.1 ∧ s.1 ≤ s.2 ∧ s.2 ≤ m ∧ s.2 ≤ mid ∧ n ≤ b + s.1 ∧ (s.1 = a ∨ n = b + s.1 ∨ (a < s.1 ∧ ∃ x y, l[s.1 - 1 - a]? = some x ∧ r[mid - s.1]? = some y ∧ O.lt y.1 x.1 = false)) ∧
      (s.2 = m ∨ s.2 = mid ∨ (s.2 < mid ∧ ∃ x y, l[s.2 - a]? = some x ∧ r[mid - 1 - s.2]? = some y ∧ O.lt y.1 x.1 = true)) ∧ RowM V g sp (A ++ fsts l ++ fsts r ++ B) ∧ w.grownBy V (some g),
    fun s => s.2 - s.1, (s0, r0), ⟨.cons rfl (.cons rfl (.cons rfl (.cons rfl (.cons rfl (.cons rfl (.cons rfl (.cons rfl (.cons rfl (.cons rfl .nil))))))))), rfl⟩,
    ⟨i1, i2, i3, i4, i5, by rcases i6 with h | h; exact .inl h; exact .inr (.inl h), by rcases i7 with h | h; exact .inl h; exact .inr (.inl h), hr, grown_refl _ _⟩, ?_⟩
  clear i1 i2 i3 i4 i5 i6 i7 s0 r0
  rintro ⟨s, t⟩ V ⟨i1, i2, i3, i4, i5, i6, i7, hrV, hgV⟩
  dsimp only at i1 i2 i3 i4 i5 i6 i7
  refine And.intro (fun h => ?_) (fun h => ?_)
  · have h : (s : Int) < t := of_decide_eq_true h
    obtain ⟨c, hc⟩ : ∃ c, c = (s + t) / 2 := ⟨_, rfl⟩
    have hc1 : s ≤ c := by omega
    have hc2 : c < t := by omega
    refine ⟨(s + t : Nat), (wrap_i64 (by dsimp only; omega)).trans (by dsimp only; omega), ?_⟩
    refine ⟨(s + t : Nat), wrap_u64 (by omega), ?_⟩
    refine And.intro (by decide) ⟨(c : Nat), (half_u64 _).trans (by rw [hc]), ?_⟩
    refine ⟨(c : Nat), wrap_i64 (by omega), ?_⟩
    refine DrawE.ord [] [0, 1, 2, 3, 4, 5, 6, 7, 8, 9, 10, 11, 12, 13] (by kernel_rfl) ?_
    have hgl : g < V.drew.heap.size := hrV.lt
    obtain ⟨j, hj⟩ : ∃ j, c = A.length + j := ⟨c - a, by omega⟩
    obtain ⟨k, hk⟩ : ∃ k, n - 1 - c = A.length + l.length + k := ⟨n - 1 - c - m, by omega⟩
    have hjl : j < l.length := by omega
    have hkr : k < r.length := by omega
    have g1 : Cells V.drew ⟨g, 0 + (n - 1 - c) * 11, none⟩ r[k].1.enc := RowM.get hrV (by rw [hk]; exact row_r A B l r hkr)
    have g2 : Cells V.drew ⟨g, 0 + c * 11, none⟩ l[j].1.enc := RowM.get hrV (by rw [hj]; exact row_l A B l r hjl)
    refine ⟨(n - 1 - c : Nat), (wrap_i64 (by omega)).trans (by omega), ?_⟩
    refine ⟨n - 1 - c, rfl, by omega, ?_⟩
    refine ⟨_, rfl, g1, hgl, ?_⟩
    refine ⟨c, rfl, by omega, ?_⟩
    refine ⟨_, rfl, g2, hgl, ?_⟩
    refine Calls.mono (hC.run V.drew (hC.keep _ _ (hC.keep _ _ hG hgV) (grown_of_below (Below.refl _ V).drew)) r[k].1 l[j].1) ?_
    rintro e V2 ⟨v, rfl, hv, hbV⟩
    refine ⟨hbV, ?_⟩
    have hgV2 : w.grownBy V2 (some g) := grown_trans hgV (grown_trans (grown_of_below (Below.refl _ V).drew) (grown_of_below hbV))
    have hrV2 : RowM V2 g sp (A ++ fsts l ++ fsts r ++ B) := RowS.below (w := V.drew) hrV hbV
    refine And.intro (fun h3 => ?_) (fun h3 => ?_)
    · have h3 : O.lt r[k].1 l[j].1 = false := by rw [← hv]; simpa using h3
      refine ⟨(c + 1 : Nat), (wrap_i64 (by omega)).trans (by omega), ?_⟩
      refine ⟨(c + 1, t), ⟨.cons rfl (.cons rfl (.cons rfl (.cons rfl (.cons rfl (.cons rfl (.cons rfl (.cons rfl (.cons rfl (.cons rfl .nil))))))))), rfl⟩, ⟨by dsimp only; omega, hc2, i3, i4, by dsimp only; omega, .inr (.inr ⟨by dsimp only; omega, l[j], r[k], ?_, ?_, h3⟩), i7, hrV2, hgV2⟩, by dsimp only; omega⟩
      · have : c + 1 - 1 - a = j := by omega
        dsimp only; rw [this]; exact List.getElem?_eq_getElem hjl
      · have : mid - (c + 1) = k := by omega
        dsimp only; rw [this]; exact List.getElem?_eq_getElem hkr
    · have h3 : O.lt r[k].1 l[j].1 = true := by rw [← hv]; simpa using h3
      refine ⟨(s, c), ⟨.cons rfl (.cons rfl (.cons rfl (.cons rfl (.cons rfl (.cons rfl (.cons rfl (.cons rfl (.cons rfl (.cons rfl .nil))))))))), rfl⟩, ⟨i1, hc1, by dsimp only; omega, by dsimp only; omega, i5, i6, .inr (.inr ⟨by dsimp only; omega, l[j], r[k], ?_, ?_, h3⟩), hrV2, hgV2⟩, by dsimp only; omega⟩
      · have : c - a = j := by omega
        dsimp only; rw [this]; exact List.getElem?_eq_getElem hjl
      · have : mid - 1 - c = k := by omega
        dsimp only; rw [this]; exact List.getElem?_eq_getElem hkr
  have h : ¬ (s : Int) < t := of_decide_eq_false h
  have hst : t = s := by omega
  subst hst
  obtain ⟨L1, hL1⟩ : ∃ L1, L1 = l.take (t - a) := ⟨_, rfl⟩
  obtain ⟨L2, hL2'⟩ : ∃ L2, L2 = l.drop (t - a) := ⟨_, rfl⟩
  obtain ⟨R1, hR1⟩ : ∃ R1, R1 = r.take (mid - t) := ⟨_, rfl⟩
  obtain ⟨R2, hR2⟩ : ∃ R2, R2 = r.drop (mid - t) := ⟨_, rfl⟩
  have el : L1 ++ L2 = l := by rw [hL1, hL2']; exact List.take_append_drop _ _
  have er : R1 ++ R2 = r := by rw [hR1, hR2]; exact List.take_append_drop _ _
  have zl1 : L1.length = t - a := by rw [hL1, List.length_take]; omega
  have zl2 : L2.length = m - t := by rw [hL2', List.length_drop]; omega
  have zr1 : R1.length = mid - t := by rw [hR1, List.length_take]; omega
  have zr2 : R2.length = b + t - n := by rw [hR2, List.length_drop]; omega
  have sl : Srt O (L1 ++ L2) := by rw [el]; exact hSl
  have sr : Srt O (R1 ++ R2) := by rw [er]; exact hSr
  have hX11 : ∀ x ∈ L1, ∀ y ∈ R1, x.2 < y.2 := fun x hx y hy => hX x (el ▸ List.mem_append_left _ hx) y (er ▸ List.mem_append_left _ hy)
  have hX22 : ∀ x ∈ L2, ∀ y ∈ R2, x.2 < y.2 := fun x hx y hy => hX x (el ▸ List.mem_append_right _ hx) y (er ▸ List.mem_append_right _ hy)
  have h12 : ∀ x ∈ L1, ∀ y ∈ R2, lt2 O x y := by
    refine ends_lt (List.pairwise_append.1 sl).1 (List.pairwise_append.1 sr).2.1 fun z u hz hu => ?_
    have hzu : z.2 < u.2 := hX z (el ▸ List.mem_append_left _ (List.mem_of_getLast? hz)) u (er ▸ List.mem_append_right _ (List.mem_of_head? hu))
    rcases i6 with e | e | ⟨e, x, y, hx, hy, hlt⟩
    · have : L1 = [] := List.eq_nil_of_length_eq_zero (by omega)
      rw [this] at hz; cases hz
    · have : R2 = [] := List.eq_nil_of_length_eq_zero (by omega)
      rw [this] at hu; cases hu
    · rw [hL1, List.getLast?_eq_getElem?, List.length_take, Nat.min_eq_left (by omega), List.getElem?_take, if_pos (by omega)] at hz
      have e1 : t - a - 1 = t - 1 - a := by omega
      rw [e1, hx] at hz
      rw [hR2, List.head?_drop, hy] at hu
      cases hz; cases hu
      exact .inr ⟨hlt, hzu⟩
  have h21 : ∀ y ∈ R1, ∀ x ∈ L2, lt2 O y x := by
    refine ends_lt (List.pairwise_append.1 sr).1 (List.pairwise_append.1 sl).2.1 fun z u hz hu => ?_
    rcases i7 with e | e | ⟨e, x, y, hx, hy, hlt⟩
    · have : L2 = [] := List.eq_nil_of_length_eq_zero (by omega)
      rw [this] at hu; cases hu
    · have : R1 = [] := List.eq_nil_of_length_eq_zero (by omega)
      rw [this] at hz; cases hz
    · rw [hR1, List.getLast?_eq_getElem?, List.length_take, Nat.min_eq_left (by omega), List.getElem?_take, if_pos (by omega)] at hz
      have e1 : mid - t - 1 = mid - 1 - t := by omega
      rw [e1, hy] at hz
      rw [hL2', List.head?_drop, hx] at hu
      cases hz; cases hu
      exact .inl hlt
  have hrow0 : A ++ fsts l ++ fsts r ++ B = (A ++ fsts L1) ++ fsts L2 ++ fsts R1 ++ (fsts R2 ++ B) := by
    rw [← el, ← er]; simp only [fsts, List.map_append, List.append_assoc]
  have hAL1 : (A ++ fsts L1).length = t := by simp; omega
  rw [hrow0] at hrV
  refine ⟨(n - t : Nat), (wrap_i64 (by omega)).trans (by omega), ?_⟩
  refine ⟨Unit, fun _ => ⟨symEnv cp g cap L a m b ++ [(18, .int .i64 mid), (20, .int .i64 t), (24, .int .i64 (n - t : Nat))], []⟩,
    fun _ V => RowM V g sp ((A ++ fsts L1) ++ fsts R1 ++ fsts L2 ++ (fsts R2 ++ B)) ∧ w.grownBy V (some g), ?_, ?_⟩
  · refine And.intro (fun h1 => ?_) (fun h1 => ?_)
    · have h1 : (t : Int) < m := of_decide_eq_true h1
      refine And.intro (fun h2 => ?_) (fun h2 => ?_)
      · have h2 : (m : Int) < (n - t : Nat) := of_decide_eq_true h2
        refine Calls.mono (rotate_c g cap t m (n - t) L sp (A ++ fsts L1) (fsts L2) (fsts R1) (fsts R2 ++ B) _ V hrV (List.ne_nil_of_length_pos (by simp; omega)) (List.ne_nil_of_length_pos (by simp; omega)) hAL1 (by rw [hAL1]; simp; omega) (by rw [hAL1]; simp; omega) (by rw [← hrow0]; exact hL) hl) ?_
        rintro e V2 ⟨⟨v, rfl⟩, hrV2, hgV2⟩
        exact ⟨(), ⟨.cons rfl (.cons rfl (.cons rfl (.cons rfl (.cons rfl (.cons rfl (.cons rfl (.cons rfl .nil))))))), rfl⟩, hrV2, grown_trans hgV hgV2⟩
      · have h2 : ¬ (m : Int) < (n - t : Nat) := of_decide_eq_false h2
        have e1 : R1 = [] := List.eq_nil_of_length_eq_zero (by omega)
        refine ⟨(), ⟨.cons rfl (.cons rfl (.cons rfl (.cons rfl (.cons rfl (.cons rfl (.cons rfl (.cons rfl .nil))))))), rfl⟩, ?_, hgV⟩
        rw [e1] at hrV ⊢; simpa using hrV
    · have h1 : ¬ (t : Int) < m := of_decide_eq_false h1
      have e1 : L2 = [] := List.eq_nil_of_length_eq_zero (by omega)
      refine And.intro (fun h => by cases h) (fun _ => ?_)
      refine ⟨(), ⟨.cons rfl (.cons rfl (.cons rfl (.cons rfl (.cons rfl (.cons rfl (.cons rfl (.cons rfl .nil))))))), rfl⟩, ?_, hgV⟩
      rw [e1] at hrV ⊢; simpa using hrV
  clear hrV hgV V
  rintro _ V ⟨hrV, hgV⟩
  refine ⟨List (Tg Msg), fun _ => ⟨symEnv cp g cap L a m b ++ [(18, .int .i64 mid), (24, .int .i64 (n - t : Nat))], []⟩,
    fun S1 V => Srt O S1 ∧ S1.Perm (L1 ++ R1) ∧ RowM V g sp ((A ++ fsts S1) ++ fsts L2 ++ fsts R2 ++ B) ∧ w.grownBy V (some g), ?_, ?_⟩
  · have hrV' : RowM V g sp (A ++ fsts L1 ++ fsts R1 ++ (fsts L2 ++ (fsts R2 ++ B))) := by simpa using hrV
    have hno : L1 = [] ∨ R1 = [] → Srt O (L1 ++ R1) ∧ RowM V g sp ((A ++ fsts (L1 ++ R1)) ++ fsts L2 ++ fsts R2 ++ B) := fun h => by
      refine ⟨?_, by simpa [fsts] using hrV⟩
      rcases h with h | h
      · rw [h]; exact (List.pairwise_append.1 sr).1
      · rw [h, List.append_nil]; exact (List.pairwise_append.1 sl).1
    refine And.intro (fun h1 => ?_) (fun h1 => ?_)
    · have h1 : (a : Int) < t := of_decide_eq_true h1
      refine And.intro (fun h2 => ?_) (fun h2 => ?_)
      · have h2 : (t : Int) < mid := of_decide_eq_true h2
        refine Calls.mono (ih a t mid A (fsts L2 ++ (fsts R2 ++ B)) L1 R1 V (by omega) (by omega) (by omega) (hC.keep _ _ hG hgV) hrV' (List.pairwise_append.1 sl).1 (List.pairwise_append.1 sr).1 hX11 ha (by omega) (by omega) (by rw [hL, hrow0]; simp; omega)) ?_
        rintro e V2 ⟨⟨v, rfl⟩, ⟨S1, q1, q2, q3⟩, hgV2⟩
        exact ⟨S1, ⟨.cons rfl (.cons rfl (.cons rfl (.cons rfl (.cons rfl (.cons rfl (.cons rfl .nil)))))), rfl⟩, q1, q2, by simpa using q3, grown_trans hgV hgV2⟩
      · have h2 : ¬ (t : Int) < mid := of_decide_eq_false h2
        obtain ⟨n1, n2⟩ := hno (.inr (List.eq_nil_of_length_eq_zero (by omega)))
        exact ⟨L1 ++ R1, ⟨.cons rfl (.cons rfl (.cons rfl (.cons rfl (.cons rfl (.cons rfl (.cons rfl .nil)))))), rfl⟩, n1, .refl _, n2, hgV⟩
    · have h1 : ¬ (a : Int) < t := of_decide_eq_false h1
      refine And.intro (fun h => by cases h) (fun _ => ?_)
      obtain ⟨n1, n2⟩ := hno (.inl (List.eq_nil_of_length_eq_zero (by omega)))
      exact ⟨L1 ++ R1, ⟨.cons rfl (.cons rfl (.cons rfl (.cons rfl (.cons rfl (.cons rfl (.cons rfl .nil)))))), rfl⟩, n1, .refl _, n2, hgV⟩
  clear hrV hgV V
  rintro S1 V ⟨q1, q2, hrV, hgV⟩
  have zs : S1.length = mid - a := by rw [q2.length_eq, List.length_append]; omega
  have fin : ∀ S2 Z, Srt O S2 → S2.Perm (L2 ++ R2) → RowM Z g sp ((A ++ fsts S1) ++ fsts S2 ++ B) → w.grownBy Z (some g) →
      (∃ ys, Srt O ys ∧ ys.Perm (l ++ r) ∧ RowM Z g sp (A ++ fsts ys ++ B)) ∧ w.grownBy Z (some g) := fun S2 Z c1 c2 c3 c4 => by
    obtain ⟨m1, m2⟩ := mrg_combine sl sr h12 h21 q1 q2 c1 c2
    rw [el, er] at m2
    exact ⟨⟨S1 ++ S2, m1, m2, by simpa [fsts] using c3⟩, c4⟩
  have hno : L2 = [] ∨ R2 = [] → Srt O (L2 ++ R2) ∧ RowM V g sp ((A ++ fsts S1) ++ fsts (L2 ++ R2) ++ B) := fun h => by
    refine ⟨?_, by simpa [fsts] using hrV⟩
    rcases h with h | h
    · rw [h]; exact (List.pairwise_append.1 sr).2.1
    · rw [h, List.append_nil]; exact (List.pairwise_append.1 sl).2.1
  refine And.intro (fun h1 => ?_) (fun h1 => ?_)
  · have h1 : (mid : Int) < (n - t : Nat) := of_decide_eq_true h1
    refine And.intro (fun h2 => ?_) (fun h2 => ?_)
    · have h2 : ((n - t : Nat) : Int) < b := of_decide_eq_true h2
      refine Calls.mono (ih mid (n - t) b (A ++ fsts S1) B L2 R2 V (by omega) (by omega) (by omega) (hC.keep _ _ hG hgV) hrV (List.pairwise_append.1 sl).2.1 (List.pairwise_append.1 sr).2.1 hX22 (by simp; omega) (by simp; omega) (by simp; omega) (by rw [hL, hrow0]; simp; omega)) ?_
      rintro e V2 ⟨⟨v, rfl⟩, ⟨S2, c1, c2, c3⟩, hgV2⟩
      exact And.intro ⟨_, rfl⟩ (fin S2 V2 c1 c2 c3 (grown_trans hgV hgV2))
    · have h2 : ¬ ((n - t : Nat) : Int) < b := of_decide_eq_false h2
      obtain ⟨n1, n2⟩ := hno (.inr (List.eq_nil_of_length_eq_zero (by omega)))
      exact And.intro ⟨_, rfl⟩ (fin _ V n1 (.refl _) n2 hgV)
  · have h1 : ¬ (mid : Int) < (n - t : Nat) := of_decide_eq_false h1
    refine And.intro (fun h => by cases h) (fun _ => ?_)
    obtain ⟨n1, n2⟩ := hno (.inl (List.eq_nil_of_length_eq_zero (by omega)))
    exact And.intro ⟨_, rfl⟩ (fin _ V n1 (.refl _) n2 hgV)
theorem sym_c (cp : Array Value) (O : MOrd Msg) (Good : World → Prop) (g cap L : Nat) (sp : List Value) (hC : CmpOk cp O g Good) (hl : L ≤ 1000000000) : ∀ N, SymGoal cp O Good g cap L sp N := by
  intro N
  induction N with
  | zero => exact fun _ _ _ _ _ l r _ h1 h2 _ => absurd h2 (by omega)
  | succ N ih =>
    intro a m b A B l r w hN hl0 hr0 hG hr hSl hSr hX ha hm hb hL
    by_cases h1 : l.length = 1
    · exact sym_l cp O Good g cap L sp hC hl a m b A B l r w h1 hl0 hr0 hG hr hSl hSr hX ha hm hb hL
    · by_cases h2 : r.length = 1
      · exact sym_r cp O Good g cap L sp hC hl a m b A B l r w h1 h2 hl0 hr0 hG hr hSl hSr hX ha hm hb hL
      · exact sym_m cp O Good g cap L sp hC hl N ih a m b A B l r w hN h1 h2 hl0 hr0 hG hr hSl hSr hX ha hm hb hL
end Go.Proofs.YthgmcegmgjoafaaGreatDoor
namespace Go.Proofs.YthgmcegmgjoafaaGreatDoor
open Go.Vc Go.RowKit Go.Sei
def Cross (c d : List (Tg Msg)) : Prop := ∀ x ∈ c, ∀ y ∈ d, x.2 < y.2
structure Bks (O : MOrd Msg) (bs : Nat) (ls : List (List (Tg Msg))) (T : List (Tg Msg)) : Prop where
  len : ∀ c ∈ ls, c.length = bs
  srt : ∀ c ∈ ls, Srt O c
  last : T.length < bs
  slast : Srt O T
  cross : (ls ++ [T]).Pairwise Cross
theorem cross_swap {P Q : List (List (Tg Msg))} {c1 c2 S : List (Tg Msg)} (h : (P ++ c1 :: c2 :: Q).Pairwise Cross) (hS : S.Perm (c1 ++ c2)) : (P ++ S :: Q).Pairwise Cross := by
  have hm : ∀ x, x ∈ S ↔ x ∈ c1 ∨ x ∈ c2 := fun x => by rw [hS.mem_iff, List.mem_append]
  simp only [List.pairwise_append, List.pairwise_cons, List.mem_cons] at h ⊢
  obtain ⟨h1, ⟨h2, h3, h4⟩, h5⟩ := h
  refine ⟨h1, ⟨fun d hd x hx y hy => ?_, h4⟩, fun c hc d hd => ?_⟩
  · rcases (hm x).1 hx with hx | hx
    · exact h2 d (.inr hd) x hx y hy
    · exact h3 d hd x hx y hy
  · rcases hd with rfl | hd
    · intro x hx y hy
      rcases (hm y).1 hy with hy | hy
      · exact h5 c hc c1 (.inl rfl) x hx y hy
      · exact h5 c hc c2 (.inr (.inl rfl)) x hx y hy
    · exact h5 c hc d (.inr (.inr hd))
theorem cross_perm {P Q : List (List (Tg Msg))} {c S : List (Tg Msg)} (h : (P ++ c :: Q).Pairwise Cross) (hS : S.Perm c) : (P ++ S :: Q).Pairwise Cross := by
  simp only [List.pairwise_append, List.pairwise_cons, List.mem_cons] at h ⊢
  obtain ⟨h1, ⟨h2, h3⟩, h5⟩ := h
  refine ⟨h1, ⟨fun d hd x hx y hy => h2 d hd x (hS.mem_iff.1 hx) y hy, h3⟩, fun c' hc d hd => ?_⟩
  rcases hd with rfl | hd
  · exact fun x hx y hy => h5 c' hc c (.inl rfl) x hx y (hS.mem_iff.1 hy)
  · exact h5 c' hc d (.inr hd)
theorem cross_split {P : List (List (Tg Msg))} {c d : List (Tg Msg)} (h : (P ++ [c ++ d]).Pairwise Cross) (hcd : Cross c d) : (P ++ [c, d]).Pairwise Cross := by
  simp only [List.pairwise_append, List.pairwise_cons, List.mem_cons, List.not_mem_nil, or_false] at h ⊢
  obtain ⟨h1, _, h5⟩ := h
  refine ⟨h1, ⟨fun _ e => e ▸ hcd, fun _ h => h.elim, List.Pairwise.nil⟩, fun c' hc e he => ?_⟩
  rcases he with rfl | rfl
  · exact fun x hx y hy => h5 c' hc _ rfl x hx y (List.mem_append_left _ hy)
  · exact fun x hx y hy => h5 c' hc _ rfl x hx y (List.mem_append_right _ hy)
theorem cross_mid {P Q : List (List (Tg Msg))} {c d : List (Tg Msg)} (h : (P ++ c :: d :: Q).Pairwise Cross) : Cross c d :=
  (List.pairwise_cons.1 (List.pairwise_append.1 h).2.1).1 d List.mem_cons_self
abbrev stEnv (cp : Array Value) (g cap L : Nat) : VEnv := [(0, .slice (some ⟨g, 0, none⟩) L cap), (1, .int .i64 L), (2, .func (.func 102) #[] cp)]
theorem stable_c (cp : Array Value) (O : MOrd Msg) (Good : World → Prop) (g cap L : Nat) (sp : List Value) (xs : List (Tg Msg)) (w : World) (hC : CmpOk cp O g Good) (hl : L ≤ 1000000000) (hG : Good w)
    (hr : RowM w g sp (fsts xs)) (ht : xs.Pairwise (fun x y => x.2 < y.2)) (hL : L = xs.length) :
    Calls Tryz.prog 164 #[.slice (some ⟨g, 0, none⟩) L cap, .int .i64 L, .func (.func 102) #[] cp] w
      fun e w' => (∃ v, e = .returned v) ∧ (∃ ys, Srt O ys ∧ ys.Perm xs ∧ RowM w' g sp (fsts ys)) ∧ w.grownBy w' (some g) := by
  refine calls_of_M (S := sg 63) (sgOk _) (args := [.slice (some ⟨g, 0, none⟩) L cap, .int .i64 L, .func (.func 102) #[] cp]) (.s .p (.s .p (.s .p (.c .p (.b (.l (.s .p (.b (.s .p (.c .p (.c .p .p)))))))))))
    Tryz.func164 rfl rfl (Nat.le_of_ble_eq_true rfl) rfl ?_
  refine ⟨List (List (Tg Msg)) × List (Tg Msg), fun s => ⟨stEnv cp g cap L ++ [(6, .int .i64 20), (7, .int .i64 s.1.flatten.length), (8, .int .i64 (s.1.flatten.length + 20 : Nat))], []⟩,
    fun s V => (∀ c ∈ s.1, c.length = 20) ∧ (∀ c ∈ s.1, Srt O c) ∧ (s.1 ++ [s.2]).Pairwise Cross ∧ s.2.Pairwise (fun x y => x.2 < y.2) ∧ (s.1.flatten ++ s.2).Perm xs ∧ RowM V g sp (fsts (s.1.flatten ++ s.2)) ∧ w.grownBy V (some g),
    fun s => s.2.length, ([], xs), ⟨.cons rfl (.cons rfl (.cons rfl (.cons rfl (.cons rfl (.cons rfl .nil))))), rfl⟩, ⟨by simp, by simp, by simp, ht, by simp, by simpa using hr, grown_refl _ _⟩, ?_⟩
  rintro ⟨ls, R⟩ V ⟨i1, i2, i3, i4, i5, hrV, hgV⟩
  dsimp only at i1 i2 i3 i4 i5 hrV
  have hln : ls.flatten.length + R.length = L := by rw [hL, ← i5.length_eq, List.length_append]
  refine And.intro (fun h => ?_) (fun h => ?_)
  · have h : ((ls.flatten.length + 20 : Nat) : Int) ≤ L := of_decide_eq_true h
    obtain ⟨X, hX⟩ : ∃ X, X = R.take 20 := ⟨_, rfl⟩
    obtain ⟨Y, hY⟩ : ∃ Y, Y = R.drop 20 := ⟨_, rfl⟩
    have hXY : X ++ Y = R := by rw [hX, hY]; exact List.take_append_drop _ _
    have hXl : X.length = 20 := by rw [hX, List.length_take]; omega
    rw [← hXY] at hrV i4 i5 i3
    have i4' := List.pairwise_append.1 i4
    refine Calls.mono (insertion_c cp O Good g cap ls.flatten.length (ls.flatten.length + 20) L sp (fsts ls.flatten) (fsts Y) X V (hC.keep _ _ hG hgV) hC (by simpa [fsts] using hrV) i4'.1 (List.length_map _) (by simp only [fsts, List.length_map, List.length_append]; omega) (by rw [← hXY] at hln; simp only [fsts, List.length_map, List.length_append] at hln ⊢; omega) hl) ?_
    rintro e V2 ⟨⟨v, rfl⟩, ⟨S, q1, q2, q3⟩, hgV2⟩
    have hSl : S.length = 20 := by rw [q2.length_eq, hXl]
    have hfl : (ls ++ [S]).flatten = ls.flatten ++ S := by simp
    refine ⟨(ls.flatten.length + 20 + 20 : Nat), (wrap_i64 (by first | omega | (dsimp only; omega))).trans (by first | omega | (dsimp only; omega)), ?_⟩
    refine ⟨(ls ++ [S], Y), ⟨.cons rfl (.cons rfl (.cons rfl (.cons rfl (.cons (by dsimp only; rw [hfl, List.length_append, hSl]; rfl) (.cons (by dsimp only; rw [hfl, List.length_append, hSl]; rfl) .nil))))), rfl⟩, ⟨?_, ?_, ?_, i4'.2.1, ?_, ?_, grown_trans hgV hgV2⟩, ?_⟩
    · intro c hc
      rcases List.mem_append.1 hc with hc | hc
      · exact i1 c hc
      · simp at hc; rw [hc]; exact hSl
    · intro c hc
      rcases List.mem_append.1 hc with hc | hc
      · exact i2 c hc
      · simp at hc; rw [hc]; exact q1
    · have := cross_perm (cross_split i3 i4'.2.2) q2
      simpa using this
    · dsimp only; rw [hfl, List.append_assoc]
      exact (List.Perm.append_left _ (List.Perm.append_right _ q2)).trans i5
    · dsimp only; rw [hfl]; simpa [fsts] using q3
    · rw [← hXY]; simp; omega
  have h : ¬ ((ls.flatten.length + 20 : Nat) : Int) ≤ L := of_decide_eq_false h
  refine ⟨List (List (Tg Msg)) × List (Tg Msg), fun s => ⟨stEnv cp g cap L ++ [(6, .int .i64 20)], []⟩,
    fun s V => Bks O 20 s.1 s.2 ∧ (s.1.flatten ++ s.2).Perm xs ∧ RowM V g sp (fsts (s.1.flatten ++ s.2)) ∧ w.grownBy V (some g), ?_, ?_⟩
  · refine Calls.mono (insertion_c cp O Good g cap ls.flatten.length L L sp (fsts ls.flatten) [] R V (hC.keep _ _ hG hgV) hC (by simpa [fsts] using hrV) i4 (List.length_map _) (by simp only [fsts, List.length_map, List.length_append]; omega) (by simp only [fsts, List.length_map, List.length_append, List.length_nil]; omega) hl) ?_
    rintro e V2 ⟨⟨v, rfl⟩, ⟨S, q1, q2, q3⟩, hgV2⟩
    refine ⟨(ls, S), ⟨.cons rfl (.cons rfl (.cons rfl (.cons rfl .nil))), rfl⟩, ⟨i1, i2, by rw [q2.length_eq]; omega, q1, cross_perm i3 q2⟩, (List.Perm.append_left _ q2).trans i5, by simpa [fsts] using q3, grown_trans hgV hgV2⟩
  rintro ⟨ls, T⟩ V ⟨hB, hP, hrV, hgV⟩
  refine ⟨Nat × List (List (Tg Msg)) × List (Tg Msg), fun s => ⟨stEnv cp g cap L ++ [(6, .int .i64 s.1)], []⟩,
    fun s V => 0 < s.1 ∧ s.1 ≤ 2000000000 ∧ Bks O s.1 s.2.1 s.2.2 ∧ (s.2.1.flatten ++ s.2.2).Perm xs ∧ RowM V g sp (fsts (s.2.1.flatten ++ s.2.2)) ∧ w.grownBy V (some g), fun s => L - s.1, (20, ls, T),
    ⟨.cons rfl (.cons rfl (.cons rfl (.cons rfl .nil))), rfl⟩, ⟨by dsimp only; omega, by dsimp only; omega, hB, hP, hrV, hgV⟩, ?_⟩
  rintro ⟨bs, ls, T⟩ V ⟨hb0, hb1, hB, hP, hrV, hgV⟩
  dsimp only at hb0 hb1 hB hP hrV
  have hln : ls.flatten.length + T.length = L := by rw [hL, ← hP.length_eq, List.length_append]
  refine And.intro (fun h => ?_) (fun h => ?_)
  · have h : (bs : Int) < L := of_decide_eq_true h
    refine ⟨(2 * bs : Nat), (wrap_i64 (by first | omega | (dsimp only; omega))).trans (by first | omega | (dsimp only; omega)), ?_⟩
    refine ⟨List (List (Tg Msg)) × List (List (Tg Msg)), fun s => ⟨stEnv cp g cap L ++ [(6, .int .i64 bs), (7, .int .i64 s.1.flatten.length)], []⟩,
      fun s V => (∀ c ∈ s.1, c.length = 2 * bs) ∧ (∀ c ∈ s.1, Srt O c) ∧ (∀ c ∈ s.2, c.length = bs) ∧ (∀ c ∈ s.2, Srt O c) ∧ s.2.length ≤ 1 ∧ (s.1 ++ (s.2 ++ [T])).Pairwise Cross ∧
        (s.1.flatten ++ (s.2.flatten ++ T)).Perm xs ∧ RowM V g sp (fsts (s.1.flatten ++ (s.2.flatten ++ T))) ∧ w.grownBy V (some g), ?_, ?_⟩
    · refine ⟨List (List (Tg Msg)) × List (List (Tg Msg)), fun s => ⟨stEnv cp g cap L ++ [(6, .int .i64 bs), (7, .int .i64 s.1.flatten.length), (8, .int .i64 (s.1.flatten.length + 2 * bs : Nat))], []⟩,
        fun s V => (∀ c ∈ s.1, c.length = 2 * bs) ∧ (∀ c ∈ s.1, Srt O c) ∧ (∀ c ∈ s.2, c.length = bs) ∧ (∀ c ∈ s.2, Srt O c) ∧ (s.1 ++ (s.2 ++ [T])).Pairwise Cross ∧
          (s.1.flatten ++ (s.2.flatten ++ T)).Perm xs ∧ RowM V g sp (fsts (s.1.flatten ++ (s.2.flatten ++ T))) ∧ w.grownBy V (some g), fun s => s.2.length, ([], ls),
        ⟨.cons rfl (.cons rfl (.cons rfl (.cons rfl (.cons rfl (.cons (by dsimp only; rw [show (([] : List (List (Tg Msg))).flatten.length + 2 * bs) = 2 * bs from Nat.zero_add _]; rfl) .nil))))), rfl⟩, ⟨by simp, by simp, hB.len, hB.srt, by simpa using hB.cross, by simpa using hP, by simpa using hrV, hgV⟩, ?_⟩
      rintro ⟨ds, rs⟩ V ⟨i1, i2, i3, i4, i5, hP, hrV, hgV⟩
      dsimp only at i1 i2 i3 i4 i5 hP hrV
      have hlen : ds.flatten.length + (rs.flatten.length + T.length) = L := by rw [hL, ← hP.length_eq, List.length_append, List.length_append]
      refine And.intro (fun h => ?_) (fun h => ?_)
      · have h : ((ds.flatten.length + 2 * bs : Nat) : Int) ≤ L := of_decide_eq_true h
        have hTl := hB.last
        match rs, i3, i4, i5, hP, hrV, hlen with
        | [], _, _, _, _, _, hlen => simp only [List.flatten_cons, List.flatten_nil, List.append_nil, List.length_nil] at hlen; omega
        | [c], i3, _, _, _, _, hlen => have := i3 c (by simp); simp only [List.flatten_cons, List.flatten_nil, List.append_nil, List.length_nil] at hlen; omega
        | c1 :: c2 :: rs, i3, i4, i5, hP, hrV, hlen =>
          have l1 := i3 c1 (by simp)
          have l2 := i3 c2 (by simp)
          have e1 : ds.flatten ++ ((c1 :: c2 :: rs).flatten ++ T) = ds.flatten ++ c1 ++ c2 ++ (rs.flatten ++ T) := by simp
          simp only [List.flatten_cons, List.length_append] at hlen
          rw [e1] at hrV hP
          refine ⟨(ds.flatten.length + bs : Nat), (wrap_i64 (by first | omega | (dsimp only; omega))).trans (by first | omega | (dsimp only; omega)), ?_⟩
          refine Calls.mono (sym_c cp O Good g cap L sp hC hl (c1.length + c2.length) ds.flatten.length (ds.flatten.length + bs) (ds.flatten.length + 2 * bs) (fsts ds.flatten) (fsts (rs.flatten ++ T)) c1 c2 V (Nat.le_refl _) (by omega) (by omega) (hC.keep _ _ hG hgV)
            (by simpa [fsts] using hrV) (i4 c1 (by simp)) (i4 c2 (by simp)) (cross_mid (P := ds) (Q := rs ++ [T]) (by simpa using i5)) (List.length_map _) (by simp only [fsts, List.length_map, List.length_append]; omega) (by simp only [fsts, List.length_map, List.length_append]; omega) (by simp only [fsts, List.length_map, List.length_append, List.length_nil]; omega)) ?_
          rintro e V2 ⟨⟨v, rfl⟩, ⟨S, q1, q2, q3⟩, hgV2⟩
          have hSl : S.length = 2 * bs := by rw [q2.length_eq, List.length_append]; omega
          have hfl : (ds ++ [S]).flatten = ds.flatten ++ S := by simp
          refine ⟨(2 * bs : Nat), (wrap_i64 (by first | omega | (dsimp only; omega))).trans (by first | omega | (dsimp only; omega)), ?_⟩
          refine ⟨(ds.flatten.length + 2 * bs + 2 * bs : Nat), (wrap_i64 (by first | omega | (dsimp only; omega))).trans (by first | omega | (dsimp only; omega)), ?_⟩
          refine ⟨(ds ++ [S], rs), ⟨.cons rfl (.cons rfl (.cons rfl (.cons rfl (.cons (by dsimp only; rw [hfl, List.length_append, hSl]; rfl) (.cons (by dsimp only; rw [hfl, List.length_append, hSl]; rfl) .nil))))), rfl⟩,
            ⟨?_, ?_, fun c hc => i3 c (by simp [hc]), fun c hc => i4 c (by simp [hc]), ?_, ?_, ?_, grown_trans hgV hgV2⟩, by dsimp only; simp only [List.length_cons]; omega⟩
          · intro c hc
            rcases List.mem_append.1 hc with hc | hc
            · exact i1 c hc
            · simp at hc; rw [hc]; exact hSl
          · intro c hc
            rcases List.mem_append.1 hc with hc | hc
            · exact i2 c hc
            · simp at hc; rw [hc]; exact q1
          · have := cross_swap (P := ds) (Q := rs ++ [T]) (by simpa using i5) q2
            simpa using this
          · dsimp only; rw [hfl]
            refine List.Perm.trans ?_ hP
            rw [List.append_assoc, List.append_assoc, List.append_assoc, ← List.append_assoc c1]
            exact List.Perm.append_left _ (List.Perm.append_right _ q2)
          · dsimp only; rw [hfl]; simpa [fsts] using q3
      · have h : ¬ ((ds.flatten.length + 2 * bs : Nat) : Int) ≤ L := of_decide_eq_false h
        refine ⟨(ds, rs), ⟨.cons rfl (.cons rfl (.cons rfl (.cons rfl (.cons rfl .nil)))), rfl⟩, i1, i2, i3, i4, ?_, i5, hP, hrV, hgV⟩
        match rs, i3, hlen with
        | [], _, _ => simp
        | [c], _, _ => simp
        | c1 :: c2 :: rs, i3, hlen =>
          have l1 := i3 c1 (by simp)
          have l2 := i3 c2 (by simp)
          simp only [List.flatten_cons, List.length_append] at hlen
          omega
    rintro ⟨ds, rs⟩ V ⟨i1, i2, i3, i4, i6, i5, hP, hrV, hgV⟩
    dsimp only at i1 i2 i3 i4 i5 i6 hP hrV
    have hlen : ds.flatten.length + (rs.flatten.length + T.length) = L := by rw [hL, ← hP.length_eq, List.length_append, List.length_append]
    have hTl := hB.last
    refine ⟨List (Tg Msg), fun _ => ⟨stEnv cp g cap L ++ [(6, .int .i64 bs)], []⟩,
      fun T' V => Bks O (2 * bs) ds T' ∧ (ds.flatten ++ T').Perm xs ∧ RowM V g sp (fsts (ds.flatten ++ T')) ∧ w.grownBy V (some g), ?_, ?_⟩
    rotate_left
    · rintro T' V ⟨hB', hP', hrV', hgV'⟩
      refine ⟨(2 * bs : Nat), (wrap_i64 (by first | omega | (dsimp only; omega))).trans (by first | omega | (dsimp only; omega)), ?_⟩
      exact ⟨(2 * bs, ds, T'), ⟨.cons rfl (.cons rfl (.cons rfl (.cons rfl .nil))), rfl⟩, ⟨by dsimp only; omega, by dsimp only; omega, hB', hP', hrV', hgV'⟩, by dsimp only; omega⟩
    refine ⟨(ds.flatten.length + bs : Nat), (wrap_i64 (by first | omega | (dsimp only; omega))).trans (by first | omega | (dsimp only; omega)), ?_⟩
    refine And.intro (fun h => ?_) (fun h => ?_)
    · have h : ((ds.flatten.length + bs : Nat) : Int) < L := of_decide_eq_true h
      match rs, i3, i4, i5, hP, hrV, hlen with
      | [], _, _, _, _, _, hlen => simp only [List.flatten_cons, List.flatten_nil, List.append_nil, List.length_nil] at hlen; omega
      | c1 :: c2 :: rs, _, _, _, _, _, _ => simp at i6
      | [c], i3, i4, i5, hP, hrV, hlen =>
        have l1 := i3 c (by simp)
        have e1 : ds.flatten ++ ([c].flatten ++ T) = ds.flatten ++ c ++ T := by simp
        simp only [List.flatten_cons, List.flatten_nil, List.append_nil] at hlen
        rw [e1] at hrV hP
        refine Calls.mono (sym_c cp O Good g cap L sp hC hl (c.length + T.length) ds.flatten.length (ds.flatten.length + bs) L (fsts ds.flatten) [] c T V (Nat.le_refl _) (by omega) (by omega) (hC.keep _ _ hG hgV)
          (by simpa [fsts] using hrV) (i4 c (by simp)) hB.slast (cross_mid (P := ds) (Q := []) (by simpa using i5)) (List.length_map _) (by simp only [fsts, List.length_map, List.length_append]; omega) (by simp only [fsts, List.length_map, List.length_append]; omega) (by simp only [fsts, List.length_map, List.length_append, List.length_nil]; omega)) ?_
        rintro e V2 ⟨⟨v, rfl⟩, ⟨S, q1, q2, q3⟩, hgV2⟩
        refine ⟨S, ⟨.cons rfl (.cons rfl (.cons rfl (.cons rfl .nil))), rfl⟩, ⟨i1, i2, by rw [q2.length_eq, List.length_append]; omega, q1, cross_swap (P := ds) (Q := []) (by simpa using i5) q2⟩, ?_, by simpa [fsts] using q3, grown_trans hgV hgV2⟩
        refine List.Perm.trans ?_ hP
        rw [List.append_assoc]
        exact List.Perm.append_left _ q2
    · have h : ¬ ((ds.flatten.length + bs : Nat) : Int) < L := of_decide_eq_false h
      match rs, i3, i4, i5, hP, hrV, hlen with
      | c1 :: c2 :: rs, _, _, _, _, _, _ => simp at i6
      | [], _, _, i5, hP, hrV, hlen =>
        exact ⟨T, ⟨.cons rfl (.cons rfl (.cons rfl (.cons rfl .nil))), rfl⟩, ⟨i1, i2, by omega, hB.slast, by simpa using i5⟩, by simpa using hP, by simpa using hrV, hgV⟩
      | [c], i3, i4, i5, hP, hrV, hlen =>
        have l1 := i3 c (by simp)
        simp only [List.flatten_cons, List.flatten_nil, List.append_nil] at hlen
        have hT : T = [] := List.eq_nil_of_length_eq_zero (by omega)
        refine ⟨c, ⟨.cons rfl (.cons rfl (.cons rfl (.cons rfl .nil))), rfl⟩, ⟨i1, i2, by omega, i4 c (by simp), ?_⟩, by simpa [hT] using hP, by simpa [hT] using hrV, hgV⟩
        have := cross_swap (P := ds) (Q := []) (c1 := c) (c2 := T) (S := c) (by simpa using i5) (by rw [hT, List.append_nil])
        exact this
  · have h : ¬ (bs : Int) < L := of_decide_eq_false h
    have hTl := hB.last
    refine And.intro ⟨_, rfl⟩ (And.intro ?_ hgV)
    match ls, hB, hP, hrV, hln with
    | [], hB, hP, hrV, hln => exact ⟨T, hB.slast, by simpa using hP, by simpa using hrV⟩
    | [c], hB, hP, hrV, hln =>
      have l1 := hB.len c (by simp)
      simp only [List.flatten_cons, List.flatten_nil, List.append_nil] at hln
      have hT : T = [] := List.eq_nil_of_length_eq_zero (by omega)
      exact ⟨c, hB.srt c (by simp), by simpa [hT] using hP, by simpa [hT] using hrV⟩
    | c1 :: c2 :: rs, hB, hP, hrV, hln =>
      have l1 := hB.len c1 (by simp)
      have l2 := hB.len c2 (by simp)
      simp only [List.flatten_cons, List.length_append] at hln
      omega
theorem sortStable_c (cp : Array Value) (O : MOrd Msg) (Good : World → Prop) (g cap L : Nat) (sp : List Value) (xs : List (Tg Msg)) (w : World) (hC : CmpOk cp O g Good) (hl : L ≤ 1000000000) (hG : Good w)
    (hr : RowM w g sp (fsts xs)) (ht : xs.Pairwise (fun x y => x.2 < y.2)) (hL : L = xs.length) :
    Calls Tryz.prog 101 #[.slice (some ⟨g, 0, none⟩) L cap, .func (.func 102) #[] cp] w
      fun e w' => (∃ v, e = .returned v) ∧ (∃ ys, Srt O ys ∧ ys.Perm xs ∧ RowM w' g sp (fsts ys)) ∧ w.grownBy w' (some g) := by
  refine calls_of_E (S := sg 9) (sgOk _) (args := [.slice (some ⟨g, 0, none⟩) L cap, .func (.func 102) #[] cp]) Tryz.func101 rfl rfl (Nat.le_of_ble_eq_true rfl) rfl ?_
  refine Calls.mono (stable_c cp O Good g cap L sp xs w hC hl hG hr ht hL) ?_
  rintro e V ⟨⟨v, rfl⟩, h1, h2⟩
  exact And.intro ⟨_, rfl⟩ (And.intro h1 h2)
end Go.Proofs.YthgmcegmgjoafaaGreatDoor
namespace Go.Proofs.YthgmcegmgjoafaaGreatDoor
open Go.Vc Go.RowKit Go.Sei
theorem isNaN_c (x : UInt8) (w : World) : Calls Tryz.prog 202 #[u8 x] w fun e w' => e = .returned (.bool false) ∧ w = w' := by
  refine calls_of_E (S := sg 6) (sgOk _) (args := [u8 x]) Tryz.func202 rfl rfl (Nat.le_of_ble_eq_true rfl) rfl ?_
  exact And.intro (rb (by simp)) rfl
theorem Compare8_c (x y : UInt8) (w : World) : Calls Tryz.prog 165 #[u8 x, u8 y] w fun e w' => e = .returned (.int .i64 (cmp8 x y)) ∧ w = w' := by
  refine calls_of_E (S := sg 20) (sgOk _) (args := [u8 x, u8 y]) Tryz.func165 rfl rfl (Nat.le_of_ble_eq_true rfl) rfl ?_
  refine Calls.mono (isNaN_c x w) ?_
  rintro e w' ⟨rfl, rfl⟩
  refine Calls.mono (isNaN_c y w) ?_
  rintro e w' ⟨rfl, rfl⟩
  refine And.intro (fun h => by cases h) (fun _ => ?_)
  refine And.intro (fun h => by cases h) (fun _ => ?_)
  refine And.intro (fun h => ?_) (fun h => ?_)
  · have h : (x.toNat : Int) < y.toNat := of_decide_eq_true h
    exact And.intro (ri (by unfold cmp8; rw [if_pos (by omega)])) rfl
  · have h : ¬ (x.toNat : Int) < y.toNat := of_decide_eq_false h
    refine And.intro (fun h2 => ?_) (fun h2 => ?_)
    · have h2 : (y.toNat : Int) < x.toNat := of_decide_eq_true h2
      exact And.intro (ri (by unfold cmp8; rw [if_neg (by omega), if_pos (by omega)])) rfl
    · have h2 : ¬ (y.toNat : Int) < x.toNat := of_decide_eq_false h2
      exact And.intro (ri (by unfold cmp8; rw [if_neg (by omega), if_neg (by omega)])) rfl
theorem CompareL_c (p1 p2 : Option Addr) (cap1 cap2 : Nat) (l1 l2 : List UInt8) (w : World) (h1 : SlR byteE w p1 l1) (h2 : SlR byteE w p2 l2) (hn : l1.length ≤ 1000000000) :
    Calls Tryz.prog 103 #[.slice p1 l1.length cap1, .slice p2 l2.length cap2] w fun e w' => e = .returned (.int .i64 (cmpL l1 l2)) ∧ w = w' := by
  refine calls_of_E (S := sg 36) (sgOk _) (args := [.slice p1 l1.length cap1, .slice p2 l2.length cap2]) Tryz.func103 rfl rfl (Nat.le_of_ble_eq_true rfl) rfl ?_
  refine ⟨Nat, fun k => ⟨[(0, .slice p1 l1.length cap1), (1, .slice p2 l2.length cap2), (4, .int .i64 0), (9, .slice p1 l1.length cap1), (10, .int .i64 l1.length), (11, .int .i64 (k : Nat))], []⟩,
    fun k X => k ≤ l1.length ∧ k ≤ l2.length ∧ X = w ∧ l1.take k = l2.take k, fun k => l1.length - k, 0, ⟨.cons rfl (.cons rfl (.cons rfl (.cons rfl (.cons rfl (.cons rfl .nil))))), rfl⟩, ⟨Nat.zero_le _, Nat.zero_le _, rfl, by simp⟩, ?_⟩
  rintro k X ⟨hk, hk2, rfl, hm⟩
  have hcd := cmpL_drop l1 l2 k hk hk2 hm
  refine And.intro (fun h => ?_) (fun h => ?_)
  · have h : (k : Int) < l1.length := of_decide_eq_true h
    have hkl : k < l1.length := by omega
    have hd1 : l1.drop k = l1[k] :: l1.drop (k + 1) := List.drop_eq_getElem_cons hkl
    obtain ⟨b1, o1, rfl, hb1, hc1⟩ := byte_at h1 hkl
    refine ⟨k, rfl, hkl, ?_⟩
    refine ⟨_, hc1, ?_⟩
    refine And.intro (fun h => ?_) (fun h => ?_)
    · have h : (l2.length : Int) ≤ k := of_decide_eq_true h
      refine And.intro (ri ?_) rfl
      have hd2 : l2.drop k = [] := List.drop_of_length_le (by omega)
      rw [hcd, hd1, hd2]; rfl
    · have h : ¬ (l2.length : Int) ≤ k := of_decide_eq_false h
      have hkl2 : k < l2.length := by omega
      have hd2 : l2.drop k = l2[k] :: l2.drop (k + 1) := List.drop_eq_getElem_cons hkl2
      obtain ⟨b2, o2, rfl, hb2, hc2⟩ := byte_at h2 hkl2
      refine ⟨k, rfl, hkl2, ?_⟩
      refine ⟨_, hc2, ?_⟩
      refine Calls.mono (Compare8_c l1[k] l2[k] X) ?_
      rintro e w' ⟨rfl, rfl⟩
      refine And.intro (fun h => ?_) (fun h => ?_)
      · have h : ¬ cmp8 l1[k] l2[k] = 0 := by simpa using h
        have hne : l1[k] ≠ l2[k] := fun e => h (by rw [e]; exact cmp8_self _)
        refine And.intro (ri ?_) rfl
        rw [hcd, hd1, hd2, cmpL, if_neg hne]
      · have h : cmp8 l1[k] l2[k] = 0 := by simpa using h
        have he : l1[k] = l2[k] := Decidable.byContradiction fun hne => cmp8_ne hne h
        refine ⟨(k + 1 : Nat), (wrap_i64 (by omega)).trans (by omega), ?_⟩
        refine ⟨k + 1, ⟨.cons rfl (.cons rfl (.cons rfl (.cons rfl (.cons rfl (.cons rfl .nil))))), rfl⟩, ⟨hkl, hkl2, rfl, ?_⟩, by dsimp only; omega⟩
        rw [List.take_succ_eq_append_getElem hkl, List.take_succ_eq_append_getElem hkl2, hm, he]
  · have h : ¬ (k : Int) < l1.length := of_decide_eq_false h
    refine And.intro (fun h2 => ?_) (fun h2 => ?_)
    · have h2 : (l1.length : Int) < l2.length := of_decide_eq_true h2
      refine And.intro (ri ?_) rfl
      have hd1 : l1.drop k = [] := List.drop_of_length_le (by omega)
      have hd2 : l2.drop k = l2[k] :: l2.drop (k + 1) := List.drop_eq_getElem_cons (by omega)
      rw [hcd, hd1, hd2]; rfl
    · have h2 : ¬ (l1.length : Int) < l2.length := of_decide_eq_false h2
      refine And.intro (ri ?_) rfl
      have hd1 : l1.drop k = [] := List.drop_of_length_le (by omega)
      have hd2 : l2.drop k = [] := List.drop_of_length_le (by omega)
      rw [hcd, hd1, hd2]; rfl
end Go.Proofs.YthgmcegmgjoafaaGreatDoor
