/- Contracts: a program turned. Contracts: a world turned. Contracts: views of every kind turned. Contracts: a directory entry turned; cores and caches reordered; a clone of stores. Law22: Fits. Contracts: a system turned by an index. Contracts: a system turned. Plain: turning twice is turning once. Plain: a program turned stays valid; turned twice is turned once; what fits still fits. Contracts: turn.Perf. Contracts: turn.Step. -/
import Derived.Test.YthgmcegmgjoafaaGreatDoorY4
import Derived.Test.YthgmcegmgjoafaaGreatDoorY2
import Derived.Test.YthgmcegmgjoafaaGreatDoorY3
set_option linter.unusedSimpArgs false
set_option linter.unusedVariables false
namespace Go.Proofs.YthgmcegmgjoafaaGreatDoor
open Go.Vc Go.RowKit Go.Sei
def turnP (l : List Int) (p : Prg) : Prg := ⟨p.name, p.locs, p.init, pickL [] p.threads l, p.ask, turnC (backL l) p.cond⟩
structure OkP (p : Prg) : Prop where
  locs : p.locs.length ≤ 6
  init : p.init.length = p.locs.length
  threads : p.threads.length ≤ 4
  thread : ∀ t ∈ p.threads, t.length ≤ 12 ∧ ∀ x ∈ t, x.op.toNat ≤ 8 ∧ (hasL x.op 2 = true → x.loc.toNat < p.locs.length)
  cond : condB p.threads.length p.locs.length 20 p.cond = true
theorem okPrg_parts {p : Prg} (h : okPrg p = true) : OkP p := by
  unfold okPrg at h
  simp only [Bool.and_eq_true] at h
  obtain ⟨_, h2, ⟨_, h4, h5⟩, h6, _, h8⟩ := h
  unfold locsB at h2
  simp only [Bool.and_eq_true, decide_eq_true_eq] at h2 h4
  refine ⟨h2.2.1, h2.2.2.1, h4, fun t ht => ?_, h8⟩
  have h7 := List.all_eq_true.1 h6 t ht
  unfold threadB at h7
  rw [Bool.and_eq_true, decide_eq_true_eq, List.all_eq_true] at h7
  refine ⟨h7.1, fun x hx => ?_⟩
  obtain ⟨i, hi, rfl⟩ := List.getElem_of_mem hx
  have h9 := h7.2 i (List.mem_range.2 hi)
  rw [List.getElem?_eq_getElem hi] at h9
  have h9 : insB t[i] p.locs.length (t.length - 1 - i) = true := h9
  unfold insB insC at h9
  simp only [List.all_cons, id, Bool.and_eq_true, Bool.or_eq_true, decide_eq_true_eq, Bool.not_eq_true'] at h9
  refine ⟨h9.1.2, fun h => ?_⟩
  rcases h9.2.2.2.1 with h10 | h10
  · rw [h] at h10; cases h10
  · exact h10
theorem perm_parts {l : List Int} {n : Nat} (h : permL l n = true) : l.length = n ∧ (∀ x ∈ l, 0 ≤ x ∧ x < n) ∧ l.Nodup := by
  unfold permL at h
  rw [Bool.and_eq_true, decide_eq_true_eq] at h
  exact ⟨by omega, perm_range h.2, (permGo_nodup h.2).1⟩
theorem iota_nodup (n : Nat) : (iotaL n).Nodup := by
  unfold iotaL
  rw [List.nodup_iff_pairwise_ne, List.pairwise_map]
  exact List.nodup_range.imp (fun h e => h (Int.ofNat.inj e))
theorem iota_range {n : Nat} : ∀ x ∈ iotaL n, 0 ≤ x ∧ x < n := fun x hx => by
  unfold iotaL at hx
  obtain ⟨i, hi, rfl⟩ := List.mem_map.1 hx
  exact ⟨Int.natCast_nonneg i, Int.ofNat_lt.2 (List.mem_range.1 hi)⟩
theorem iota_at {n k : Nat} (h : k < (iotaL n).length) : (iotaL n)[k] = (k : Int) := by
  have := iota_get (n := n) (t := k) (by rwa [iota_length] at h)
  rwa [getD_lt h] at this
theorem backN_iota (n : Nat) : ∀ k, k ≤ n → ∀ i, i < n → (backN (iotaL n) k).getD i 0 = if i < k then (i : Int) else 0
  | 0, _, i, hi => by
    unfold backN
    simp only [List.range_zero, List.foldl_nil, Nat.not_lt_zero, if_false]
    rw [List.getD_eq_getElem?_getD, List.getElem?_replicate]
    split <;> rfl
  | k + 1, hk, i, hi => by
    rw [backN_succ, iota_get (by omega), Int.toNat_natCast]
    have ih := backN_iota n k (by omega) i hi
    have hl : (backN (iotaL n) k).length = n := by rw [backN_len, iota_length]
    rw [List.getD_eq_getElem?_getD] at ih ⊢
    by_cases e : i = k
    · subst e
      rw [List.getElem?_set_self (by omega), if_pos (by omega)]; rfl
    · rw [List.getElem?_set_ne (fun h => e h.symm), ih]
      by_cases h : i < k
      · rw [if_pos h, if_pos (by omega)]
      · rw [if_neg h, if_neg (by omega)]
theorem backL_iota (n : Nat) : backL (iotaL n) = iotaL n := by
  have hl : (backL (iotaL n)).length = n := by rw [backL_len, iota_length]
  apply List.ext_getElem
  · rw [hl, iota_length]
  · intro i h1 h2
    have := backN_iota n n (Nat.le_refl _) i (by omega)
    rw [if_pos (by omega)] at this
    rw [iota_at h2, ← getD_lt h1 0]
    unfold backL
    rw [iota_length]; exact this
def PrgN (lo : Nat) (W : World) (qc : List Value) (p : Prg) : Prop := ∀ Y : World, (∀ j, lo ≤ j → j < W.heap.size → Y.heap[j]? = W.heap[j]?) → PrgV W.heap.size Y qc p
def qC (nm : List UInt8) (s1 s2 s3 : Value) (ask : UInt8) : List Value := [strV nm, s1, s2, s3, u8 ask, u8 0, u8 0, u8 0, u8 0, .slice none 0 0]
theorem own_ne {α β : Type} {E : Enc α} {E' : Enc β} {T T' B B' cap cap' : Nat} {w : World} {p p' : Option Addr} {l : List α} {l' : List β} (h : OwnS E T B w p cap l) (h' : OwnS E' T' B' w p' cap' l') (hT : T ≠ T') : ∀ g, p' = some ⟨g, 0, none⟩ → (Value.slice p l.length cap).ownBlock ≠ some g := by
  intro g hg e
  rcases h.inv with ⟨h1, _⟩ | ⟨b, cur, h1, _, h2, _⟩
  · rw [h1] at e; simp [Value.ownBlock] at e
  · rw [h1] at e
    simp only [Value.ownBlock, Option.some.injEq] at e
    subst e
    rcases h'.inv with ⟨h3, _⟩ | ⟨b', cur', h3, _, h4, _⟩
    · rw [h3] at hg; cases hg
    · rw [hg] at h3
      simp only [Option.some.injEq, Addr.mk.injEq, and_true] at h3
      subst h3
      rw [h2] at h4
      simp only [Option.some.injEq, Obj.cells.injEq] at h4
      exact hT h4.2.1
theorem own_capG {α : Type} {E : Enc α} {T B cap : Nat} {w : World} {p : Option Addr} {l : List α} (h : OwnS E T B w p cap l) : l.length ≤ cap := by
  rcases h.inv with ⟨_, _, h0⟩ | ⟨_, _, _, _, _, h0, _⟩
  · rw [h0]; exact Nat.zero_le _
  · exact h0
theorem own_lt {α : Type} {E : Enc α} {T B cap : Nat} {w : World} {p : Option Addr} {l : List α} (h : OwnS E T B w p cap l) {a : Addr} (ha : p = some a) : B ≤ a.block ∧ a.block < w.heap.size := by
  rcases h.inv with ⟨h1, _⟩ | ⟨g, cur, h1, h2, h3, _⟩
  · rw [h1] at ha; cases ha
  · rw [h1] at ha; cases ha; exact ⟨h2, hlt h3⟩
section
variable {B : Nat} {p : Prg} {pc : List Value} {l : List Int} {q q2 : Option Addr} {cap cap2 : Nat} {w : World}
theorem check_Turn_c (hB : B ≤ w.heap.size) (hp : PrgV B w pc p) (hG : GlobC w) (hok : okPrg p = true) (hl : SlR Go.Sei.intE w q l) (hperm : permL l p.threads.length = true) (hlo : SlR Go.Sei.intE w q2 (iotaL p.locs.length)) :
    Calls Tryz.prog 71 #[.agg pc.toArray, .slice q l.length cap, .slice q2 (iotaL p.locs.length).length cap2] w fun e w' => ∃ qc : List Value, e = .returned (.tuple #[.agg qc.toArray, i64 0]) ∧ PrgN w.heap.size w' qc (turnP l p) ∧ qc.all Value.oneCell' = true ∧ Below w.heap.size w w' := by
  refine calls_of_M (S := sg 131) (sgOk _) (args := [.agg pc.toArray, .slice q l.length cap, .slice q2 (iotaL p.locs.length).length cap2]) (.c .p (.s .p (.c .p (.s .p (.c .p (.s .p (.c .p (.c .p (.c .p .p))))))))) Tryz.func71 rfl rfl (Nat.le_of_ble_eq_true rfl) rfl ?_
  have hO := okPrg_parts hok
  obtain ⟨hll, hlr, hnd⟩ := perm_parts hperm
  have hth4 := hO.threads
  have hlo6 := hO.locs
  have hpc := hp.size
  obtain ⟨hlen, p1, k1, p2, k2, p3, k3, p4, k4, epc, r1, r2, ⟨xs, hxs, r3, r3'⟩, r4, hk1⟩ := id hp
  have hxl : p.threads.length = xs.length := by rw [← hxs, List.length_map]
  obtain ⟨L, hL⟩ : ∃ L, L = w.heap.size := ⟨_, rfl⟩
  refine ⟨Unit, fun _ => ⟨[(1, .slice q l.length cap), (2, .slice q2 (iotaL p.locs.length).length cap2), (3, .pointer (some ⟨L, 0, none⟩)), (6, .pointer (some ⟨L + 1, 0, none⟩))], []⟩, fun _ X => X.heap[L]? = some (.cells pc.toArray 29 (0, 0)) ∧ (∃ cs : Array Value, X.heap[L + 1]? = some (.cells cs 29 (0, 0)) ∧ cs.size = 10) ∧ X.heap.size = L + 2 ∧ Below w.heap.size w X, ?_, ?_⟩
  · obtain ⟨W1, hW1⟩ : ∃ W1, W1 = w.alloc (.cells pc.toArray 29) := ⟨_, rfl⟩
    have s1 : W1.heap.size = L + 1 := by rw [hW1, World.size_alloc, hL]
    have q1 : some (Value.pointer (some ⟨w.heap.size, 0, none⟩)) = some (Value.pointer (some ⟨L, 0, none⟩)) := by rw [hL]
    have q2 : some (Value.pointer (some ⟨W1.heap.size, 0, none⟩)) = some (Value.pointer (some ⟨L + 1, 0, none⟩)) := by rw [s1]
    rw [hW1] at q2
    refine ⟨(), ⟨.cons rfl (.cons rfl (.cons q1 (.cons q2 .nil))), rfl⟩, ?_⟩
    have hM : ∀ cs : Array Value, cs.size = 10 → (W1.alloc (.cells cs 29)).heap[L]? = some (.cells pc.toArray 29 (0, 0)) ∧ (∃ cs' : Array Value, (W1.alloc (.cells cs 29)).heap[L + 1]? = some (.cells cs' 29 (0, 0)) ∧ cs'.size = 10) ∧ (W1.alloc (.cells cs 29)).heap.size = L + 2 ∧ Below w.heap.size w (W1.alloc (.cells cs 29)) := fun cs hcs => by
      refine ⟨hold _ ?_, ⟨cs, ?_, hcs⟩, by rw [World.size_alloc, s1], ?_⟩
      · rw [hW1, hL]; exact hnew w _
      · rw [← s1]; exact hnew W1 _
      · rw [hW1]; exact ((Below.refl _ w).alloc (Nat.le_refl _) _).alloc (by simp) _
    rw [hW1] at hM
    exact hM _ rfl
  rintro _ V ⟨f0, ⟨cs, f1, hcs⟩, sV, hbV⟩
  refine ⟨pc, hpc, cells_block f0, hlt f0, ?_⟩
  refine Calls.mono (Right_c (Nat.le_trans hB hbV.size) (hp.below (hbV.mono hB)) (hG.below hbV)) ?_
  rintro e U ⟨n, rfl, hn, hbU⟩
  have hn0 : n = 0 := hn.2 hok
  subst hn0
  refine brF ?_
  replace f0 := block_below hbU f0
  replace f1 := block_below hbU f1
  replace hbV : Below w.heap.size w U := hbV.trans (hbU.mono hbV.size)
  have sU : L + 2 ≤ U.heap.size := by have := hbU.size; omega
  clear hbU hn sV
  refine ⟨Nat, fun T => ⟨[(1, .slice q l.length cap), (2, .slice q2 (iotaL p.locs.length).length cap2), (3, .pointer (some ⟨L, 0, none⟩)), (6, .pointer (some ⟨L + 1, 0, none⟩)), (9, .pointer (some ⟨T, 0, none⟩)), (10, .bool true)], []⟩, fun T X => (∃ b, X.heap[T]? = some (.cells #[.slice (some ⟨b, 0, none⟩) p.threads.length p.threads.length] 23 (0, 0)) ∧ X.heap[b]? = some (.cells ((backL l).map b8).toArray 5 (0, 0))) ∧ Below U.heap.size U X, ?_, ?_⟩
  · refine ⟨_, cells_at (cells_block f0) (i := 3) (by rw [epc]; rfl), ?_⟩
    refine Calls.mono (inverse_c (hl.below hbV) hll (by omega) hlr hnd) ?_
    rintro e X ⟨b, rfl, hb, hb1, hbX⟩
    refine store_new (X := X) (v := .slice (some ⟨b, 0, none⟩) p.threads.length p.threads.length) (ttOk.get 23 _ rfl) rfl rfl rfl fun Y hbY fY sY => ?_
    exact ⟨X.heap.size, ⟨.cons rfl (.cons rfl (.cons rfl (.cons rfl (.cons rfl (.cons rfl .nil))))), rfl⟩, ⟨b, fY, block_below hbY hb⟩, hbX.trans (hbY.mono hbX.size)⟩
  rintro T X ⟨hT, hbX⟩
  refine brF ?_
  refine ⟨Nat, fun Q => ⟨[(1, .slice q l.length cap), (2, .slice q2 (iotaL p.locs.length).length cap2), (3, .pointer (some ⟨L, 0, none⟩)), (6, .pointer (some ⟨L + 1, 0, none⟩)), (9, .pointer (some ⟨T, 0, none⟩)), (10, .bool true), (11, .pointer (some ⟨Q, 0, none⟩))], []⟩, fun Q Y => CloI T Q (backL l) p.locs.length Y ∧ Below U.heap.size U Y, ?_, ?_⟩
  · have hbwX : Below w.heap.size w X := hbV.trans (hbX.mono hbV.size)
    refine ⟨_, cells_at (cells_block (block_below hbX f0)) (i := 1) (by rw [epc]; rfl), ?_⟩
    refine Calls.mono (inverse_c (hlo.below hbwX) (iota_length _) (by omega) iota_range (iota_nodup _)) ?_
    rintro e Y ⟨b, rfl, hb, hb1, hbY⟩
    refine store_new (X := Y) (v := .slice (some ⟨b, 0, none⟩) p.locs.length p.locs.length) (ttOk.get 23 _ rfl) rfl rfl rfl fun Z hbZ fZ sZ => ?_
    rw [backL_iota] at hb
    obtain ⟨bt, t1, t2⟩ := hT
    refine ⟨Y.heap.size, ⟨.cons rfl (.cons rfl (.cons rfl (.cons rfl (.cons rfl (.cons rfl (.cons rfl .nil)))))), rfl⟩, ⟨⟨bt, ?_, block_below hbZ (block_below hbY t2)⟩, ⟨b, fZ, block_below hbZ hb⟩, fun x hx => ?_⟩, (hbX.trans (hbY.mono hbX.size)).trans (hbZ.mono (by have := hbX.size; have := hbY.size; omega))⟩
    · rw [backL_len, hll]
      exact block_below hbZ (block_below hbY t1)
    · have := backN_get_lt hlr l.length (Nat.le_refl _) x hx
      omega
  clear hT hbX
  rintro Q X ⟨hC, hbX⟩
  refine brF ?_
  replace f0 := block_below hbX f0
  replace f1 := block_below hbX f1
  replace hbV : Below w.heap.size w X := hbV.trans (hbX.mono hbV.size)
  have sX : L + 2 ≤ X.heap.size := by have := hbX.size; omega
  clear hbX sU
  obtain ⟨R, hR⟩ : ∃ R, R = X.heap.size := ⟨_, rfl⟩
  refine ⟨Unit, fun _ => ⟨[(1, .slice q l.length cap), (2, .slice q2 (iotaL p.locs.length).length cap2), (3, .pointer (some ⟨L, 0, none⟩)), (6, .pointer (some ⟨L + 1, 0, none⟩)), (9, .pointer (some ⟨T, 0, none⟩)), (11, .pointer (some ⟨Q, 0, none⟩)), (12, .pointer (some ⟨R, 0, none⟩))], []⟩, fun _ Y => Y.heap[R]? = some (.cells (qC p.name (.slice none 0 0) (.slice none 0 0) (.slice none 0 0) p.ask).toArray 29 (0, 0)) ∧ Y.heap.size = R + 1 ∧ Below X.heap.size X Y, ?_, ?_⟩
  · refine ⟨_, cells_at (cells_block f0) (i := 0) (by rw [epc]; rfl), ?_⟩
    refine ⟨_, cells_at (cells_block f0) (i := 4) (by rw [epc]; rfl), ?_⟩
    refine ⟨qC p.name (.slice none 0 0) (.slice none 0 0) (.slice none 0 0) p.ask, rfl, ?_⟩
    refine store_new (X := X) (v := .agg (qC p.name (.slice none 0 0) (.slice none 0 0) (.slice none 0 0) p.ask).toArray) (ttOk.get 29 _ rfl) rfl rfl rfl fun Y hbY fY sY => ?_
    exact ⟨(), ⟨.cons rfl (.cons rfl (.cons rfl (.cons rfl (.cons rfl (.cons rfl (.cons (by rw [hR]; rfl) .nil)))))), rfl⟩, by rw [hR]; exact fY, by rw [hR]; exact sY, hbY⟩
  rintro _ V ⟨fR, sV, hbXV⟩
  replace f0 := block_below hbXV f0
  replace f1 := block_below hbXV f1
  replace hbV : Below w.heap.size w V := hbV.trans (hbXV.mono hbV.size)
  have hCq := hC
  have hCV := hbXV
  replace hC := hC.below hbXV
  have hwR : L + 2 ≤ R := by rw [hR]; exact sX
  clear hbXV sX
  have hbB : Below B w V := hbV.mono hB
  refine ⟨Option Addr × Nat × Option Addr × Nat, fun s => ⟨[(1, .slice q l.length cap), (3, .pointer (some ⟨L, 0, none⟩)), (6, .pointer (some ⟨L + 1, 0, none⟩)), (9, .pointer (some ⟨T, 0, none⟩)), (11, .pointer (some ⟨Q, 0, none⟩)), (12, .pointer (some ⟨R, 0, none⟩))], []⟩,
    fun s Y => Y.heap[R]? = some (.cells (qC p.name (.slice s.1 p.locs.length s.2.1) (.slice s.2.2.1 p.init.length s.2.2.2) (.slice none 0 0) p.ask).toArray 29 (0, 0)) ∧ OwnS namE 9 (R + 1) Y s.1 s.2.1 p.locs ∧ OwnS byteE 5 (R + 1) Y s.2.2.1 s.2.2.2 p.init ∧ Below R V Y, ?_, ?_⟩
  · refine ⟨Nat × Option Addr × Nat × Option Addr × Nat, fun s => ⟨[(1, .slice q l.length cap), (3, .pointer (some ⟨L, 0, none⟩)), (6, .pointer (some ⟨L + 1, 0, none⟩)), (9, .pointer (some ⟨T, 0, none⟩)), (11, .pointer (some ⟨Q, 0, none⟩)), (12, .pointer (some ⟨R, 0, none⟩)), (52, .slice q2 (iotaL p.locs.length).length cap2), (53, i64 (iotaL p.locs.length).length), (54, i64 (s.1 : Nat))], []⟩,
      fun s Y => s.1 ≤ p.locs.length ∧ Y.heap[R]? = some (.cells (qC p.name (.slice s.2.1 (p.locs.take s.1).length s.2.2.1) (.slice s.2.2.2.1 (p.init.take s.1).length s.2.2.2.2) (.slice none 0 0) p.ask).toArray 29 (0, 0)) ∧ OwnS namE 9 (R + 1) Y s.2.1 s.2.2.1 (p.locs.take s.1) ∧ OwnS byteE 5 (R + 1) Y s.2.2.2.1 s.2.2.2.2 (p.init.take s.1) ∧ Below R V Y, fun s => p.locs.length - s.1, (0, none, 0, none, 0),
      ⟨.cons rfl (.cons rfl (.cons rfl (.cons rfl (.cons rfl (.cons rfl (.cons rfl (.cons rfl (.cons rfl .nil)))))))), rfl⟩, ⟨Nat.zero_le _, fR, OwnS.nil, OwnS.nil, Below.refl _ _⟩, ?_⟩
    rintro ⟨k, a1, d1, a2, d2⟩ Y ⟨hk, gR, o1, o2, hbY⟩
    dsimp only at hk gR o1 o2 ⊢
    have hYs := hbY.size
    refine And.intro (fun hc => ?_) (fun hc => ?_)
    · have hc : (k : Int) < ((iotaL p.locs.length).length : Int) := of_decide_eq_true hc
      rw [iota_length] at hc
      have hkl : k < p.locs.length := by omega
      have hki : k < p.init.length := by rw [hO.init]; exact hkl
      have hkq : k < (iotaL p.locs.length).length := by rw [iota_length]; exact hkl
      have hbwR : Below w.heap.size w Y := hbV.trans (hbY.mono (by omega))
      obtain ⟨bq, oq, hq2, hbq, hat⟩ := hlo.at hkq
      subst hq2
      refine ⟨k, rfl, hkq, ?_⟩
      refine ⟨i64 (k : Nat), by
        have h9 := cells_at (cells_below hbwR (hat k hkq)) (i := 0) (v := i64 (iotaL p.locs.length)[k]) rfl
        rw [iota_at hkq] at h9; exact h9, ?_⟩
      refine DrawE.ord [8, 10] [0, 1, 2, 3, 4, 5, 6, 7, 8, 9, 10] (by kernel_rfl) ?_
      have hbd : Below Y.heap.size Y Y.drew := (Below.refl _ Y).drew
      have g0 : Y.drew.heap[L]? = some (.cells pc.toArray 29 (0, 0)) := (hbY.block L (by omega)).trans f0
      obtain ⟨bn, on, hpn, hatn⟩ := (r1.below (hbwR.drew.mono hB)).get
      rcases hpn with hpn | hpn
      · omega
      refine ⟨_, cells_at (cells_block (hdr gR)) (i := 1) rfl, ?_⟩
      refine ⟨_, cells_at (cells_block g0) (i := 1) (by rw [epc]; rfl), ?_⟩
      subst hpn
      refine ⟨k, rfl, hkl, ?_⟩
      refine ⟨strV p.locs[k], cells_at (hatn k hkl).2 (i := 0) rfl, ?_⟩
      refine ⟨⟨by decide, by decide, rfl⟩, [strV p.locs[k]], rfl, ?_⟩
      have hba : Below Y.drew.heap.size Y.drew (Y.drew.alloc (.cells (namE.enc p.locs[k]).toArray 9)) := (Below.refl _ _).alloc (Nat.le_refl _) _
      refine ⟨hba, ?_⟩
      have sYd : Y.drew.heap.size = Y.heap.size := rfl
      refine app_own (E := namE) (T := 9) (B := R + 1) (l := p.locs.take k) (news := [p.locs[k]]) (cap := d1) (m := 1) Tryz.underlying22 (ttOk.get 9 _ rfl) rfl rfl rfl (o1.drew.below hba) rfl (one_new namE p.locs[k]) (by rw [World.size_alloc]; omega) (by rw [List.length_take]; omega) (by show (_ + 1) * 16 ≤ _; rw [List.length_take]; omega) ?_
      intro a3 d3 Z oZ gZ hbZ hatZ
      have oZ : OwnS namE 9 (R + 1) Z a3 d3 (p.locs.take (k + 1)) := by rw [List.take_succ_eq_append_getElem hkl]; exact oZ
      have sa : (Y.drew.alloc (.cells (namE.enc p.locs[k]).toArray 9)).heap.size = Y.heap.size + 1 := World.size_alloc _ _
      have hb1 : Below (R + 1) Y Z := ((Below.refl (R + 1) Y).drew.trans (hba.mono (by omega))).trans hbZ
      have keepZ : ∀ j, j ≤ R → Z.heap[j]? = Y.heap[j]? := fun j hj => hb1.block j (by omega)
      have hZR : Z.heap[R]? = some (.cells (qC p.name (.slice a1 (p.locs.take k).length d1) (.slice a2 (p.init.take k).length d2) (.slice none 0 0) p.ask).toArray 29 (0, 0)) := (keepZ R (Nat.le_refl _)).trans gR
      have oZ2 : OwnS byteE 5 (R + 1) Z a2 d2 (p.init.take k) := (o2.drew.below hba).kept gZ (own_ne o1 o2 (by decide))
      have hslen : (p.locs.take k ++ [p.locs[k]]).length = (p.locs.take (k + 1)).length := by rw [List.take_succ_eq_append_getElem hkl]
      rw [hslen]
      refine store_one (ttOk.get 22 _ rfl) hZR (o := 0 + 1) (v := .slice a3 (p.locs.take (k + 1)).length d3) rfl rfl (by show 1 < 10; decide) rfl fun Y2 gR2 gY2 sY2 => ?_
      have hsz2 : R + 1 ≤ Y2.heap.size := by have := hb1.size; omega
      have hb2 : Below R Y Y2 := (hb1.mono (by omega)).trans (below_grown gY2 (by have := hb1.size; omega) (Nat.le_refl _))
      have n1 : ∀ g, a3 = some ⟨g, 0, none⟩ → some R ≠ some g := fun g hg e => by
        have : R + 1 ≤ g := (own_lt oZ hg).1
        simp only [Option.some.injEq] at e
        omega
      have n2 : ∀ g, a2 = some ⟨g, 0, none⟩ → some R ≠ some g := fun g hg e => by
        have : R + 1 ≤ g := (own_lt oZ2 hg).1
        simp only [Option.some.injEq] at e
        omega
      have o3 := oZ.kept gY2 n1
      have o4 := oZ2.kept gY2 n2
      have gR2 : Y2.heap[R]? = some (.cells (qC p.name (.slice a3 (p.locs.take (k + 1)).length d3) (.slice a2 (p.init.take k).length d2) (.slice none 0 0) p.ask).toArray 29 (0, 0)) := gR2
      have hbY2 : Below R V Y2 := hbY.trans hb2
      clear hb2 gY2 n1 n2 oZ oZ2 hZR keepZ hb1 gZ hbZ hatZ hslen hba
      refine DrawE.ord [8, 10] [0, 1, 2, 3, 4, 5, 6, 7, 8, 9, 10] (by kernel_rfl) ?_
      have hbw2 : Below w.heap.size w Y2 := hbV.trans (hbY2.mono (by omega))
      have g2 : Y2.drew.heap[L]? = some (.cells pc.toArray 29 (0, 0)) := (hbY2.block L (by omega)).trans f0
      obtain ⟨bi, oi, hpi, hati⟩ := (r2.below (hbw2.drew.mono hB)).get
      rcases hpi with hpi | hpi
      · omega
      refine ⟨_, cells_at (cells_block (hdr gR2)) (i := 2) rfl, ?_⟩
      refine ⟨_, cells_at (cells_block g2) (i := 2) (by rw [epc]; rfl), ?_⟩
      subst hpi
      refine ⟨k, rfl, hki, ?_⟩
      refine ⟨u8 p.init[k], cells_at (hati k hki).2 (i := 0) rfl, ?_⟩
      refine ⟨⟨by decide, by decide, rfl⟩, [u8 p.init[k]], rfl, ?_⟩
      have hba2 : Below Y2.drew.heap.size Y2.drew (Y2.drew.alloc (.cells (byteE.enc p.init[k]).toArray 5)) := (Below.refl _ _).alloc (Nat.le_refl _) _
      refine ⟨hba2, ?_⟩
      have sY2d : Y2.drew.heap.size = Y2.heap.size := rfl
      refine app_own (E := byteE) (T := 5) (B := R + 1) (l := p.init.take k) (news := [p.init[k]]) (cap := d2) (m := 1) Tryz.underlying23 (ttOk.get 5 _ rfl) rfl rfl rfl (o4.drew.below hba2) rfl (one_new byteE p.init[k]) (by rw [World.size_alloc]; omega) (by rw [List.length_take]; omega) (by show (_ + 1) * 1 ≤ _; rw [List.length_take]; omega) ?_
      intro a4 d4 Z oZ gZ hbZ hatZ
      have oZ : OwnS byteE 5 (R + 1) Z a4 d4 (p.init.take (k + 1)) := by rw [List.take_succ_eq_append_getElem hki]; exact oZ
      have hb1 : Below (R + 1) Y2 Z := ((Below.refl (R + 1) Y2).drew.trans (hba2.mono (by omega))).trans hbZ
      have hZR : Z.heap[R]? = some (.cells (qC p.name (.slice a3 (p.locs.take (k + 1)).length d3) (.slice a2 (p.init.take k).length d2) (.slice none 0 0) p.ask).toArray 29 (0, 0)) := (hb1.block R (by omega)).trans gR2
      have oZ2 : OwnS namE 9 (R + 1) Z a3 d3 (p.locs.take (k + 1)) := (o3.drew.below hba2).kept gZ (own_ne o4 o3 (by decide))
      have hslen : (p.init.take k ++ [p.init[k]]).length = (p.init.take (k + 1)).length := by rw [List.take_succ_eq_append_getElem hki]
      rw [hslen]
      refine store_one (ttOk.get 23 _ rfl) hZR (o := 0 + 2) (v := .slice a4 (p.init.take (k + 1)).length d4) rfl rfl (by show 2 < 10; decide) rfl fun Y3 gR3 gY3 sY3 => ?_
      have hb3 : Below R Y2 Y3 := (hb1.mono (by omega)).trans (below_grown gY3 (by have := hb1.size; omega) (Nat.le_refl _))
      have n1 : ∀ g, a4 = some ⟨g, 0, none⟩ → some R ≠ some g := fun g hg e => by
        have : R + 1 ≤ g := (own_lt oZ hg).1
        simp only [Option.some.injEq] at e
        omega
      have n2 : ∀ g, a3 = some ⟨g, 0, none⟩ → some R ≠ some g := fun g hg e => by
        have : R + 1 ≤ g := (own_lt oZ2 hg).1
        simp only [Option.some.injEq] at e
        omega
      refine ⟨_, (wrap_i64 (by omega)).trans rfl, ?_⟩
      exact ⟨(k + 1, a3, d3, a4, d4), ⟨.cons rfl (.cons rfl (.cons rfl (.cons rfl (.cons rfl (.cons rfl (.cons rfl (.cons rfl (.cons rfl .nil)))))))), rfl⟩, ⟨hkl, gR3, oZ2.kept gY3 n2, oZ.kept gY3 n1, hbY2.trans hb3⟩, by show p.locs.length - (k + 1) < p.locs.length - k; omega⟩
    · have hc : ¬ (k : Int) < ((iotaL p.locs.length).length : Int) := of_decide_eq_false hc
      rw [iota_length] at hc
      obtain rfl : k = p.locs.length := by omega
      rw [List.take_length] at gR o1
      have e : p.init.take p.locs.length = p.init := by rw [← hO.init, List.take_length]
      rw [e] at gR o2
      exact ⟨(a1, d1, a2, d2), ⟨.cons rfl (.cons rfl (.cons rfl (.cons rfl (.cons rfl (.cons rfl .nil))))), rfl⟩, gR, o1, o2, hbY⟩
  clear fR
  rintro ⟨a1, d1, a2, d2⟩ U ⟨fR, o1, o2, hbU⟩
  dsimp only at fR o1 o2 ⊢
  have hUs := hbU.size
  refine ⟨List ThrR × Option Addr × Nat, fun s => ⟨[(3, .pointer (some ⟨L, 0, none⟩)), (6, .pointer (some ⟨L + 1, 0, none⟩)), (9, .pointer (some ⟨T, 0, none⟩)), (11, .pointer (some ⟨Q, 0, none⟩)), (12, .pointer (some ⟨R, 0, none⟩))], []⟩,
    fun s Y => s.1.map (·.1) = pickL [] p.threads l ∧ Y.heap[R]? = some (.cells (qC p.name (.slice a1 p.locs.length d1) (.slice a2 p.init.length d2) (.slice s.2.1 s.1.length s.2.2) p.ask).toArray 29 (0, 0)) ∧ OwnS namE 9 (R + 1) Y a1 d1 p.locs ∧ OwnS byteE 5 (R + 1) Y a2 d2 p.init ∧ OwnS thrE 166 (R + 1) Y s.2.1 s.2.2 s.1 ∧ (∀ x ∈ s.1, InsB (R + 1) Y x) ∧ Below R V Y, ?_, ?_⟩
  · refine ⟨Nat × List ThrR × Option Addr × Nat, fun s => ⟨[(3, .pointer (some ⟨L, 0, none⟩)), (6, .pointer (some ⟨L + 1, 0, none⟩)), (9, .pointer (some ⟨T, 0, none⟩)), (11, .pointer (some ⟨Q, 0, none⟩)), (12, .pointer (some ⟨R, 0, none⟩)), (79, .slice q l.length cap), (80, i64 l.length), (81, i64 (s.1 : Nat))], []⟩,
      fun s Y => (s.1 ≤ l.length ∧ s.2.1.map (·.1) = pickL [] p.threads (l.take s.1)) ∧ Y.heap[R]? = some (.cells (qC p.name (.slice a1 p.locs.length d1) (.slice a2 p.init.length d2) (.slice s.2.2.1 s.2.1.length s.2.2.2) p.ask).toArray 29 (0, 0)) ∧ OwnS namE 9 (R + 1) Y a1 d1 p.locs ∧ OwnS byteE 5 (R + 1) Y a2 d2 p.init ∧ OwnS thrE 166 (R + 1) Y s.2.2.1 s.2.2.2 s.2.1 ∧ (∀ x ∈ s.2.1, InsB (R + 1) Y x) ∧ Below R V Y, fun s => l.length - s.1, (0, [], none, 0),
      ⟨.cons rfl (.cons rfl (.cons rfl (.cons rfl (.cons rfl (.cons rfl (.cons rfl (.cons rfl .nil))))))), rfl⟩, ⟨⟨Nat.zero_le _, rfl⟩, fR, o1, o2, OwnS.nil, (fun x hx => by cases hx), hbU⟩, ?_⟩
    clear fR o1 o2 hbU hUs
    rintro ⟨k, ts, a3, d3⟩ Y ⟨⟨hk, hts⟩, gR, o1, o2, o3, hin, hbY⟩
    dsimp only at hk hts gR o1 o2 o3 hin ⊢
    have hYs := hbY.size
    have htl : ts.length = k := by
      have := congrArg List.length hts
      rw [List.length_map] at this
      unfold pickL at this
      rw [List.length_map, List.length_take] at this
      omega
    refine And.intro (fun hc => ?_) (fun hc => ?_)
    · have hc : (k : Int) < (l.length : Int) := of_decide_eq_true hc
      have hkl : k < l.length := by omega
      have hbwY : Below w.heap.size w Y := hbV.trans (hbY.mono (by omega))
      obtain ⟨bl, ol, hql, hbl, hat⟩ := hl.at hkl
      subst hql
      obtain ⟨x0, x1⟩ := hlr _ (List.getElem_mem hkl)
      refine ⟨k, rfl, hkl, ?_⟩
      refine ⟨_, cells_at (cells_below hbwY (hat k hkl)) (i := 0) rfl, ?_⟩
      have g0 : Y.heap[L]? = some (.cells pc.toArray 29 (0, 0)) := (hbY.block L (by omega)).trans f0
      have hxk : l[k].toNat < xs.length := by omega
      obtain ⟨bt, ot, hpt, hatt⟩ := (r3.below (hbwY.mono hB)).get
      rcases hpt with hpt | hpt
      · omega
      subst hpt
      refine ⟨_, cells_at (cells_block g0) (i := 3) (by rw [epc]; rfl), ?_⟩
      refine ⟨l[k].toNat, by omega, by omega, ?_⟩
      refine ⟨thrV xs[l[k].toNat], cells_at (hatt _ hxk).2 (i := 0) rfl, ?_⟩
      have hxm : xs[l[k].toNat] ∈ xs := List.getElem_mem hxk
      have hmem : xs[l[k].toNat].1 ∈ p.threads := by rw [← hxs]; exact List.mem_map_of_mem hxm
      obtain ⟨hl12, hins⟩ := hO.thread _ hmem
      have hrow := ((r3' _ hxm).below (hbwY.mono hB)).slr (Nat.le_trans hB hbwY.size)
      refine Calls.mono (Clone_ins_c hrow (by omega)) ?_
      rintro e Z ⟨⟨il, iq, ic⟩, rfl, hil, hIB, hbZ⟩
      dsimp only at hil hIB ⊢
      subst hil
      have hbYZ : Below R V Z := hbY.trans (hbZ.mono (by omega))
      have hCZ : ∀ {W : World}, Below R V W → ∃ b, W.heap[Q]? = some (.cells #[.slice (some ⟨b, 0, none⟩) p.locs.length p.locs.length] 23 (0, 0)) ∧ W.heap[b]? = some (.cells ((iotaL p.locs.length).map b8).toArray 5 (0, 0)) := by
        intro W hW
        obtain ⟨b, c1, c2⟩ := hCq.q
        exact ⟨b, (hW.block Q (by rw [hR]; exact hlt c1)).trans (by rw [hCV.block Q (hlt c1)]; exact c1), (hW.block b (by rw [hR]; exact hlt c2)).trans (by rw [hCV.block b (hlt c2)]; exact c2)⟩
      have hGZ : ∀ {W : World}, Below R V W → GlobC W := fun {W} hW => by
        have h1 : Below w.heap.size w W := hbV.trans (hW.mono (by omega))
        exact hG.below h1
      refine ⟨Nat, fun j => ⟨[(3, .pointer (some ⟨L, 0, none⟩)), (6, .pointer (some ⟨L + 1, 0, none⟩)), (9, .pointer (some ⟨T, 0, none⟩)), (11, .pointer (some ⟨Q, 0, none⟩)), (12, .pointer (some ⟨R, 0, none⟩)), (17, .slice iq xs[l[k].toNat].1.length ic), (79, .slice (some ⟨bl, ol, none⟩) l.length cap), (80, i64 l.length), (81, i64 (k : Nat)), (92, i64 xs[l[k].toNat].1.length), (93, i64 (j : Nat))], []⟩,
        fun j W => j ≤ xs[l[k].toNat].1.length ∧ Below Z.heap.size Z W, fun j => xs[l[k].toNat].1.length - j, 0,
        ⟨.cons rfl (.cons rfl (.cons rfl (.cons rfl (.cons rfl (.cons rfl (.cons rfl (.cons rfl (.cons rfl (.cons rfl (.cons rfl .nil)))))))))), rfl⟩, ⟨Nat.zero_le _, Below.refl _ _⟩, ?_⟩
      rintro j W ⟨hj, hbW⟩
      dsimp only at hj ⊢
      have hZs := hbZ.size
      have hbRW : Below R V W := hbYZ.trans (hbW.mono (by omega))
      have hIW : InsB Y.heap.size W (xs[l[k].toNat].1, iq, ic) := hIB.same fun b hb => by
        rcases hIB with ⟨h1, _⟩ | ⟨b', cur, h1, _, h3, _⟩
        · rw [h1] at hb; cases hb
        · rw [h1] at hb
          simp only [Option.some.injEq, Addr.mk.injEq, and_true] at hb
          subst hb
          exact hbW.block _ (hlt h3)
      refine And.intro (fun hc2 => ?_) (fun hc2 => ?_)
      · have hc2 : (j : Int) < (xs[l[k].toNat].1.length : Int) := of_decide_eq_true hc2
        have hjl : j < xs[l[k].toNat].1.length := by omega
        obtain ⟨x, hx⟩ : ∃ x, x = xs[l[k].toNat].1[j] := ⟨_, rfl⟩
        obtain ⟨hop, hloc⟩ := hins x (by rw [hx]; exact List.getElem_mem hjl)
        rcases id hIW with ⟨_, h0⟩ | ⟨b, cur, hiq, hbb, hcur, hct⟩
        · rw [h0] at hjl; simp at hjl
        dsimp only at hiq hct
        obtain ⟨b', o', hsl, hbx, hatx⟩ := hIW.row.at hjl
        dsimp only at hsl hatx
        rw [hiq] at hsl
        simp only [Option.some.injEq, Addr.mk.injEq, and_true] at hsl
        obtain ⟨rfl, rfl⟩ := hsl
        subst hiq
        have hcx : Cells W ⟨b, 0 + j * 10, none⟩ (insE.enc x) := by rw [hx]; exact hatx j hjl
        refine ⟨j, rfl, hjl, ?_⟩
        refine ⟨_, cells_at hcx (i := 0) rfl, ?_⟩
        refine ⟨x.op.toNat, rfl, (by show x.op.toNat < 9; omega), ?_⟩
        have hn : (needL.map u8)[x.op.toNat]? = some (u8 (needL.getD x.op.toNat 0)) := by
          have hl9 : x.op.toNat < needL.length := by show _ < 9; omega
          rw [List.getElem?_map, List.getElem?_eq_getElem hl9, List.getD_eq_getElem?_getD, List.getElem?_eq_getElem hl9]; rfl
        refine ⟨u8 (needL.getD x.op.toNat 0), by rw [Nat.mul_one]; exact cells_at (hGZ hbRW) hn, ?_⟩
        refine ⟨((needL.getD x.op.toNat 0 &&& 2).toNat : Int), u8_and (needL.getD x.op.toNat 0) 2, ?_⟩
        refine And.intro (fun hh => ?_) (fun hh => ?_)
        · have hh : hasL x.op 2 = true := by
            unfold hasL
            rw [← u8d]; exact hh
          have hlc := hloc hh
          refine DrawE.ord [12] [0, 1, 2, 3, 4, 5, 6, 7, 8, 9, 10, 11, 12] (by kernel_rfl) ?_
          obtain ⟨bq, g1, g2⟩ := hCZ hbRW.drew
          refine ⟨_, cells_at (cells_block g1) (i := 0) rfl, ?_⟩
          refine ⟨j, rfl, hjl, ?_⟩
          refine ⟨_, cells_at (cells_below ((Below.refl _ W).drew) hcx) (i := 2) rfl, ?_⟩
          refine ⟨x.loc.toNat, rfl, hlc, ?_⟩
          refine ⟨b8 (x.loc.toNat : Nat), by
            have h3 := b8_at (to := iotaL p.locs.length) (i := x.loc.toNat) (by rw [iota_length]; exact hlc)
            rw [iota_get hlc] at h3
            have := cells_at (cells_block g2) h3; rw [Nat.mul_one]; exact this, ?_⟩
          refine ⟨j, rfl, hjl, ?_⟩
          have hcur' : W.drew.heap[b]? = some (.cells cur.toList.toArray 170 (0, 0)) := by
            rw [Array.toArray_toList]; exact hcur
          have hcsz : xs[l[k].toNat].1.length * 10 ≤ cur.toList.length := by
            have := congrArg List.length hct
            rw [List.length_take, flat_len] at this
            have e10 : insE.sz = 10 := rfl
            rw [e10] at this
            omega
          have hi2 : 0 + j * 10 + 2 < cur.toList.length := by omega
          have hval : cur.toList[0 + j * 10 + 2]? = some (b8 (x.loc.toNat : Nat)) := by
            have h4 := cells_at hcx (i := 2) (v := u8 x.loc) rfl
            have h5 : W.heap[b]? = some (.cells cur.toList.toArray 170 (0, 0)) := by rw [Array.toArray_toList]; exact hcur
            have h6 := cells_at (cells_block h5) (List.getElem?_eq_getElem hi2)
            rw [List.getElem?_eq_getElem hi2]
            rw [Nat.zero_add] at h6
            have h7 := h6.symm.trans h4
            exact h7
          refine store_one (ttOk.get 5 _ rfl) hcur' (o := 0 + j * 10 + 2) (v := b8 (x.loc.toNat : Nat)) rfl rfl hi2 rfl fun W2 f2 gr2 s2 => ?_
          have hset : cur.toList.set (0 + j * 10 + 2) (b8 (x.loc.toNat : Nat)) = cur.toList := by
            apply List.ext_getElem?
            intro i
            by_cases h8 : 0 + j * 10 + 2 = i
            · subst h8; rw [List.getElem?_set_self hi2, hval]
            · rw [List.getElem?_set_ne h8]
          rw [hset, Array.toArray_toList] at f2
          have hbW2 : Below Z.heap.size Z W2 := hbW.trans ⟨gr2.os, gr2.tape, gr2.output, gr2.size, fun i hi => by
            by_cases h8 : i = b
            · subst h8; rw [f2]; exact hcur.symm
            · exact gr2.block i (Nat.lt_of_lt_of_le hi hbW.size) (by simp; exact fun e => h8 e)⟩
          refine ⟨_, (wrap_i64 (by omega)).trans rfl, ?_⟩
          exact ⟨j + 1, ⟨.cons rfl (.cons rfl (.cons rfl (.cons rfl (.cons rfl (.cons rfl (.cons rfl (.cons rfl (.cons rfl (.cons rfl (.cons rfl .nil)))))))))), rfl⟩, ⟨hjl, hbW2⟩, by show xs[l[k].toNat].1.length - (j + 1) < xs[l[k].toNat].1.length - j; omega⟩
        · refine ⟨_, (wrap_i64 (by omega)).trans rfl, ?_⟩
          exact ⟨j + 1, ⟨.cons rfl (.cons rfl (.cons rfl (.cons rfl (.cons rfl (.cons rfl (.cons rfl (.cons rfl (.cons rfl (.cons rfl (.cons rfl .nil)))))))))), rfl⟩, ⟨hjl, hbW⟩, by show xs[l[k].toNat].1.length - (j + 1) < xs[l[k].toNat].1.length - j; omega⟩
      · have hc2 : ¬ (j : Int) < (xs[l[k].toNat].1.length : Int) := of_decide_eq_false hc2
        have gRW : W.heap[R]? = some (.cells (qC p.name (.slice a1 p.locs.length d1) (.slice a2 p.init.length d2) (.slice a3 ts.length d3) p.ask).toArray 29 (0, 0)) := (hbW.block R (by omega)).trans ((hbZ.block R (by omega)).trans gR)
        have hYW : Below Y.heap.size Y W := hbZ.trans (hbW.mono hbZ.size)
        have hWs := hYW.size
        refine ⟨_, cells_at (cells_block gRW) (i := 3) rfl, ?_⟩
        obtain ⟨new, hnew'⟩ : ∃ new : ThrR, new = (xs[l[k].toNat].1, iq, ic) := ⟨_, rfl⟩
        refine ⟨⟨by decide, by decide, rfl⟩, thrE.enc new, by subst hnew'; exact (rfl : some _ = some _), ?_⟩
        have hba : Below W.heap.size W (W.alloc (.cells (thrE.enc new).toArray 166)) := (Below.refl _ _).alloc (Nat.le_refl _) _
        have hYa : Below Y.heap.size Y (W.alloc (.cells (thrE.enc new).toArray 166)) := hYW.trans (hba.mono hYW.size)
        have sa : (W.alloc (.cells (thrE.enc new).toArray 166)).heap.size = W.heap.size + 1 := World.size_alloc _ _
        refine app_own (E := thrE) (T := 166) (B := R + 1) (l := ts) (news := [new]) (cap := d3) (m := 1) Tryz.underlying24 (ttOk.get 166 _ rfl) rfl rfl rfl (o3.below hYa) rfl (one_new thrE new) (by omega) (by omega) (by show (ts.length + 1) * 24 ≤ _; omega) ?_
        intro a4 d4 W2 oW gW hbW2 hatW
        have hb2 : Below (R + 1) Y W2 := (hYa.mono (by omega)).trans hbW2
        have gR2 : W2.heap[R]? = some (.cells (qC p.name (.slice a1 p.locs.length d1) (.slice a2 p.init.length d2) (.slice a3 ts.length d3) p.ask).toArray 29 (0, 0)) := (hb2.block R (by omega)).trans gR
        have n1 := (o1.below hYa).kept gW (own_ne o3 o1 (by decide))
        have n2 := (o2.below hYa).kept gW (own_ne o3 o2 (by decide))
        have keepI : ∀ (b : Nat) (cur : Array Value), W.heap[b]? = some (Obj.cells cur 170 (0, 0)) → W2.heap[b]? = W.heap[b]? := fun b cur hb => by
          have hb' : (W.alloc (.cells (thrE.enc new).toArray 166)).heap[b]? = some (Obj.cells cur 170 (0, 0)) := hold _ hb
          refine (gW.block b (hlt hb') fun e => ?_).trans (hb'.trans hb.symm)
          rcases (o3.below hYW).inv with ⟨h1, _⟩ | ⟨g, cu, h1, _, h2, _⟩
          · rw [h1] at e; simp [Value.ownBlock] at e
          · rw [h1] at e
            simp only [Value.ownBlock, Option.some.injEq] at e
            rw [e] at hb
            rw [hb] at h2
            simp at h2
        have insW : ∀ x ∈ ts ++ [new], InsB (R + 1) W2 x := fun x hx => by
          have h0 : InsB (R + 1) W x := by
            rcases List.mem_append.1 hx with hx | hx
            · refine (hin x hx).same fun b hb => ?_
              rcases hin x hx with ⟨h1, _⟩ | ⟨b', cur, h1, _, h3, _⟩
              · rw [h1] at hb; cases hb
              · rw [h1] at hb
                simp only [Option.some.injEq, Addr.mk.injEq, and_true] at hb
                subst hb
                exact hYW.block _ (hlt h3)
            · simp only [List.mem_singleton] at hx
              rw [hx, hnew']
              rcases hIW with h | ⟨b, cur, h1, h2, h3, h4⟩
              · exact .inl h
              · exact .inr ⟨b, cur, h1, by omega, h3, h4⟩
          refine h0.same fun b hb => ?_
          rcases h0 with ⟨h1, _⟩ | ⟨b', cur, h1, _, h3, _⟩
          · rw [h1] at hb; cases hb
          · rw [h1] at hb
            simp only [Option.some.injEq, Addr.mk.injEq, and_true] at hb
            subst hb
            exact keepI _ _ h3
        have hW2s : R + 1 ≤ W2.heap.size := by have := hb2.size; omega
        refine store_one (ttOk.get 24 _ rfl) gR2 (o := 0 + 3) (v := .slice a4 (ts ++ [new]).length d4) rfl rfl (by show 3 < 10; decide) rfl fun Y3 gR3 gY3 sY3 => ?_
        have hb3 : Below R Y Y3 := (hb2.mono (by omega)).trans (below_grown gY3 (by omega) (Nat.le_refl _))
        have ne : ∀ {α : Type} {E : Enc α} {T' cap' : Nat} {p' : Option Addr} {l' : List α}, OwnS E T' (R + 1) W2 p' cap' l' → ∀ g, p' = some ⟨g, 0, none⟩ → some R ≠ some g := fun o g hg e => by
          have : R + 1 ≤ g := (own_lt o hg).1
          simp only [Option.some.injEq] at e
          omega
        refine ⟨_, (wrap_i64 (by omega)).trans rfl, ?_⟩
        refine ⟨(k + 1, ts ++ [new], a4, d4), ⟨.cons rfl (.cons rfl (.cons rfl (.cons rfl (.cons rfl (.cons rfl (.cons rfl (.cons rfl .nil))))))), rfl⟩, ⟨⟨hkl, ?_⟩, gR3, n1.kept gY3 (ne n1), n2.kept gY3 (ne n2), oW.kept gY3 (ne oW), fun x hx => (insW x hx).same fun b hb => gY3.block b ?_ ?_, hbY.trans hb3⟩, by show l.length - (k + 1) < l.length - k; omega⟩
        · rw [List.map_append, hts, List.take_succ_eq_append_getElem hkl]
          unfold pickL
          rw [List.map_append]
          congr 1
          rw [hnew']
          show [xs[l[k].toNat].1] = [p.threads.getD l[k].toNat []]
          rw [← hxs, List.getD_eq_getElem?_getD, List.getElem?_map, List.getElem?_eq_getElem hxk]; rfl
        · rcases insW x hx with ⟨h1, _⟩ | ⟨b', cur, h1, _, h3, _⟩
          · rw [h1] at hb; cases hb
          · rw [h1] at hb; cases hb; exact hlt h3
        · rcases insW x hx with ⟨h1, _⟩ | ⟨b', cur, h1, h2, h3, _⟩
          · rw [h1] at hb; cases hb
          · rw [h1] at hb; cases hb
            simp only [ne_eq, Option.some.injEq]; omega
    · have hc : ¬ (k : Int) < (l.length : Int) := of_decide_eq_false hc
      obtain rfl : k = l.length := by omega
      rw [List.take_length] at hts
      exact ⟨(ts, a3, d3), ⟨.cons rfl (.cons rfl (.cons rfl (.cons rfl (.cons rfl .nil)))), rfl⟩, hts, gR, o1, o2, o3, hin, hbY⟩
  clear fR o1 o2 hbU hUs
  rintro ⟨ts, a3, d3⟩ U ⟨hts, fR, o1, o2, o3, hin, hbU⟩
  dsimp only at hts fR o1 o2 o3 hin ⊢
  have hUs := hbU.size
  have hbwU : Below w.heap.size w U := hbV.trans (hbU.mono (by omega))
  have g0 : U.heap[L]? = some (.cells pc.toArray 29 (0, 0)) := (hbU.block L (by omega)).trans f0
  have g1 : U.heap[L + 1]? = some (.cells cs 29 (0, 0)) := (hbU.block (L + 1) (by omega)).trans f1
  have hCU : CloI T Q (backL l) p.locs.length U := by
    obtain ⟨⟨b, c1, c2⟩, ⟨c, c3, c4⟩, c5⟩ := hCq
    have k : ∀ {j : Nat} {o : Obj}, X.heap[j]? = some o → U.heap[j]? = some o := fun {j o} h => (hbU.block j (by rw [hR]; exact hlt h)).trans ((hCV.block j (hlt h)).trans h)
    exact ⟨⟨b, k c1, k c2⟩, ⟨c, k c3, k c4⟩, c5⟩
  have hcc : Cells U ⟨L, 5, none⟩ (cndCells p.cond p4 k4) := by
    have := cells_sub (n := 5) (m := 5) (cells_block g0)
    rw [epc] at this
    exact this
  refine ⟨cndCells p.cond p4 k4, rfl, hcc, hlt g0, ?_⟩
  refine Calls.mono (turnCond_c (B := B) (w0 := w) (th := p.threads.length) (by rw [backL_len, hll]) 20 U p.cond p4 k4 hO.cond r4 (hbwU.mono hB) (Nat.le_trans hB hbwU.size) hCU) ?_
  rintro e Z ⟨p5, k5, rfl, hK, hbZ⟩
  have fRZ := block_below hbZ fR
  refine store_part (ttOk.get 27 _ rfl) fRZ (o := 0 + 5) (v := .agg (cndCells (turnC (backL l) p.cond) p5 k5).toArray) rfl (by show 5 + 5 ≤ 10; decide) rfl fun Y gR gY sY => ?_
  obtain ⟨qc, hqc⟩ : ∃ qc, qc = prgCells (turnP l p) a1 d1 a2 d2 a3 d3 p5 k5 := ⟨_, rfl⟩
  have hpl : ts.length = (turnP l p).threads.length := by
    show _ = (pickL [] p.threads l).length
    rw [← hts, List.length_map]
  have gR : Y.heap[R]? = some (.cells qc.toArray 29 (0, 0)) := by
    rw [gR, hqc]
    unfold prgCells
    rw [← hpl]; rfl
  refine ⟨qc, by rw [hqc]; rfl, cells_block gR, hlt gR, ?_⟩
  have hone : qc.all Value.oneCell' = true := by rw [hqc]; rfl
  have g1Y : Y.heap[L + 1]? = some (.cells cs 29 (0, 0)) := (gY.block (L + 1) (hlt (block_below hbZ g1)) (by simp; omega)).trans (block_below hbZ g1)
  refine store_box (v := .agg qc.toArray) (ttOk.get 29 _ rfl) g1Y (by rw [hqc]; rfl) hcs hone ?_
  have f2 := setRow_new (cs' := (Value.agg qc.toArray).cells) g1Y
  refine ⟨qc, by rw [hqc]; rfl, cells_block f2, ?_⟩
  obtain ⟨W, hW⟩ : ∃ W, W = Y.setRow (L + 1) (Value.agg qc.toArray).cells := ⟨_, rfl⟩
  rw [← hW]
  have hZs := hbZ.size
  have sW : W.heap.size = Z.heap.size := by rw [hW]; simp; omega
  have oW : ∀ j, j ≠ R → j ≠ L + 1 → j < Z.heap.size → W.heap[j]? = Z.heap[j]? := fun j h1 h2 h3 => by
    rw [hW]
    exact (setRow_old h2).trans (gY.block j h3 (by simp; exact h1))
  have hbW : Below w.heap.size w W := by
    rw [hW]
    refine below_setRow ((hbwU.trans (hbZ.mono hbwU.size)).trans (below_grown gY ?_ (by omega))) (by omega) _
    have := hbwU.size
    omega
  refine ⟨qc, rfl, ?_, hone, hbW⟩
  intro Y0 hY0
  have oY : ∀ j, R + 1 ≤ j → j < Z.heap.size → Y0.heap[j]? = Z.heap[j]? := fun j h1 h2 => (hY0 j (by omega) (by omega)).trans (oW j (by omega) (by omega) h2)
  have row : ∀ {α : Type} {E : Enc α} {T' cap' : Nat} {p' : Option Addr} {l' : List α}, OwnS E T' (R + 1) U p' cap' l' → RowB E W.heap.size Y0 p' l' := fun {α E T' cap' p' l'} o => by
    rcases (o.below hbZ).inv with ⟨_, _, h0⟩ | ⟨g, cur, rfl, h1, h2, _, _, _, h4⟩
    · exact .inl h0
    · refine .inr ⟨g, 0, rfl, by have := hlt h2; omega, ?_⟩
      have h5 : Y0.heap[g]? = some (.cells cur.toList.toArray T' (0, 0)) := by rw [oY g h1 (hlt h2), Array.toArray_toList]; exact h2
      rw [← h4]
      exact cells_sub (n := 0) (m := l'.length * E.sz) (cells_block h5)
  refine ⟨⟨hlen.name, hlen.locs, hlen.loc, hlen.init, ?_, fun t ht => ?_⟩, a1, d1, a2, d2, a3, d3, p5, k5, hqc, row o1, row o2, ⟨ts, hts, row o3, fun x hx => ?_⟩, ?_, own_capG o1⟩
  · rw [← hpl]
    have := own_capG o3
    have h1 : ts.length = l.length := by
      have := congrArg List.length hts
      rw [List.length_map] at this
      rw [this]; unfold pickL; rw [List.length_map]
    omega
  · have ht : t ∈ pickL [] p.threads l := ht
    unfold pickL at ht
    obtain ⟨i, hi, rfl⟩ := List.mem_map.1 ht
    have := hlr i hi
    have h0 : i.toNat < p.threads.length := by omega
    rw [List.getD_eq_getElem?_getD, List.getElem?_eq_getElem h0]
    exact hlen.thread _ (List.getElem_mem h0)
  · rcases hin x hx with ⟨_, h0⟩ | ⟨b', cur, h1, h2, h3, h4⟩
    · exact .inl h0
    · have h3' := block_below hbZ h3
      refine .inr ⟨b', 0, h1, by have := hlt h3'; omega, ?_⟩
      have h5 : Y0.heap[b']? = some (.cells cur.toList.toArray 170 (0, 0)) := by rw [oY b' h2 (hlt h3'), Array.toArray_toList]; exact h3'
      rw [← h4]
      exact cells_sub (n := 0) (m := x.1.length * 10) (cells_block h5)
  · have h5 : KidsR U.heap.size Z.heap.size Y0 p5 (turnC (backL l) p.cond).kids := hK.same fun j h1 h2 => oY j (by omega) h2
    exact h5.v.wider (by omega)
end
end Go.Proofs.YthgmcegmgjoafaaGreatDoor
namespace Go.Proofs.YthgmcegmgjoafaaGreatDoor
open Go.Vc Go.RowKit Go.Sei
section
variable {B : Nat} {p : Prg} {g : Geo} {md : UInt8} {vs : List Value} {l : List Int} {q : Option Addr} {cap : Nat} {w : World}
theorem World_c (hB : B ≤ w.heap.size) (hw : WldV B w vs p g md) (hT : GlobT w) (h1 : vs.all Value.oneCell' = true) (hsl : SlR Go.Sei.intE w q l) (hf : (turnsL p g && suitsL g md l) = true) :
    Calls Tryz.prog 25 #[.agg vs.toArray, .slice q l.length cap] w fun e w' => ∃ vs' : List Value, e = .returned (.tuple #[.agg vs'.toArray, i64 0]) ∧ WldV w'.heap.size w' vs' (turnP l p) g md ∧ vs'.all Value.oneCell' = true ∧ Below w.heap.size w w' := by
  refine calls_of_M (S := sg 45) (sgOk _) (args := [.agg vs.toArray, .slice q l.length cap]) (.c .p (.s .p (.s .p (.c .p (.c .p .p))))) Tryz.func25 rfl rfl (Nat.le_of_ble_eq_true rfl) rfl ?_
  obtain ⟨n, hgc, hn1, hn4, hln, hr⟩ := fits_parts hf
  have hok : okPrg p = true ∧ permL l p.threads.length = true := by
    simp only [turnsL, suitsL, Bool.and_eq_true, decide_eq_true_eq] at hf
    exact ⟨hf.1.2.2, by rw [hf.1.2.1]; exact hf.2.1⟩
  have hO := okPrg_parts hok.1
  have hl6 := hO.locs
  obtain ⟨pc, rest, hvs, hp, hmd, hrest⟩ := id hw
  have hpl := hp.size
  have hge : g.enc.length = 5 := rfl
  obtain ⟨L, hL⟩ : ∃ L, L = w.heap.size := ⟨_, rfl⟩
  refine ⟨Unit, fun _ => ⟨[(1, .slice q l.length cap), (2, .pointer (some ⟨L, 0, none⟩)), (4, .pointer (some ⟨L + 1, 0, none⟩))], []⟩, fun _ X => X.heap[L]? = some (.cells vs.toArray 44 (0, 0)) ∧
    (∃ cs : Array Value, X.heap[L + 1]? = some (.cells cs 44 (0, 0)) ∧ cs.size = 585) ∧ X.heap.size = L + 2 ∧ Below w.heap.size w X, ?_, ?_⟩
  · obtain ⟨W1, hW1⟩ : ∃ W1, W1 = w.alloc (.cells vs.toArray 44) := ⟨_, rfl⟩
    have s1 : W1.heap.size = L + 1 := by rw [hW1, World.size_alloc, hL]
    have q1 : some (Value.pointer (some ⟨w.heap.size, 0, none⟩)) = some (Value.pointer (some ⟨L, 0, none⟩)) := by rw [hL]
    have q2 : some (Value.pointer (some ⟨W1.heap.size, 0, none⟩)) = some (Value.pointer (some ⟨L + 1, 0, none⟩)) := by rw [s1]
    rw [hW1] at q2
    refine ⟨(), ⟨.cons rfl (.cons q1 (.cons q2 .nil)), rfl⟩, ?_⟩
    have hM : ∀ cs : Array Value, cs.size = 585 → (W1.alloc (.cells cs 44)).heap[L]? = some (.cells vs.toArray 44 (0, 0)) ∧ (∃ cs' : Array Value, (W1.alloc (.cells cs 44)).heap[L + 1]? = some (.cells cs' 44 (0, 0)) ∧ cs'.size = 585) ∧ (W1.alloc (.cells cs 44)).heap.size = L + 2 ∧ Below w.heap.size w (W1.alloc (.cells cs 44)) := fun cs hcs => by
      refine ⟨hold _ ?_, ⟨cs, ?_, hcs⟩, by rw [World.size_alloc, s1], ?_⟩
      · rw [hW1, hL]; exact hnew w _
      · rw [← s1]; exact hnew W1 _
      · rw [hW1]; exact ((Below.refl _ w).alloc (Nat.le_refl _) _).alloc (by simp) _
    rw [hW1] at hM
    refine hM _ ?_
    kernel_rfl
  rintro _ X ⟨f0, ⟨cs, f1, hcs⟩, sX, hbX⟩
  refine ⟨vs, hw.len, cells_block f0, hlt f0, ?_⟩
  refine Calls.mono (FitsT_c (Nat.le_trans hB hbX.size) (hw.below (hbX.mono hB)) (hT.below hbX) h1 (hsl.below hbX) (by omega)) ?_
  rintro e V ⟨rfl, hbV⟩
  rw [hf]
  refine brF ?_
  replace f0 := block_below hbV f0
  replace f1 := block_below hbV f1
  replace hbX : Below w.heap.size w V := hbX.trans (hbV.mono hbX.size)
  have sV : L + 2 ≤ V.heap.size := by have := hbV.size; omega
  clear hbV sX
  obtain ⟨hlen, p1, k1, p2, k2, p3, k3, p4, k4, epc, _⟩ := id hp
  have cL : ∀ {W : World}, W.heap[L]? = some (.cells vs.toArray 44 (0, 0)) → Cells W ⟨L, 0, none⟩ pc := fun h => by
    have := cells_block h
    rw [hvs] at this
    exact (cells_app.1 this).1
  refine ⟨_, cells_at (cL f0) (i := 1) (by rw [epc]; rfl), ?_⟩
  refine make_zero Tryz.underlying46 (ttOk.get 3 _ rfl) rfl rfl (by decide) p.locs.length (by show 8 * _ ≤ _; omega) (by omega) fun U fU hbU sU => ?_
  obtain ⟨R, hR⟩ : ∃ R, R = V.heap.size := ⟨_, rfl⟩
  have qR : some (Value.slice (some ⟨V.heap.size, 0, none⟩) p.locs.length p.locs.length) = some (Value.slice (some ⟨R, 0, none⟩) p.locs.length p.locs.length) := by rw [hR]
  rw [← hR] at fU sU
  refine ⟨Unit, fun _ => ⟨[(1, .slice q l.length cap), (2, .pointer (some ⟨L, 0, none⟩)), (4, .pointer (some ⟨L + 1, 0, none⟩)), (6, .slice (some ⟨R, 0, none⟩) p.locs.length p.locs.length)], []⟩, fun _ Y => Y.heap[R]? = some (.cells ((iotaL p.locs.length).map i64).toArray 3 (0, 0)) ∧ Below R V Y, ?_, ?_⟩
  · refine ⟨Nat, fun k => ⟨[(1, .slice q l.length cap), (2, .pointer (some ⟨L, 0, none⟩)), (4, .pointer (some ⟨L + 1, 0, none⟩)), (6, .slice (some ⟨R, 0, none⟩) p.locs.length p.locs.length), (21, i64 p.locs.length), (22, i64 (k : Nat))], []⟩,
      fun k Y => k ≤ p.locs.length ∧ Y.heap[R]? = some (.cells ((iotaL k).map i64 ++ zrep [i64 0] (p.locs.length - k)).toArray 3 (0, 0)) ∧ Below R V Y, fun k => p.locs.length - k, 0,
      ⟨.cons rfl (.cons rfl (.cons rfl (.cons qR (.cons rfl (.cons rfl .nil))))), rfl⟩, ⟨Nat.zero_le _, fU, hbU.mono (by omega)⟩, ?_⟩
    rintro k Y ⟨hk, fY, hbY⟩
    dsimp only at hk fY ⊢
    refine And.intro (fun hc => ?_) (fun hc => ?_)
    · have hc : (k : Int) < (p.locs.length : Int) := of_decide_eq_true hc
      have hkl : k < p.locs.length := by omega
      refine ⟨k, rfl, hkl, ?_⟩
      have hlk : ((iotaL k).map i64).length = k := by rw [List.length_map, iota_length]
      refine store_one (ttOk.get 3 _ rfl) fY (o := 0 + k * 1) (v := i64 (k : Nat)) rfl rfl (by rw [List.length_append, hlk, zrep_len]; simp; omega) rfl fun Z fZ gZ sZ => ?_
      refine ⟨_, (wrap_i64 (by omega)).trans rfl, ?_⟩
      refine ⟨k + 1, ⟨.cons rfl (.cons rfl (.cons rfl (.cons rfl (.cons rfl (.cons rfl .nil))))), rfl⟩, ⟨hkl, ?_, hbY.trans (below_grown gZ (by have := hbY.size; omega) (Nat.le_refl _))⟩, by show p.locs.length - (k + 1) < p.locs.length - k; omega⟩
      rw [fZ]
      congr 2
      have e1 : zrep [i64 0] (p.locs.length - k) = i64 0 :: zrep [i64 0] (p.locs.length - (k + 1)) := by
        rw [show p.locs.length - k = (p.locs.length - (k + 1)) + 1 by omega]; rfl
      have e3 : 0 + k * 1 = ((iotaL k).map i64).length := by rw [hlk]; omega
      rw [e1, e3, set_next]
      congr 2
      unfold iotaL
      rw [List.range_succ, List.map_append, List.map_append]; rfl
    · have hc : ¬ (k : Int) < (p.locs.length : Int) := of_decide_eq_false hc
      obtain rfl : k = p.locs.length := by omega
      rw [Nat.sub_self] at fY
      refine ⟨(), ⟨.cons rfl (.cons rfl (.cons rfl (.cons rfl .nil))), rfl⟩, ?_, hbY⟩
      rw [fY]; congr 2; exact congrArg List.toArray (List.append_nil _)
  clear fU hbU sU qR
  rintro _ U ⟨fU, hbU⟩
  have sU : R + 1 ≤ U.heap.size := hlt fU
  have f0 : U.heap[L]? = some (.cells vs.toArray 44 (0, 0)) := (hbU.block L (by omega)).trans f0
  have f1 : U.heap[L + 1]? = some (.cells cs 44 (0, 0)) := (hbU.block (L + 1) (by omega)).trans f1
  replace hbX : Below w.heap.size w U := hbX.trans (hbU.mono (by omega))
  clear hbU
  refine ⟨List Value × Nat, fun s => ⟨[(2, .pointer (some ⟨L, 0, none⟩)), (4, .pointer (some ⟨L + 1, 0, none⟩)), (8, .pointer (some ⟨s.2, 0, none⟩)), (9, i64 0)], []⟩, fun s Y => (s.1.length = 10 ∧ s.1.all Value.oneCell' = true ∧ ∃ lo hi, L + 2 ≤ lo ∧ hi ≤ Y.heap.size ∧ ∀ Z : World, (∀ j, lo ≤ j → j < hi → Z.heap[j]? = Y.heap[j]?) → PrgV hi Z s.1 (turnP l p)) ∧ Y.heap[s.2]? = some (.cells s.1.toArray 29 (0, 0)) ∧ Y.heap[L]? = some (.cells vs.toArray 44 (0, 0)) ∧ Y.heap[L + 1]? = some (.cells cs 44 (0, 0)) ∧ Below w.heap.size w Y, ?_, ?_⟩
  · have hbd : Below U.heap.size U U.drew := (Below.refl _ U).drew
    have hlo : SlR Go.Sei.intE U (some ⟨R, 0, none⟩) (iotaL p.locs.length) := SlR.of_cells (hlt fU) (by rw [ints_map]; exact cells_block fU)
    have clone : ∀ X : World, Below U.heap.size U X → Calls Tryz.prog 64 #[.slice q l.length cap] X fun e w' => ∃ k c, e = .returned (.slice k l.length c) ∧ SlR Go.Sei.intE w' k l ∧ Below X.heap.size X w' := fun X hX =>
      Clone_ints_c (hsl.below (hbX.trans (hX.mono hbX.size))) (by omega) (by omega)
    have turn : ∀ (X : World) (k : Option Addr) (c : Nat), Below U.heap.size U X → SlR Go.Sei.intE X k l → Calls Tryz.prog 71 #[.agg pc.toArray, .slice k l.length c, .slice (some ⟨R, 0, none⟩) p.locs.length p.locs.length] X fun e w' => ∃ qc : List Value, e = .returned (.tuple #[.agg qc.toArray, i64 0]) ∧ PrgN X.heap.size w' qc (turnP l p) ∧ qc.all Value.oneCell' = true ∧ Below X.heap.size X w' := fun X k c hX hk => by
      have hwX : Below w.heap.size w X := hbX.trans (hX.mono hbX.size)
      have h := check_Turn_c (q2 := some ⟨R, 0, none⟩) (cap := c) (cap2 := p.locs.length) (Nat.le_trans hB hwX.size) (hp.below (hwX.mono hB)) (hT.below hwX).G hok.1 hk hok.2 (hlo.below hX)
      rw [iota_length] at h
      exact h
    have size10 : ∀ {lo : Nat} {W : World} {qc : List Value}, PrgN lo W qc (turnP l p) → qc.length = 10 := fun {lo W qc} h => (h W (fun _ _ _ => rfl)).size
    have put : ∀ (W : World) (qc : List Value) (bx lo hi : Nat) (cs' : Array Value), Below U.heap.size U W → L + 2 ≤ lo → hi ≤ W.heap.size → (∀ Z : World, (∀ j, lo ≤ j → j < hi → Z.heap[j]? = W.heap[j]?) → PrgV hi Z qc (turnP l p)) → qc.all Value.oneCell' = true → W.heap[bx]? = some (.cells cs' 29 (0, 0)) → U.heap.size ≤ bx → (bx < lo ∨ hi ≤ bx) → cs'.size = 10 → ∀ {K : World → Prop}, (∀ Y, ((qc.length = 10 ∧ qc.all Value.oneCell' = true ∧ ∃ lo hi, L + 2 ≤ lo ∧ hi ≤ Y.heap.size ∧ ∀ Z : World, (∀ j, lo ≤ j → j < hi → Z.heap[j]? = Y.heap[j]?) → PrgV hi Z qc (turnP l p)) ∧ Y.heap[bx]? = some (.cells qc.toArray 29 (0, 0)) ∧ Y.heap[L]? = some (.cells vs.toArray 44 (0, 0)) ∧ Y.heap[L + 1]? = some (.cells cs 44 (0, 0)) ∧ Below w.heap.size w Y) → K Y) →
        SatR ((storeVar 29 ⟨bx, 0, none⟩ (.agg qc.toArray)).run Tryz.prog W) fun _ w' => K w' := by
      intro W qc bx lo hi cs' hUW hlo2 hhi hN hone hbx hUb hne hcs' K k
      have h10 : qc.length = 10 := (hN W (fun _ _ _ => rfl)).size
      refine store_box (v := .agg qc.toArray) (ttOk.get 29 _ rfl) hbx (by show qc.length = 10; exact h10) hcs' hone ?_
      refine k _ ⟨⟨h10, hone, lo, hi, hlo2, by simp; exact hhi, fun Z hZ => hN Z fun j h2 h3 => (hZ j h2 h3).trans (setRow_old (by omega))⟩, setRow_new hbx, ?_, ?_, ?_⟩
      · exact (setRow_old (by omega)).trans ((hUW.block L (by omega)).trans f0)
      · exact (setRow_old (by omega)).trans ((hUW.block (L + 1) (by omega)).trans f1)
      · exact below_setRow (hbX.trans (hUW.mono hbX.size)) (by omega) _
    have z10 : ∀ {P : Array Value → Prop} {cs : Array Value}, cs.size = 10 → cs.size = 10 := fun h => h
    refine DrawE.treeQ [10] (.op 0 (.op 1 (.op 2 (.op 4 (.alt (.op 9 (.op 3 (.op 5 (.op 6 (.op 7 (.op 8 (.op 10 (.op 11 .nil)))))))) (.op 3 (.alt (.op 9 (.op 5 (.op 6 (.op 7 (.op 8 (.op 10 (.op 11 .nil))))))) (.op 5 (.op 6 (.op 7 (.op 8 (.op 9 (.op 10 (.op 11 .nil)))))))))))))) (by kernel_rfl) ?_
    refine ⟨pc, hpl, cL ((hbd.block L (by omega)).trans f0), by show L < U.heap.size; omega, ?_⟩
    have sUd : U.drew.heap.size = U.heap.size := rfl
    refine And.intro ?_ ?_
    · refine ⟨(Below.refl _ _).alloc (Nat.le_refl _) _, ?_⟩
      have hba : ∀ o : Obj, Below U.heap.size U (U.drew.alloc o) := fun o => hbd.alloc (Nat.le_refl _) _
      refine Calls.mono (clone _ (hba _)) ?_
      rintro e A ⟨k, c, rfl, hk, hbA⟩
      refine ⟨hbA, ?_⟩
      have hUA := (hba _).trans (hbA.mono (hba _).size)
      refine Calls.mono (turn A k c hUA hk) ?_
      rintro e W ⟨qc, rfl, hN, hone, hbW⟩
      refine ⟨hbW, ?_⟩
      have hfr := block_below hbW (block_below hbA (hnew U.drew _))
      have sA := hbA.size
      rw [World.size_alloc] at sA
      refine put W qc U.heap.size A.heap.size W.heap.size _ (hUA.trans (hbW.mono hUA.size)) (by omega) (Nat.le_refl _) hN hone hfr (Nat.le_refl _) (.inl (by omega)) rfl ?_
      intro Y hY
      exact ⟨(qc, U.heap.size), ⟨.cons rfl (.cons rfl (.cons rfl (.cons rfl .nil))), rfl⟩, hY⟩
    refine Calls.mono (clone _ hbd) ?_
    rintro e A ⟨k, c, rfl, hk, hbA⟩
    refine ⟨hbA, ?_⟩
    have hUA := hbd.trans (hbA.mono hbd.size)
    refine And.intro ?_ ?_
    · refine ⟨(Below.refl _ _).alloc (Nat.le_refl _) _, ?_⟩
      have hba : ∀ o : Obj, Below A.heap.size A (A.alloc o) := fun o => (Below.refl _ _).alloc (Nat.le_refl _) _
      have hUa : ∀ o : Obj, Below U.heap.size U (A.alloc o) := fun o => hUA.trans ((hba o).mono hUA.size)
      refine Calls.mono (turn _ k c (hUa _) (hk.below (hba _))) ?_
      rintro e W ⟨qc, rfl, hN, hone, hbW⟩
      refine ⟨hbW, ?_⟩
      have hfr := block_below hbW (hnew A _)
      have sA := hUA.size
      have sa : ∀ o : Obj, (A.alloc o).heap.size = A.heap.size + 1 := fun o => World.size_alloc _ _
      rw [sa] at hbW
      refine put W qc A.heap.size (A.heap.size + 1) W.heap.size _ ((hUa _).trans (hbW.mono (by omega))) (by omega) (Nat.le_refl _) (by have := hN; unfold PrgN at this; rw [sa] at this; exact this) hone hfr sA (.inl (by omega)) rfl ?_
      intro Y hY
      exact ⟨(qc, A.heap.size), ⟨.cons rfl (.cons rfl (.cons rfl (.cons rfl .nil))), rfl⟩, hY⟩
    · refine Calls.mono (turn A k c hUA hk) ?_
      rintro e W ⟨qc, rfl, hN, hone, hbW⟩
      refine ⟨hbW, ?_⟩
      refine ⟨(Below.refl _ _).alloc (Nat.le_refl _) _, ?_⟩
      have hba : ∀ o : Obj, Below W.heap.size W (W.alloc o) := fun o => (Below.refl _ _).alloc (Nat.le_refl _) _
      have hUW := hUA.trans (hbW.mono hUA.size)
      have sA := hUA.size
      refine put _ qc W.heap.size A.heap.size W.heap.size _ (hUW.trans ((hba _).mono hUW.size)) (by omega) (hba _).size (fun Z hZ => hN Z fun j h2 h3 => (hZ j h2 h3).trans ((hba _).block j h3)) hone (hnew W _) hUW.size (.inr (Nat.le_refl _)) rfl ?_
      intro Y hY
      exact ⟨(qc, W.heap.size), ⟨.cons rfl (.cons rfl (.cons rfl (.cons rfl .nil))), rfl⟩, hY⟩
  clear fU f0 f1 hbX
  rintro ⟨qc, bx⟩ Y ⟨⟨h10, hone, lo, hi, hlo, hhi, hN⟩, fb, f0, f1, hbY⟩
  dsimp only at h10 hone hN fb ⊢
  refine brF ?_
  refine ⟨qc, h10, cells_block fb, hlt fb, ?_⟩
  refine store_part (ttOk.get 29 _ rfl) f0 (o := 0 + 0) (v := .agg qc.toArray) (by show qc.length = 10; exact h10) (by show 0 + qc.length ≤ vs.length; rw [h10, hw.len]; decide) hone fun Z fZ gZ sZ => ?_
  have fZ : Z.heap[L]? = some (.cells (qc ++ (g.enc ++ rest)).toArray 44 (0, 0)) := by
    rw [fZ]
    congr 2
    show (vs.take 0 ++ qc ++ vs.drop (0 + qc.length)).toArray = _
    rw [List.take_zero, List.nil_append, h10, hvs, Nat.zero_add, ← hpl, List.drop_left]
  have hlenW : (qc ++ (g.enc ++ rest)).length = 585 := by rw [List.length_append, List.length_append, h10, hge, hrest]
  have honeW : (qc ++ (g.enc ++ rest)).all Value.oneCell' = true := by
    rw [List.all_append, hone, Bool.true_and]
    rw [hvs, List.all_append, Bool.and_eq_true] at h1
    exact h1.2
  refine ⟨qc ++ (g.enc ++ rest), hlenW, cells_block fZ, hlt fZ, ?_⟩
  have f1Z : Z.heap[L + 1]? = some (.cells cs 44 (0, 0)) := (gZ.block (L + 1) (hlt f1) (by simp)).trans f1
  refine store_box (v := .agg (qc ++ (g.enc ++ rest)).toArray) (ttOk.get 44 _ rfl) f1Z (by show (qc ++ (g.enc ++ rest)).length = 585; exact hlenW) hcs honeW ?_
  have f2 := setRow_new (cs' := (Value.agg (qc ++ (g.enc ++ rest)).toArray).cells) f1Z
  refine ⟨qc ++ (g.enc ++ rest), hlenW, cells_block f2, ?_⟩
  refine ⟨qc ++ (g.enc ++ rest), rfl, ⟨qc, rest, rfl, ?_, hmd, hrest⟩, honeW, below_setRow (hbY.trans (below_grown gZ (by have := hbY.size; omega) (by omega))) (by omega) _⟩
  refine (hN _ fun j h2 h3 => (setRow_old (by omega)).trans (gZ.block j (by omega) (by simp; omega))).mono ?_
  simp; omega
end
end Go.Proofs.YthgmcegmgjoafaaGreatDoor
namespace Go.Proofs.YthgmcegmgjoafaaGreatDoor
open Go.Vc Go.RowKit Go.Sei
def halfT (to : List Int) : List Int := [to.getD 0 0 / 2, to.getD 2 0 / 2]
theorem halfT_get (to : List Int) {k : Nat} (hk : k < 2) : (halfT to).getD k 0 = to.getD (2 * k) 0 / 2 := by
  match k, hk with
  | 0, _ => rfl
  | 1, _ => rfl
theorem halfT_range {to : List Int} (h : ∀ k, 0 ≤ to.getD k 0 ∧ to.getD k 0 < 64) : ∀ k, 0 ≤ (halfT to).getD k 0 ∧ (halfT to).getD k 0 < 64 := fun k => by
  by_cases hk : k < 2
  · rw [halfT_get to hk]
    have := h (2 * k)
    omega
  · rw [List.getD_eq_getElem?_getD, List.getElem?_eq_none (by show 2 ≤ k; omega)]
    exact ⟨Int.le_refl _, by decide⟩
theorem view2_c {ib n k : Nat} {pr : Bool} {to : List Int} {w : World} (hi : w.heap[ib]? = some (.cells (idxC n pr to).toArray 116 (0, 0))) (hk : k < 2) (h4 : to.length = 4) (hr : ∀ k, 0 ≤ to.getD k 0 ∧ to.getD k 0 < 64) :
    Calls Tryz.prog 141 #[i64 k, .pointer (some ⟨ib, 0, none⟩)] w fun e w' => e = .returned (.int .u8 ((halfT to).getD k 0)) ∧ w = w' := by
  refine calls_of_E (S := sg 10) (sgOk _) (args := [i64 k, .pointer (some ⟨ib, 0, none⟩)]) Tryz.func141 rfl rfl (Nat.le_of_ble_eq_true rfl) rfl ?_
  refine ⟨((2 * k : Nat) : Int), (wrap_i64 (by omega)).trans (by omega), ?_⟩
  refine ⟨2 * k, rfl, by omega, ?_⟩
  have hg : (idxC n pr to)[2 + 2 * k]? = some (.int .u8 (to.getD (2 * k) 0)) := by
    rw [Nat.add_comm]
    show (to.map (fun x => Value.int .u8 x))[2 * k]? = _
    rw [List.getElem?_map, List.getElem?_eq_getElem (by omega), List.getD_eq_getElem?_getD, List.getElem?_eq_getElem (by omega)]; rfl
  refine ⟨_, by have := cells_at (cells_block hi) hg; rw [Nat.mul_one]; exact (by rw [Nat.zero_add] at this; exact this), ?_⟩
  have h2 := hr (2 * k)
  refine ⟨by decide, (halfT to).getD k 0, ?_, rfl, rfl⟩
  rw [halfT_get to hk, Int.tdiv_eq_ediv_of_nonneg h2.1]
  exact wrap_u8 (by omega)
theorem moved2_c {s bits ib n : Nat} {pr : Bool} {to : List Int} {w : World} (hi : w.heap[ib]? = some (.cells (idxC n pr to).toArray 116 (0, 0))) (h4 : to.length = 4) (hs : s < 2 ^ 64) (hbits : bits ≤ 2) (hr : ∀ k, 0 ≤ to.getD k 0 ∧ to.getD k 0 < 64) (ht : ∀ k, 0 ≤ (halfT to).getD k 0 ∧ (halfT to).getD k 0 < 64) :
    Calls Tryz.prog 139 #[.int .u64 s, i64 bits, .func (.func 141) #[] #[.pointer (some ⟨ib, 0, none⟩)]] w fun e w' => e = .returned (.int .u64 (movedN s bits (halfT to) bits)) ∧ w = w' := by
  refine calls_of_E (S := sg 31) (sgOk _) (args := [.int .u64 s, i64 bits, .func (.func 141) #[] #[.pointer (some ⟨ib, 0, none⟩)]]) Tryz.func139 rfl rfl (Nat.le_of_ble_eq_true rfl) rfl ?_
  have h64 : 2 ^ bits ≤ 2 ^ 2 := Nat.pow_le_pow_right (by decide) hbits
  have hpos : 1 ≤ 2 ^ bits := Nat.one_le_two_pow
  have hsub : IntKind.u64.wrap (((2 ^ bits : Nat) : Int) - 1) = ((2 ^ bits - 1 : Nat) : Int) := by
    obtain ⟨q, hq⟩ : ∃ q, q = 2 ^ bits := ⟨_, rfl⟩
    rw [← hq] at h64 hpos ⊢
    exact (wrap_u64 (by omega)).trans (by omega)
  have hst : IntKind.u64.wrap ((startN s bits : Nat) : Int) = ((startN s bits : Nat) : Int) := by
    have : startN s bits < 2 ^ 64 := BitVec.isLt _
    exact wrap_u64 (by omega)
  refine ⟨by omega, ((2 ^ bits : Nat) : Int), shl_one (e := bits) (by omega), ?_⟩
  refine ⟨((2 ^ bits - 1 : Nat) : Int), hsub, ?_⟩
  refine ⟨((startN s bits : Nat) : Int), hst, ?_⟩
  have hlt := movedN_lt (s := s) (bits := bits) (to := halfT to) (fun k => by have := ht k; omega)
  refine ⟨Nat, fun k => ⟨[(0, .int .u64 s), (2, .func (.func 141) #[] #[.pointer (some ⟨ib, 0, none⟩)]), (7, .int .u64 (movedN s bits (halfT to) k : Nat)), (14, i64 bits), (15, i64 (k : Nat))], []⟩, fun k X => k ≤ bits ∧ w = X, fun k => bits - k, 0,
    ⟨.cons rfl (.cons rfl (.cons rfl (.cons rfl (.cons rfl .nil)))), rfl⟩, ⟨Nat.zero_le _, rfl⟩, ?_⟩
  rintro k _ ⟨hk, rfl⟩
  dsimp only at hk ⊢
  refine And.intro (fun hc => ?_) (fun hc => ?_)
  · have hc : (k : Int) < (bits : Int) := of_decide_eq_true hc
    have hkb : k < bits := by omega
    refine ⟨by omega, ((2 ^ k : Nat) : Int), shl_one (e := k) (by omega), ?_⟩
    have h2k : 2 ^ k < 2 ^ 64 := Nat.pow_lt_pow_right (by decide) (by omega)
    refine ⟨_, u64_and (a := s) (b := 2 ^ k) hs h2k, ?_⟩
    refine And.intro (fun h => ?_) (fun h => ?_)
    · have h : (!decide (((s &&& 2 ^ k : Nat) : Int) = 0)) = true := h
      have h : ¬ ((s &&& 2 ^ k : Nat) : Int) = 0 := by simpa using h
      have hne : ¬ s &&& 2 ^ k = 0 := fun e => h (by rw [e]; rfl)
      refine Calls.mono (view2_c hi (by omega) h4 hr) ?_
      rintro e _ ⟨rfl, rfl⟩
      obtain ⟨t0, t1⟩ := ht k
      refine ⟨t0, _, shl_one (e := ((halfT to).getD k 0).toNat) (by omega), ?_⟩
      refine ⟨_, u64_or (a := movedN s bits (halfT to) k) (b := 2 ^ ((halfT to).getD k 0).toNat) (hlt k) (Nat.pow_lt_pow_right (by decide) (by omega)), ?_⟩
      refine ⟨_, (wrap_i64 (by omega)).trans rfl, ?_⟩
      have p7 : some (Value.int .u64 ((movedN s bits (halfT to) k ||| 2 ^ ((halfT to).getD k 0).toNat : Nat) : Int)) = some (.int .u64 (movedN s bits (halfT to) (k + 1) : Nat)) := by rw [movedN_succ, if_neg hne]
      exact ⟨k + 1, ⟨.cons rfl (.cons rfl (.cons p7 (.cons rfl (.cons rfl .nil)))), rfl⟩, ⟨hkb, rfl⟩, by show bits - (k + 1) < bits - k; omega⟩
    · have h : (!decide (((s &&& 2 ^ k : Nat) : Int) = 0)) = false := h
      have h : ((s &&& 2 ^ k : Nat) : Int) = 0 := by simpa using h
      have he : s &&& 2 ^ k = 0 := Int.natCast_eq_zero.1 h
      refine ⟨_, (wrap_i64 (by omega)).trans rfl, ?_⟩
      have p7 : some (Value.int .u64 (movedN s bits (halfT to) k : Nat)) = some (.int .u64 (movedN s bits (halfT to) (k + 1) : Nat)) := by rw [movedN_succ, if_pos he]
      exact ⟨k + 1, ⟨.cons rfl (.cons rfl (.cons p7 (.cons rfl (.cons rfl .nil)))), rfl⟩, ⟨hkb, rfl⟩, by show bits - (k + 1) < bits - k; omega⟩
  · have hc : ¬ (k : Int) < (bits : Int) := of_decide_eq_false hc
    obtain rfl : k = bits := by omega
    exact ⟨rfl, rfl⟩
def turnV (n : Nat) (pr : Bool) (to : List Int) (k : UInt8) (s : Nat) : Nat := if k = 1 ∨ k = 2 then movedN s n to n else if k = 3 ∧ pr = true then movedN s ((n + 1) / 2) (halfT to) ((n + 1) / 2) else s
theorem viewG_c {n s : Nat} {kd : UInt8} {pr all : Bool} {to : List Int} {w : World} (hn : n ≤ 4) (h4 : to.length = 4) (hs : s < 2 ^ 64) (ht : ∀ k, 0 ≤ to.getD k 0 ∧ to.getD k 0 < 64) :
    Calls Tryz.prog 73 #[.agg (idxC n pr to).toArray, .agg (viewC kd s all).toArray] w fun e w' => e = .returned (.agg (viewC kd (turnV n pr to kd s) all).toArray) ∧ Below w.heap.size w w' := by
  refine calls_of_M (S := sg 41) (sgOk _) (args := [.agg (idxC n pr to).toArray, .agg (viewC kd s all).toArray]) (.c .p (.c .p .p)) Tryz.func73 rfl rfl (Nat.le_of_ble_eq_true rfl) rfl ?_
  obtain ⟨L, hL⟩ : ∃ L, L = w.heap.size := ⟨_, rfl⟩
  obtain ⟨W1, hW1⟩ : ∃ W1, W1 = w.alloc (.cells (idxC n pr to).toArray 116) := ⟨_, rfl⟩
  obtain ⟨W2, hW2⟩ : ∃ W2, W2 = W1.alloc (.cells (viewC kd s all).toArray 70) := ⟨_, rfl⟩
  have s1 : W1.heap.size = L + 1 := by rw [hW1, World.size_alloc, hL]
  have s2 : W2.heap.size = L + 2 := by rw [hW2, World.size_alloc, s1]
  refine ⟨Unit, fun _ => ⟨[(2, .pointer (some ⟨L, 0, none⟩)), (3, .pointer (some ⟨L + 1, 0, none⟩)), (4, .pointer (some ⟨L + 2, 0, none⟩))], []⟩, fun _ X => VIx w X L n pr to (viewC kd s all) (viewC 0 0 false), ?_, ?_⟩
  · have q1 : some (Value.pointer (some ⟨w.heap.size, 0, none⟩)) = some (Value.pointer (some ⟨L, 0, none⟩)) := by rw [hL]
    have q2 : some (Value.pointer (some ⟨W1.heap.size, 0, none⟩)) = some (Value.pointer (some ⟨L + 1, 0, none⟩)) := by rw [s1]
    have q3 : some (Value.pointer (some ⟨W2.heap.size, 0, none⟩)) = some (Value.pointer (some ⟨L + 2, 0, none⟩)) := by rw [s2]
    rw [hW2, hW1] at q3
    rw [hW1] at q2
    refine ⟨(), ⟨.cons q1 (.cons q2 (.cons q3 .nil)), rfl⟩, ?_⟩
    have hM : VIx w (W2.alloc (.cells (viewC 0 0 false).toArray 70)) L n pr to (viewC kd s all) (viewC 0 0 false) := by
      refine ⟨hold _ ?_, hold _ ?_, ?_, ?_⟩
      · rw [hW2, hW1, hL]; exact hold _ (hnew w _)
      · rw [hW2, ← s1]; exact hnew W1 _
      · rw [← s2]; exact hnew W2 _
      · rw [hW2, hW1]; exact (((Below.refl _ w).alloc (Nat.le_refl _) _).alloc (by simp) _).alloc (by simp; omega) _
    rw [hW2, hW1] at hM
    exact hM
  have hLw : w.heap.size ≤ L := by omega
  clear s1 s2 hW1 hW2 W1 W2
  rintro _ X hX
  refine ⟨Unit, fun _ => ⟨[(2, .pointer (some ⟨L, 0, none⟩)), (3, .pointer (some ⟨L + 1, 0, none⟩)), (4, .pointer (some ⟨L + 2, 0, none⟩))], []⟩, fun _ X => VIx w X L n pr to (viewC kd (turnV n pr to kd s) all) (viewC 0 0 false), ?_, ?_⟩
  · refine ⟨_, cells_at (cells_block hX.v) (i := 0) rfl, ?_⟩
    have fin : ∀ (s2 : Nat), s2 = turnV n pr to kd s → ∀ {K : World → Prop}, (∀ Y, VIx w Y L n pr to (viewC kd (turnV n pr to kd s) all) (viewC 0 0 false) → K Y) → SatR ((storeVar 68 ⟨L + 1, 1, none⟩ (.int .u64 (s2 : Nat))).run Tryz.prog X) fun _ w' => K w' := fun s2 h2 K k => by
      subst h2
      refine store_one (ttOk.get 68 _ rfl) hX.v (o := 1) (v := .int .u64 (turnV n pr to kd s : Nat)) rfl rfl (by show 1 < 3; decide) rfl fun Y fY gY sY => ?_
      exact k Y ⟨(gY.block _ (hlt hX.i) (by simp)).trans hX.i, fY, (gY.block _ (hlt hX.r) (by simp)).trans hX.r, hX.b.trans (below_grown gY hX.b.size (by omega))⟩
    have one : kd = 1 ∨ kd = 2 → turnV n pr to kd s = movedN s n to n := fun h => by unfold turnV; rw [if_pos h]
    refine And.intro (fun hk => ?_) (fun hk => ?_)
    · have hk : kd = 1 := of_decide_eq_true ((u8d kd 1).symm.trans hk)
      refine brT ?_
      refine ⟨_, cells_at (cells_block hX.v) (i := 1) rfl, ?_⟩
      refine ⟨_, cells_at (cells_block hX.i) (i := 0) rfl, ?_⟩
      refine ⟨(n : Int), wrap_i64 (by omega), ?_⟩
      refine Calls.mono (moved_c hX.i h4 hs hn ht) ?_
      rintro e _ ⟨rfl, rfl⟩
      refine fin _ (one (.inl hk)).symm fun Y hY => ?_
      exact ⟨(), ⟨.cons rfl (.cons rfl (.cons rfl .nil)), rfl⟩, hY⟩
    have hk1 : ¬ kd = 1 := of_decide_eq_false ((u8d kd 1).symm.trans hk)
    refine ⟨_, cells_at (cells_block hX.v) (i := 0) rfl, ?_⟩
    refine And.intro (fun hk => ?_) (fun hk => ?_)
    · have hk : kd = 2 := of_decide_eq_true ((u8d kd 2).symm.trans hk)
      refine ⟨_, cells_at (cells_block hX.v) (i := 1) rfl, ?_⟩
      refine ⟨_, cells_at (cells_block hX.i) (i := 0) rfl, ?_⟩
      refine ⟨(n : Int), wrap_i64 (by omega), ?_⟩
      refine Calls.mono (moved_c hX.i h4 hs hn ht) ?_
      rintro e _ ⟨rfl, rfl⟩
      refine fin _ (one (.inr hk)).symm fun Y hY => ?_
      exact ⟨(), ⟨.cons rfl (.cons rfl (.cons rfl .nil)), rfl⟩, hY⟩
    have hk2 : ¬ kd = 2 := of_decide_eq_false ((u8d kd 2).symm.trans hk)
    have h12 : ¬ (kd = 1 ∨ kd = 2) := fun h => h.elim hk1 hk2
    have other : ¬ (kd = 3 ∧ pr = true) → VIx w X L n pr to (viewC kd (turnV n pr to kd s) all) (viewC 0 0 false) := fun h => by
      have e : turnV n pr to kd s = s := by unfold turnV; rw [if_neg h12, if_neg h]
      rw [e]; exact hX
    refine ⟨_, cells_at (cells_block hX.v) (i := 0) rfl, ?_⟩
    refine And.intro (fun hk => ?_) (fun hk => ?_)
    · have hk3 : kd = 3 := of_decide_eq_true ((u8d kd 3).symm.trans hk)
      refine ⟨_, cells_at (cells_block hX.i) (i := 1) rfl, ?_⟩
      refine And.intro (fun hp => ?_) (fun hp => ?_)
      · refine ⟨_, cells_at (cells_block hX.v) (i := 1) rfl, ?_⟩
        refine ⟨_, cells_at (cells_block hX.i) (i := 0) rfl, ?_⟩
        refine ⟨(n : Int), wrap_i64 (by omega), ?_⟩
        refine ⟨((n + 1 : Nat) : Int), (wrap_i64 (by omega)).trans (by omega), ?_⟩
        refine ⟨by decide, (((n + 1) / 2 : Nat) : Int), ?_, ?_⟩
        · rw [Int.tdiv_eq_ediv_of_nonneg (by omega)]
          exact (wrap_i64 (by omega)).trans (by omega)
        refine Calls.mono (moved2_c hX.i h4 hs (by omega) ht (halfT_range ht)) ?_
        rintro e _ ⟨rfl, rfl⟩
        refine fin _ ?_ fun Y hY => ?_
        · unfold turnV
          rw [if_neg h12, if_pos ⟨hk3, hp⟩]
        exact ⟨(), ⟨.cons rfl (.cons rfl (.cons rfl .nil)), rfl⟩, hY⟩
      · exact ⟨(), ⟨.cons rfl (.cons rfl (.cons rfl .nil)), rfl⟩, other (fun h => by rw [h.2] at hp; cases hp)⟩
    · have hk3 : ¬ kd = 3 := of_decide_eq_false ((u8d kd 3).symm.trans hk)
      refine brF ?_
      exact ⟨(), ⟨.cons rfl (.cons rfl (.cons rfl .nil)), rfl⟩, other (fun h => hk3 h.1)⟩
  clear hX
  rintro _ X hX
  refine ⟨viewC kd (turnV n pr to kd s) all, rfl, cells_block hX.v, hlt hX.v, ?_⟩
  refine store_box (v := .agg (viewC kd (turnV n pr to kd s) all).toArray) (ttOk.get 70 _ rfl) hX.r rfl rfl rfl ?_
  have f3 := setRow_new (cs' := (Value.agg (viewC kd (turnV n pr to kd s) all).toArray).cells) hX.r
  refine ⟨viewC kd (turnV n pr to kd s) all, rfl, cells_block f3, ?_⟩
  exact ⟨rfl, below_setRow hX.b (by omega) _⟩
theorem ViewG_c {B : Nat} {kd : UInt8} {p : Prg} {g : Geo} {md : UInt8} {vs : List Value} {s : Nat} {all : Bool} {q : Option Addr} {cap : Nat} {l : List Int} {w : World} (hB : B ≤ w.heap.size) (hw : WldV B w vs p g md) (hT : GlobT w) (h1 : vs.all Value.oneCell' = true) (hl : SlR Go.Sei.intE w q l) (hs64 : s < 2 ^ 64) (hf : (turnsL p g && suitsL g md l) = true) :
    Calls Tryz.prog 28 #[.agg vs.toArray, .agg (viewC kd s all).toArray, .slice q l.length cap] w fun e w' => e = .returned (.tuple #[.agg (viewC kd (turnV l.length (decide (md = 3)) (toN l l.length) kd s) all).toArray, i64 0]) ∧ Below w.heap.size w w' := by
  refine calls_of_M (S := sg 17) (sgOk _) (args := [.agg vs.toArray, .agg (viewC kd s all).toArray, .slice q l.length cap]) (.c .p (.s .p .p)) Tryz.func28 rfl rfl (Nat.le_of_ble_eq_true rfl) rfl ?_
  obtain ⟨n, hgc, hn1, hn4, hln, hr⟩ := fits_parts hf
  obtain ⟨L, hL⟩ : ∃ L, L = w.heap.size := ⟨_, rfl⟩
  obtain ⟨W1, hW1⟩ : ∃ W1, W1 = w.alloc (.cells vs.toArray 44) := ⟨_, rfl⟩
  obtain ⟨W2, hW2⟩ : ∃ W2, W2 = W1.alloc (.cells (viewC kd s all).toArray 70) := ⟨_, rfl⟩
  have s1 : W1.heap.size = L + 1 := by rw [hW1, World.size_alloc, hL]
  have s2 : W2.heap.size = L + 2 := by rw [hW2, World.size_alloc, s1]
  refine ⟨Unit, fun _ => ⟨[(2, .slice q l.length cap), (3, .pointer (some ⟨L, 0, none⟩)), (4, .pointer (some ⟨L + 1, 0, none⟩)), (6, .pointer (some ⟨L + 2, 0, none⟩)), (7, i64 0)], []⟩, fun _ X => X.heap[L]? = some (.cells vs.toArray 44 (0, 0)) ∧
    X.heap[L + 1]? = some (.cells (viewC kd s all).toArray 70 (0, 0)) ∧ X.heap[L + 2]? = some (.cells (viewC 0 0 false).toArray 70 (0, 0)) ∧ Below w.heap.size w X, ?_, ?_⟩
  · have q1 : some (Value.pointer (some ⟨w.heap.size, 0, none⟩)) = some (Value.pointer (some ⟨L, 0, none⟩)) := by rw [hL]
    have q2 : some (Value.pointer (some ⟨W1.heap.size, 0, none⟩)) = some (Value.pointer (some ⟨L + 1, 0, none⟩)) := by rw [s1]
    have q3 : some (Value.pointer (some ⟨W2.heap.size, 0, none⟩)) = some (Value.pointer (some ⟨L + 2, 0, none⟩)) := by rw [s2]
    rw [hW2, hW1] at q3
    rw [hW1] at q2
    refine ⟨(), ⟨.cons rfl (.cons q1 (.cons q2 (.cons q3 (.cons rfl .nil)))), rfl⟩, ?_⟩
    have hM : (W2.alloc (.cells (viewC 0 0 false).toArray 70)).heap[L]? = some (.cells vs.toArray 44 (0, 0)) ∧ (W2.alloc (.cells (viewC 0 0 false).toArray 70)).heap[L + 1]? = some (.cells (viewC kd s all).toArray 70 (0, 0)) ∧ (W2.alloc (.cells (viewC 0 0 false).toArray 70)).heap[L + 2]? = some (.cells (viewC 0 0 false).toArray 70 (0, 0)) ∧ Below w.heap.size w (W2.alloc (.cells (viewC 0 0 false).toArray 70)) := by
      refine ⟨hold _ ?_, hold _ ?_, ?_, ?_⟩
      · rw [hW2, hW1, hL]; exact hold _ (hnew w _)
      · rw [hW2, ← s1]; exact hnew W1 _
      · rw [← s2]; exact hnew W2 _
      · rw [hW2, hW1]; exact (((Below.refl _ w).alloc (Nat.le_refl _) _).alloc (by simp) _).alloc (by simp; omega) _
    rw [hW2, hW1] at hM
    exact hM
  clear s1 s2 hW1 hW2 W1 W2
  rintro _ X ⟨f0, f1, f2, hbX⟩
  refine ⟨vs, hw.len, cells_block f0, hlt f0, ?_⟩
  refine Calls.mono (FitsT_c (Nat.le_trans hB hbX.size) (hw.below (hbX.mono hB)) (hT.below hbX) h1 (hl.below hbX) (by omega)) ?_
  rintro e V ⟨rfl, hbV⟩
  rw [hf]
  refine brF ?_
  have hbw : Below w.heap.size w V := hbX.trans (hbV.mono hbX.size)
  refine DrawE.ord [4] [0, 2, 1, 3, 4, 5] (by kernel_rfl) ?_
  have hbd : Below V.heap.size V V.drew := (Below.refl _ V).drew
  have hbwd : Below w.heap.size w V.drew := hbw.trans (hbd.mono hbw.size)
  have g0 := block_below hbd (block_below hbV f0)
  have g1 := block_below hbd (block_below hbV f1)
  have g2 := block_below hbd (block_below hbV f2)
  have hC : WldC B V.drew L p g md := ⟨Nat.le_trans hB hbwd.size, ⟨vs, g0, hw.below (hbwd.mono hB)⟩, hT.below hbwd⟩
  refine ⟨(viewC kd s all), rfl, cells_block g1, hlt g1, ?_⟩
  refine Calls.mono (newIndex_c hC hgc hn4 (hl.below hbwd) hr (by omega)) ?_
  rintro e U ⟨rfl, hbU⟩
  refine ⟨hbU, ?_⟩
  refine Calls.mono (viewG_c (s := s) (all := all) hn4 (toN_len _ _) hs64 (toN_get (by omega))) ?_
  rintro e Y ⟨rfl, hbY⟩
  refine ⟨hbY, ?_⟩
  have g3 := block_below hbY (block_below hbU g2)
  refine store_box (v := .agg (viewC kd (turnV n (decide (md = 3)) (toN l l.length) kd s) all).toArray) (ttOk.get 70 _ rfl) g3 rfl rfl rfl ?_
  have g4 := setRow_new (cs' := (Value.agg (viewC kd (turnV n (decide (md = 3)) (toN l l.length) kd s) all).toArray).cells) g3
  refine ⟨(viewC kd (turnV n (decide (md = 3)) (toN l l.length) kd s) all), rfl, cells_block g4, ?_⟩
  have hbY2 : Below w.heap.size w Y := (hbwd.trans (hbU.mono hbwd.size)).trans (hbY.mono (Nat.le_trans hbwd.size hbU.size))
  refine ⟨by rw [hln]; rfl, below_setRow hbY2 (by omega) _⟩
end Go.Proofs.YthgmcegmgjoafaaGreatDoor
namespace Go.Proofs.YthgmcegmgjoafaaGreatDoor
open Go.Vc Go.RowKit Go.Sei
def setV (h : Hom) (n : Nat) : Hom := { h with m0 := UInt8.ofNat (n % 256), m1 := UInt8.ofNat (n / 256 % 256), m2 := UInt8.ofNat (n / 65536 % 256), m3 := UInt8.ofNat (n / 16777216 % 256), m4 := UInt8.ofNat (n / 4294967296 % 256), m5 := UInt8.ofNat (n / 1099511627776 % 256), m6 := UInt8.ofNat (n / 281474976710656 % 256), m7 := UInt8.ofNat (n / 72057594037927936 % 256) }
theorem leM_setV {h : Hom} {n : Nat} (hn : n < 2 ^ 64) : leM (setV h n) = n := by
  have by8 : ∀ k : Nat, (UInt8.ofNat (k % 256)).toNat = k % 256 := fun k => by rw [UInt8.toNat_ofNat']; omega
  unfold leM setV
  simp only [by8]
  omega
theorem leM_lt (h : Hom) : leM h < 2 ^ 64 := by
  unfold leM
  have b0 := h.m0.toNat_lt
  have b1 := h.m1.toNat_lt
  have b2 := h.m2.toNat_lt
  have b3 := h.m3.toNat_lt
  have b4 := h.m4.toNat_lt
  have b5 := h.m5.toNat_lt
  have b6 := h.m6.toNat_lt
  have b7 := h.m7.toNat_lt
  omega
theorem turnV_lt {n s : Nat} {pr : Bool} {to : List Int} {k : UInt8} (ht : ∀ k, 0 ≤ to.getD k 0 ∧ to.getD k 0 < 64) (hs : s < 2 ^ 64) : turnV n pr to k s < 2 ^ 64 := by
  unfold turnV
  split
  · exact movedN_lt (fun k => by have := ht k; omega) _
  · split
    · exact movedN_lt (fun k => by have := halfT_range ht k; omega) _
    · exact hs
def turnH (n : Nat) (pr : Bool) (to : List Int) (h : Hom) : Hom :=
  let h1 : Hom := { h with owner := nodeU n to h.owner }
  let h2 : Hom := setV h1 (turnV n pr to h1.kind (leM h1))
  if h.wait = 0 then h2 else { h2 with asker := nodeU n to h2.asker }
structure DIx (w X : World) (L n : Nat) (pr : Bool) (to : List Int) (h : Hom) (r : List Value) : Prop where
  i : X.heap[L]? = some (.cells (idxC n pr to).toArray 116 (0, 0))
  m : X.heap[L + 1]? = some (.cells (homE.enc h).toArray 72 (0, 0))
  r : X.heap[L + 2]? = some (.cells r.toArray 72 (0, 0))
  b : Below w.heap.size w X
theorem DIx.below {w X Y : World} {L n : Nat} {pr : Bool} {to : List Int} {m : Hom} {r : List Value} (h : DIx w X L n pr to m r) (hb : Below X.heap.size X Y) : DIx w Y L n pr to m r := ⟨block_below hb h.i, block_below hb h.m, block_below hb h.r, h.b.trans (hb.mono h.b.size)⟩
theorem DIx.store {w X Y : World} {L n : Nat} {pr : Bool} {to : List Int} {m m' : Hom} {r : List Value} (h : DIx w X L n pr to m r) (hL : w.heap.size ≤ L) (fY : Y.heap[L + 1]? = some (.cells (homE.enc m').toArray 72 (0, 0))) (gY : X.grownBy Y (some (L + 1))) : DIx w Y L n pr to m' r :=
  ⟨(gY.block _ (hlt h.i) (by simp)).trans h.i, fY, (gY.block _ (hlt h.r) (by simp)).trans h.r, h.b.trans (below_grown gY h.b.size (by omega))⟩
theorem dir_c {n : Nat} {pr : Bool} {to : List Int} {h : Hom} {w : World} (hi : IdxOk n to) (ht : ∀ k, 0 ≤ to.getD k 0 ∧ to.getD k 0 < 64) :
    Calls Tryz.prog 116 #[.agg (idxC n pr to).toArray, .agg (homE.enc h).toArray] w fun e w' => e = .returned (.agg (homE.enc (turnH n pr to h)).toArray) ∧ Below w.heap.size w w' := by
  refine calls_of_M (S := sg 24) (sgOk _) (args := [.agg (idxC n pr to).toArray, .agg (homE.enc h).toArray]) (.c .p (.c .p (.c .p (.c .p .p)))) Tryz.func116 rfl rfl (Nat.le_of_ble_eq_true rfl) rfl ?_
  have hil : (idxC n pr to).length = 6 := by
    unfold idxC
    rw [List.length_cons, List.length_cons, List.length_map, hi.2.1]
  obtain ⟨L, hL⟩ : ∃ L, L = w.heap.size := ⟨_, rfl⟩
  obtain ⟨W1, hW1⟩ : ∃ W1, W1 = w.alloc (.cells (idxC n pr to).toArray 116) := ⟨_, rfl⟩
  obtain ⟨W2, hW2⟩ : ∃ W2, W2 = W1.alloc (.cells (homE.enc h).toArray 72) := ⟨_, rfl⟩
  have s1 : W1.heap.size = L + 1 := by rw [hW1, World.size_alloc, hL]
  have s2 : W2.heap.size = L + 2 := by rw [hW2, World.size_alloc, s1]
  refine ⟨Unit, fun _ => ⟨[(2, .pointer (some ⟨L, 0, none⟩)), (3, .pointer (some ⟨L + 1, 0, none⟩)), (4, .pointer (some ⟨L + 2, 0, none⟩))], []⟩, fun _ X => DIx w X L n pr to h (homE.enc eHom), ?_, ?_⟩
  · have q1 : some (Value.pointer (some ⟨w.heap.size, 0, none⟩)) = some (Value.pointer (some ⟨L, 0, none⟩)) := by rw [hL]
    have q2 : some (Value.pointer (some ⟨W1.heap.size, 0, none⟩)) = some (Value.pointer (some ⟨L + 1, 0, none⟩)) := by rw [s1]
    have q3 : some (Value.pointer (some ⟨W2.heap.size, 0, none⟩)) = some (Value.pointer (some ⟨L + 2, 0, none⟩)) := by rw [s2]
    rw [hW2, hW1] at q3
    rw [hW1] at q2
    refine ⟨(), ⟨.cons q1 (.cons q2 (.cons q3 .nil)), rfl⟩, ?_⟩
    have hM : DIx w (W2.alloc (.cells (homE.enc eHom).toArray 72)) L n pr to h (homE.enc eHom) := by
      refine ⟨hold _ ?_, hold _ ?_, ?_, ?_⟩
      · rw [hW2, hW1, hL]; exact hold _ (hnew w _)
      · rw [hW2, ← s1]; exact hnew W1 _
      · rw [← s2]; exact hnew W2 _
      · rw [hW2, hW1]; exact (((Below.refl _ w).alloc (Nat.le_refl _) _).alloc (by simp) _).alloc (by simp; omega) _
    rw [hW2, hW1] at hM
    exact hM
  have hLw : w.heap.size ≤ L := by omega
  clear s1 s2 hW1 hW2 W1 W2
  obtain ⟨h1, e1⟩ : ∃ h1 : Hom, h1 = { h with owner := nodeU n to h.owner } := ⟨_, rfl⟩
  obtain ⟨h2, e2⟩ : ∃ h2 : Hom, h2 = setV h1 (turnV n pr to h1.kind (leM h1)) := ⟨_, rfl⟩
  have e3 : turnH n pr to h = if h.wait = 0 then h2 else { h2 with asker := nodeU n to h2.asker } := by rw [e2, e1]; rfl
  have hw2 : h2.wait = h.wait := by rw [e2, e1]; rfl
  rintro _ X hX
  refine ⟨Unit, fun _ => ⟨[(2, .pointer (some ⟨L, 0, none⟩)), (3, .pointer (some ⟨L + 1, 0, none⟩)), (4, .pointer (some ⟨L + 2, 0, none⟩))], []⟩, fun _ X => DIx w X L n pr to h1 (homE.enc eHom), ?_, ?_⟩
  · refine ⟨idxC n pr to, hil, cells_block hX.i, hlt hX.i, ?_⟩
    refine ⟨_, cells_at (cells_block hX.m) (i := 1) rfl, ?_⟩
    refine Calls.mono (node_u hi) ?_
    rintro e V ⟨rfl, hbV⟩
    have hV := hX.below hbV
    refine store_one (ttOk.get 5 _ rfl) hV.m (o := 1) (v := u8 (nodeU n to h.owner)) rfl rfl (by show 1 < 11; decide) rfl fun Y fY gY sY => ?_
    exact ⟨(), ⟨.cons rfl (.cons rfl (.cons rfl .nil)), rfl⟩, hV.store hLw (by rw [fY, e1]; rfl) gY⟩
  clear hX X
  rintro _ X hX
  refine ⟨Unit, fun _ => ⟨[(2, .pointer (some ⟨L, 0, none⟩)), (3, .pointer (some ⟨L + 1, 0, none⟩)), (4, .pointer (some ⟨L + 2, 0, none⟩))], []⟩, fun _ X => DIx w X L n pr to h2 (homE.enc eHom), ?_, ?_⟩
  · refine ⟨idxC n pr to, hil, cells_block hX.i, hlt hX.i, ?_⟩
    refine ⟨viewC h1.kind (leM h1) h1.all, rfl, cells_sub (n := 2) (m := 3) (cells_block hX.m), hlt hX.m, ?_⟩
    refine Calls.mono (viewG_c hi.1 hi.2.1 (leM_lt h1) ht) ?_
    rintro e V ⟨rfl, hbV⟩
    have hV := hX.below hbV
    refine store_part (ttOk.get 70 _ rfl) hV.m (o := 0 + 2) (v := .agg (viewC h1.kind (turnV n pr to h1.kind (leM h1)) h1.all).toArray) rfl (by show 2 + 3 ≤ 11; decide) rfl fun Y fY gY sY => ?_
    refine ⟨(), ⟨.cons rfl (.cons rfl (.cons rfl .nil)), rfl⟩, hV.store hLw ?_ gY⟩
    rw [fY]
    congr 2
    have e4 : leM h2 = turnV n pr to h1.kind (leM h1) := by rw [e2]; exact leM_setV (turnV_lt ht (leM_lt h1))
    show ([u8 h1.state, u8 h1.owner] ++ viewC h1.kind (turnV n pr to h1.kind (leM h1)) h1.all ++ [u8 h1.wait, u8 h1.asker, u8 h1.d0, u8 h1.d1, u8 h1.d2, u8 h1.d3]).toArray = _
    rw [← e4, e2]; rfl
  clear hX X
  rintro _ X hX
  refine ⟨Unit, fun _ => ⟨[(2, .pointer (some ⟨L, 0, none⟩)), (3, .pointer (some ⟨L + 1, 0, none⟩)), (4, .pointer (some ⟨L + 2, 0, none⟩))], []⟩, fun _ X => DIx w X L n pr to (turnH n pr to h) (homE.enc eHom), ?_, ?_⟩
  · refine ⟨_, cells_at (cells_block hX.m) (i := 5) rfl, ?_⟩
    refine And.intro (fun hh => ?_) (fun hh => ?_)
    · have hh : ¬ h.wait = 0 := by
        have hh : (!decide ((h2.wait.toNat : Int) = 0)) = true := hh
        have e5 : decide ((h2.wait.toNat : Int) = 0) = decide (h2.wait = 0) := u8d h2.wait 0
        rw [e5, hw2] at hh
        simpa using hh
      refine ⟨idxC n pr to, hil, cells_block hX.i, hlt hX.i, ?_⟩
      refine ⟨_, cells_at (cells_block hX.m) (i := 6) rfl, ?_⟩
      refine Calls.mono (node_u hi) ?_
      rintro e V ⟨rfl, hbV⟩
      have hV := hX.below hbV
      refine store_one (ttOk.get 5 _ rfl) hV.m (o := 6) (v := u8 (nodeU n to h2.asker)) rfl rfl (by show 6 < 11; decide) rfl fun Y fY gY sY => ?_
      refine ⟨(), ⟨.cons rfl (.cons rfl (.cons rfl .nil)), rfl⟩, hV.store hLw ?_ gY⟩
      rw [fY, e3, if_neg hh]; rfl
    · have hh : h.wait = 0 := by
        have hh : (!decide ((h2.wait.toNat : Int) = 0)) = false := hh
        have e5 : decide ((h2.wait.toNat : Int) = 0) = decide (h2.wait = 0) := u8d h2.wait 0
        rw [e5, hw2] at hh
        simpa using hh
      refine ⟨(), ⟨.cons rfl (.cons rfl (.cons rfl .nil)), rfl⟩, ?_⟩
      rw [e3, if_pos hh]; exact hX
  clear hX X
  rintro _ X hX
  refine ⟨homE.enc (turnH n pr to h), rfl, cells_block hX.m, hlt hX.m, ?_⟩
  refine store_box (v := .agg (homE.enc (turnH n pr to h)).toArray) (ttOk.get 72 _ rfl) hX.r rfl rfl rfl ?_
  have f3 := setRow_new (cs' := (Value.agg (homE.enc (turnH n pr to h)).toArray).cells) hX.r
  refine ⟨homE.enc (turnH n pr to h), rfl, cells_block f3, ?_⟩
  exact ⟨rfl, below_setRow hX.b (by omega) _⟩
abbrev CorR := Cor × Option Addr × Nat
def corE : Enc CorR := ⟨fun x => corCells x.1 (.slice x.2.1 x.1.buf.length x.2.2), 12, fun _ => rfl, by decide, fun a u hu => by
  simp only [corCells, List.mem_cons, List.not_mem_nil, or_false] at hu
  rcases hu with rfl | rfl | rfl | rfl | rfl | rfl | rfl | rfl | rfl | rfl | rfl | rfl <;> rfl⟩
abbrev CacS := { c : Cac // c.ways.length = 16 ∧ c.notes.length = 4 }
theorem cacT_len {c : Cac} (h : c.ways.length = 16 ∧ c.notes.length = 4) : (cacCells c).length = 160 := by
  unfold cacCells
  rw [List.length_append, List.length_append, flat_len, flat_len, h.1, h.2]; rfl
def cacE : Enc CacS := ⟨fun x => cacCells x.1, 160, fun x => cacT_len x.2, by decide, fun a u hu => by
  simp only [cacCells, List.mem_append] at hu
  rcases hu with hu | hu | hu
  · exact flat_one _ u hu
  · exact flat_one _ u hu
  · simp only [opCells, List.mem_cons, List.not_mem_nil, or_false] at hu
    rcases hu with rfl | rfl | rfl | rfl <;> rfl⟩
def corD : CorR := (⟨0, 0, 0, 0, 0, 0, 0, 0, 0, [], false, false⟩, none, 0)
def cacD : CacS := ⟨⟨List.replicate 16 ⟨0, 0, 0, false, 0, 0, 0, 0⟩, List.replicate 4 ⟨0, 0, 0, 0, 0, 0, 0⟩, 0, 0, 0, 0⟩, rfl, rfl⟩
theorem part_next {A Z z v : List Value} (h : z.length = v.length) : ((A ++ (z ++ Z)).take A.length ++ v ++ (A ++ (z ++ Z)).drop (A.length + v.length)) = (A ++ v) ++ Z := by
  rw [List.take_left, ← List.drop_drop, List.drop_left, ← h, List.drop_left]
theorem zrep_succ (z : List Value) (n : Nat) : zrep z (n + 1) = z ++ zrep z n := rfl
theorem reorder_core_c {pa pl : Option Addr} {ca cl : Nat} {a : List CorR} {l : List Int} {w : World} (ha : SlR corE w pa a) (hl : SlR Go.Sei.intE w pl l) (hr : ∀ x ∈ l, 0 ≤ x ∧ x < a.length) (hn : l.length ≤ 1000) :
    Calls Tryz.prog 114 #[.slice pa a.length ca, .slice pl l.length cl] w fun e w' => ∃ b, e = .returned (.slice (some ⟨b, 0, none⟩) l.length l.length) ∧ w'.heap[b]? = some (.cells ((pickL corD a l).flatMap corE.enc).toArray 134 (0, 0)) ∧ w.heap.size ≤ b ∧ Below w.heap.size w w' := by
  refine calls_of_E (S := sg 27) (sgOk _) (args := [.slice pa a.length ca, .slice pl l.length cl]) Tryz.func114 rfl rfl (Nat.le_of_ble_eq_true rfl) rfl ?_
  refine make_zero (z := corE.enc corD) Tryz.underlying65 (ttOk.get 134 _ rfl) (by kernel_rfl) (by kernel_rfl) (by decide) _ (by show 48 * _ ≤ _; omega) (by omega) fun V fV hbV sV => ?_
  obtain ⟨L, hL⟩ : ∃ L, L = w.heap.size := ⟨_, rfl⟩
  have p1 : some (Value.slice (some ⟨w.heap.size, 0, none⟩) l.length l.length) = some (Value.slice (some ⟨L, 0, none⟩) l.length l.length) := by rw [hL]
  rw [← hL] at fV
  refine ⟨Nat, fun k => ⟨[(0, .slice pa a.length ca), (1, .slice pl l.length cl), (5, .slice (some ⟨L, 0, none⟩) l.length l.length), (11, .slice pl l.length cl), (12, i64 l.length), (13, i64 (k : Nat))], []⟩,
    fun k X => k ≤ l.length ∧ X.heap[L]? = some (.cells ((pickL corD a (l.take k)).flatMap corE.enc ++ zrep (corE.enc corD) (l.length - k)).toArray 134 (0, 0)) ∧ Below w.heap.size w X, fun k => l.length - k, 0,
    ⟨.cons rfl (.cons rfl (.cons p1 (.cons rfl (.cons rfl (.cons rfl .nil))))), rfl⟩, ⟨Nat.zero_le _, fV, hbV⟩, ?_⟩
  rintro k X ⟨hk, hX, hbX⟩
  dsimp only at hk hX ⊢
  refine And.intro (fun hc => ?_) (fun hc => ?_)
  · have hc : (k : Int) < (l.length : Int) := of_decide_eq_true hc
    have hkl : k < l.length := by omega
    obtain ⟨b, o, rfl, hb, hat⟩ := hl.at hkl
    refine ⟨k, rfl, hkl, ?_⟩
    refine ⟨_, cells_at (cells_below hbX (hat k hkl)) (i := 0) rfl, ?_⟩
    obtain ⟨r0, r1⟩ := hr _ (List.getElem_mem hkl)
    have hal : l[k].toNat < a.length := by omega
    obtain ⟨b2, o2, rfl, hb2, hat2⟩ := ha.at hal
    refine ⟨l[k].toNat, by omega, hal, ?_⟩
    refine ⟨corE.enc a[l[k].toNat], corE.len _, cells_below hbX (hat2 _ hal), Nat.lt_of_lt_of_le hb2 hbX.size, ?_⟩
    refine ⟨k, rfl, hkl, ?_⟩
    have hlen : ((pickL corD a (l.take k)).flatMap corE.enc).length = k * 12 := by
      rw [flat_len]
      show (pickL corD a (l.take k)).length * 12 = k * 12
      unfold pickL
      rw [List.length_map, List.length_take]
      congr 1
      omega
    have e1 : l.length - k = (l.length - (k + 1)) + 1 := by omega
    rw [e1, zrep_succ] at hX
    have hzl : (corE.enc corD).length = 12 := corE.len _
    have hvl : (corE.enc a[l[k].toNat]).length = 12 := corE.len _
    refine store_part (ttOk.get 134 _ rfl) hX (o := 0 + k * 12) (v := .agg (corE.enc a[l[k].toNat]).toArray) hvl (by
      show 0 + k * 12 + (corE.enc a[l[k].toNat]).length ≤ (_ ++ (_ ++ _) : List Value).length
      rw [List.length_append, List.length_append, hlen, hvl, hzl]; omega) (List.all_eq_true.2 (corE.one _)) fun Y fY gY sY => ?_
    refine ⟨_, (wrap_i64 (by omega)).trans rfl, ?_⟩
    refine ⟨k + 1, ⟨.cons rfl (.cons rfl (.cons rfl (.cons rfl (.cons rfl (.cons rfl .nil))))), rfl⟩, ⟨hkl, ?_, hbX.trans (below_grown gY hbX.size (by omega))⟩, by show l.length - (k + 1) < l.length - k; omega⟩
    rw [fY]
    congr 2
    have e3 : 0 + k * 12 = ((pickL corD a (l.take k)).flatMap corE.enc).length := by rw [hlen]; omega
    have e4 := part_next (A := (pickL corD a (l.take k)).flatMap corE.enc) (Z := zrep (corE.enc corD) (l.length - (k + 1))) (hzl.trans hvl.symm)
    rw [← e3] at e4
    refine congrArg List.toArray (e4.trans ?_)
    congr 1
    rw [List.take_succ_eq_append_getElem hkl]
    unfold pickL
    rw [List.map_append, List.flatMap_append]
    congr 1
    simp [List.getElem?_eq_getElem hal]
  · have hc : ¬ (k : Int) < (l.length : Int) := of_decide_eq_false hc
    obtain rfl : k = l.length := by omega
    rw [List.take_length, Nat.sub_self] at hX
    refine ⟨L, rfl, ?_, by omega, hbX⟩
    rw [hX]; congr 2; exact congrArg List.toArray (List.append_nil _)
theorem reorder_cache_c {pa pl : Option Addr} {ca cl : Nat} {a : List CacS} {l : List Int} {w : World} (ha : SlR cacE w pa a) (hl : SlR Go.Sei.intE w pl l) (hr : ∀ x ∈ l, 0 ≤ x ∧ x < a.length) (hn : l.length ≤ 1000) :
    Calls Tryz.prog 115 #[.slice pa a.length ca, .slice pl l.length cl] w fun e w' => ∃ b, e = .returned (.slice (some ⟨b, 0, none⟩) l.length l.length) ∧ w'.heap[b]? = some (.cells ((pickL cacD a l).flatMap cacE.enc).toArray 150 (0, 0)) ∧ w.heap.size ≤ b ∧ Below w.heap.size w w' := by
  refine calls_of_E (S := sg 27) (sgOk _) (args := [.slice pa a.length ca, .slice pl l.length cl]) Tryz.func115 rfl rfl (Nat.le_of_ble_eq_true rfl) rfl ?_
  refine make_zero (z := cacE.enc cacD) Tryz.underlying66 (ttOk.get 150 _ rfl) (by kernel_rfl) (by kernel_rfl) (by decide) _ (by show 232 * _ ≤ _; omega) (by omega) fun V fV hbV sV => ?_
  obtain ⟨L, hL⟩ : ∃ L, L = w.heap.size := ⟨_, rfl⟩
  have p1 : some (Value.slice (some ⟨w.heap.size, 0, none⟩) l.length l.length) = some (Value.slice (some ⟨L, 0, none⟩) l.length l.length) := by rw [hL]
  rw [← hL] at fV
  refine ⟨Nat, fun k => ⟨[(0, .slice pa a.length ca), (1, .slice pl l.length cl), (5, .slice (some ⟨L, 0, none⟩) l.length l.length), (11, .slice pl l.length cl), (12, i64 l.length), (13, i64 (k : Nat))], []⟩,
    fun k X => k ≤ l.length ∧ X.heap[L]? = some (.cells ((pickL cacD a (l.take k)).flatMap cacE.enc ++ zrep (cacE.enc cacD) (l.length - k)).toArray 150 (0, 0)) ∧ Below w.heap.size w X, fun k => l.length - k, 0,
    ⟨.cons rfl (.cons rfl (.cons p1 (.cons rfl (.cons rfl (.cons rfl .nil))))), rfl⟩, ⟨Nat.zero_le _, fV, hbV⟩, ?_⟩
  rintro k X ⟨hk, hX, hbX⟩
  dsimp only at hk hX ⊢
  refine And.intro (fun hc => ?_) (fun hc => ?_)
  · have hc : (k : Int) < (l.length : Int) := of_decide_eq_true hc
    have hkl : k < l.length := by omega
    obtain ⟨b, o, rfl, hb, hat⟩ := hl.at hkl
    refine ⟨k, rfl, hkl, ?_⟩
    refine ⟨_, cells_at (cells_below hbX (hat k hkl)) (i := 0) rfl, ?_⟩
    obtain ⟨r0, r1⟩ := hr _ (List.getElem_mem hkl)
    have hal : l[k].toNat < a.length := by omega
    obtain ⟨b2, o2, rfl, hb2, hat2⟩ := ha.at hal
    refine ⟨l[k].toNat, by omega, hal, ?_⟩
    refine ⟨cacE.enc a[l[k].toNat], cacE.len _, cells_below hbX (hat2 _ hal), Nat.lt_of_lt_of_le hb2 hbX.size, ?_⟩
    refine ⟨k, rfl, hkl, ?_⟩
    have hlen : ((pickL cacD a (l.take k)).flatMap cacE.enc).length = k * 160 := by
      rw [flat_len]
      show (pickL cacD a (l.take k)).length * 160 = k * 160
      unfold pickL
      rw [List.length_map, List.length_take]
      congr 1
      omega
    have e1 : l.length - k = (l.length - (k + 1)) + 1 := by omega
    rw [e1, zrep_succ] at hX
    have hzl : (cacE.enc cacD).length = 160 := cacE.len _
    have hvl : (cacE.enc a[l[k].toNat]).length = 160 := cacE.len _
    refine store_part (ttOk.get 150 _ rfl) hX (o := 0 + k * 160) (v := .agg (cacE.enc a[l[k].toNat]).toArray) hvl (by
      show 0 + k * 160 + (cacE.enc a[l[k].toNat]).length ≤ (_ ++ (_ ++ _) : List Value).length
      rw [List.length_append, List.length_append, hlen, hvl, hzl]; omega) (List.all_eq_true.2 (cacE.one _)) fun Y fY gY sY => ?_
    refine ⟨_, (wrap_i64 (by omega)).trans rfl, ?_⟩
    refine ⟨k + 1, ⟨.cons rfl (.cons rfl (.cons rfl (.cons rfl (.cons rfl (.cons rfl .nil))))), rfl⟩, ⟨hkl, ?_, hbX.trans (below_grown gY hbX.size (by omega))⟩, by show l.length - (k + 1) < l.length - k; omega⟩
    rw [fY]
    congr 2
    have e3 : 0 + k * 160 = ((pickL cacD a (l.take k)).flatMap cacE.enc).length := by rw [hlen]; omega
    have e4 := part_next (A := (pickL cacD a (l.take k)).flatMap cacE.enc) (Z := zrep (cacE.enc cacD) (l.length - (k + 1))) (hzl.trans hvl.symm)
    rw [← e3] at e4
    refine congrArg List.toArray (e4.trans ?_)
    congr 1
    rw [List.take_succ_eq_append_getElem hkl]
    unfold pickL
    rw [List.map_append, List.flatMap_append]
    congr 1
    simp [List.getElem?_eq_getElem hal]
  · have hc : ¬ (k : Int) < (l.length : Int) := of_decide_eq_false hc
    obtain rfl : k = l.length := by omega
    rw [List.take_length, Nat.sub_self] at hX
    refine ⟨L, rfl, ?_, by omega, hbX⟩
    rw [hX]; congr 2; exact congrArg List.toArray (List.append_nil _)
end Go.Proofs.YthgmcegmgjoafaaGreatDoor
namespace Go.Proofs.YthgmcegmgjoafaaGreatDoor
open Go.Vc Go.RowKit Go.Sei
def fit4 (g : Geo) (s : Sy) : Bool := geoR g && decide ((s.cores.length : Int) = g.c) && decide ((s.caches.length : Int) = g.c) && decide (s.net.length ≤ 64)
def bufB (c : Cor) : Bool := decide (c.buf.length ≤ 255)
def nteB (n : Nte) : Bool := decide (0 ≤ n.ways) && decide (n.ways ≤ 255)
def fitsB (g : Geo) (s : Sy) : Bool := fit4 g s && (s.cores.all bufB && s.caches.all fun c => c.notes.all nteB)
theorem partE_agg {off sz : Nat} {cs : List Value} {v : Array Value} {K : Value → Prop} (h : ((cs.drop off).take sz).toArray = v) (k : K (.agg v)) : Go.Vc.partE off sz true cs K := by
  unfold Go.Vc.partE; rw [h]; exact k
theorem FitsG_c {wv vs : List Value} {g : Geo} {s : Sy} {w : World} (hW : (wv.drop 10).take 5 = g.enc) (hS : SysV w.heap.size w vs s) (hB : BndM w) :
    Calls Tryz.prog 17 #[.agg wv.toArray, .agg vs.toArray] w fun e w' => e = .returned (.bool (fitsB g s)) ∧ Below w.heap.size w w' := by
  refine calls_of_M (S := sg 77) (sgOk _) (args := [.agg wv.toArray, .agg vs.toArray]) (.s .p (.s (.c .p .p) (.c .p (.c .p .p)))) Tryz.func17 rfl rfl (Nat.le_of_ble_eq_true rfl) rfl ?_
  obtain ⟨W0, hW0⟩ : ∃ W0, (w.alloc (.cells wv.toArray 44)).alloc (.cells vs.toArray 75) = W0 := ⟨_, rfl⟩
  have hb0 : Below w.heap.size w W0 := by rw [← hW0]; exact ((Below.refl _ _).alloc (Nat.le_refl _) _).alloc (by simp) _
  have f0 : W0.heap[w.heap.size]? = some (.cells wv.toArray 44 (0, 0)) := by rw [← hW0]; exact hold _ (hnew w _)
  have f1 : W0.heap[w.heap.size + 1]? = some (.cells vs.toArray 75 (0, 0)) := by
    have := hnew (w.alloc (.cells wv.toArray 44)) (.cells vs.toArray 75)
    rw [World.size_alloc] at this
    rw [← hW0]; exact this
  have es : (w.alloc (.cells wv.toArray 44)).heap.size = w.heap.size + 1 := World.size_alloc _ _
  obtain ⟨⟨p1, c1, p2, c2, p3, c3, hvs, hco, hca, hne, hnil⟩, h6⟩ := hS.below hb0
  have hH : (s.homes.flatMap homE.enc).length = 66 := by rw [flat_len, h6]; rfl
  have hcl : Cells W0 ⟨w.heap.size + 1, 0, none⟩ (.slice p1 s.cores.length c1 :: .slice p2 s.caches.length c2 :: (s.homes.flatMap homE.enc ++ [.slice p3 s.net.length c3])) := by
    have := cells_block f1; rw [← hvs]; exact this
  have hgeo : Cells W0 ⟨w.heap.size, 10, none⟩ g.enc := by
    have := cells_sub (n := 10) (m := 5) (cells_block f0)
    simp only [Nat.zero_add] at this
    rw [← hW]; exact this
  refine ⟨Bool, fun b => ⟨[(2, .pointer (some ⟨w.heap.size, 0, none⟩)), (3, .pointer (some ⟨w.heap.size + 1, 0, none⟩)), (36, .bool b)], []⟩, fun b V => b = !fit4 g s ∧ Below W0.heap.size W0 V, ?_, ?_⟩
  · have hr := Right_geo_c g W0 (hB.below hb0)
    rw [← hW0] at hr hgeo hcl
    refine ⟨g.enc, rfl, hgeo, (by have := hlt f0; rw [← hW0] at this; exact this), ?_⟩
    refine Calls.mono hr ?_
    rintro e V ⟨rfl, hb⟩
    rw [hW0] at hb
    have hclV : Cells V ⟨w.heap.size + 1, 0, none⟩ (.slice p1 s.cores.length c1 :: .slice p2 s.caches.length c2 :: (s.homes.flatMap homE.enc ++ [.slice p3 s.net.length c3])) := by
      rw [hW0] at hcl; exact cells_below hb hcl
    have ptr1 : some (Value.pointer (some ⟨(w.alloc (.cells wv.toArray 44)).heap.size, 0, none⟩)) = some (Value.pointer (some ⟨w.heap.size + 1, 0, none⟩)) := by rw [es]
    have hclE : Cells V ⟨(w.alloc (.cells wv.toArray 44)).heap.size, 0, none⟩ (.slice p1 s.cores.length c1 :: .slice p2 s.caches.length c2 :: (s.homes.flatMap homE.enc ++ [.slice p3 s.net.length c3])) := by rw [es]; exact hclV
    have hgV : Cells V ⟨w.heap.size, 10, none⟩ g.enc := by
      rw [hW0] at hgeo; exact cells_below hb hgeo
    refine And.intro (fun h => ?_) (fun h => ?_)
    · have h : geoR g = false := by
        have : (!geoR g) = true := h
        simpa using this
      refine And.intro (fun _ => ?_) (fun h => by cases h)
      refine And.intro (fun _ => ?_) (fun h => by cases h)
      exact ⟨true, ⟨.cons rfl (.cons ptr1 (.cons rfl .nil)), rfl⟩, by unfold fit4; rw [h]; rfl, hb⟩
    have h : geoR g = true := by
      have : (!geoR g) = false := h
      simpa using this
    refine ⟨_, cells_at hclE (i := 0) rfl, ?_⟩
    refine ⟨_, cells_at hgV (i := 0) rfl, ?_⟩
    refine And.intro (fun h1 => ?_) (fun h1 => ?_)
    · have h1 := nt h1
      refine And.intro (fun _ => ?_) (fun h => by cases h)
      exact ⟨true, ⟨.cons rfl (.cons ptr1 (.cons rfl .nil)), rfl⟩, by unfold fit4; rw [decide_eq_false h1]; simp, hb⟩
    have h1 := nf h1
    refine ⟨_, cells_at hclE (i := 1) rfl, ?_⟩
    refine ⟨_, cells_at hgV (i := 0) rfl, ?_⟩
    refine And.intro (fun h2 => ?_) (fun h2 => ?_)
    · have h2 := nt h2
      exact ⟨true, ⟨.cons rfl (.cons ptr1 (.cons rfl .nil)), rfl⟩, by unfold fit4; rw [decide_eq_false h2]; simp, hb⟩
    have h2 := nf h2
    refine ⟨_, cells_at hclE (i := 68) (sys_net hH), ?_⟩
    refine ⟨decide (64 < (s.net.length : Int)), ⟨.cons rfl (.cons ptr1 (.cons rfl .nil)), rfl⟩, ?_, hb⟩
    unfold fit4
    rw [h, decide_eq_true h1, decide_eq_true h2]
    by_cases h3 : s.net.length ≤ 64
    · rw [decide_eq_true h3, decide_eq_false (by omega)]; rfl
    · rw [decide_eq_false h3, decide_eq_true (by omega)]; rfl
  rintro b V ⟨rfl, hbV⟩
  have hclV : ∀ X, Below W0.heap.size W0 X → Cells X ⟨w.heap.size + 1, 0, none⟩ (.slice p1 s.cores.length c1 :: .slice p2 s.caches.length c2 :: (s.homes.flatMap homE.enc ++ [.slice p3 s.net.length c3])) := fun X hX => cells_below hX hcl
  have hwX : ∀ X, Below W0.heap.size W0 X → Below w.heap.size w X := fun X hX => hb0.trans (hX.mono hb0.size)
  refine And.intro (fun h => ?_) (fun h => ?_)
  · have h : fit4 g s = false := by
      have : (!fit4 g s) = true := h
      simpa using this
    exact ⟨rb (by unfold fitsB; rw [h]; rfl), hwX _ hbV⟩
  have h : fit4 g s = true := by
    have : (!fit4 g s) = false := h
    simpa using this
  have hf4 := h
  simp only [fit4, Bool.and_eq_true, decide_eq_true_eq] at h
  obtain ⟨⟨⟨hg, hc1⟩, hc2⟩, hc3⟩ := h
  have hgc := (geoR_spec hg).1
  refine ⟨Unit, fun _ => ⟨[(2, .pointer (some ⟨w.heap.size, 0, none⟩)), (3, .pointer (some ⟨w.heap.size + 1, 0, none⟩))], []⟩, fun _ X => s.cores.all bufB = true ∧ Below W0.heap.size W0 X, ?_, ?_⟩
  · refine ⟨_, cells_at (hclV _ hbV) (i := 0) rfl, ?_⟩
    refine ⟨Nat, fun k => ⟨[(2, .pointer (some ⟨w.heap.size, 0, none⟩)), (3, .pointer (some ⟨w.heap.size + 1, 0, none⟩)), (39, .int .i64 (s.cores.length : Nat)), (40, .int .i64 (k : Nat))], []⟩,
      fun k X => k ≤ s.cores.length ∧ (∀ c ∈ s.cores.take k, bufB c = true) ∧ Below W0.heap.size W0 X, fun k => s.cores.length - k, 0, ⟨.cons rfl (.cons rfl (.cons rfl (.cons rfl .nil))), rfl⟩, ⟨Nat.zero_le _, by simp, hbV⟩, ?_⟩
    rintro k X ⟨hk, hno, hX⟩
    refine And.intro (fun hc => ?_) (fun hc => ?_)
    · have hc : (k : Int) < s.cores.length := of_decide_eq_true hc
      have hks : k < s.cores.length := by omega
      obtain ⟨b, o, hp, hat⟩ := hco
      obtain ⟨pb, cb, hbB, hcb, _⟩ := (hat k hks).below ((Below.refl _ _).trans (hX.mono (by have := hb0.size; omega)))
      rcases hp with hp | hp
      · omega
      subst hp
      refine ⟨_, cells_at (hclV _ hX) (i := 0) rfl, ?_⟩
      refine ⟨k, rfl, hks, ?_⟩
      refine ⟨_, cells_at hcb (i := 9) rfl, ?_⟩
      refine And.intro (fun h5 => ?_) (fun h5 => ?_)
      · have h5 : (255 : Int) < s.cores[k].buf.length := of_decide_eq_true h5
        have hf : s.cores.all bufB = false := by
          rw [List.all_eq_false]
          exact ⟨s.cores[k], List.getElem_mem _, by unfold bufB; simp; omega⟩
        exact ⟨rb (by unfold fitsB; rw [hf]; simp), hwX _ hX⟩
      · have h5 : ¬ (255 : Int) < s.cores[k].buf.length := of_decide_eq_false h5
        refine ⟨(k + 1 : Nat), (wrap_i64 (by omega)).trans (by omega), ?_⟩
        refine ⟨k + 1, ⟨.cons rfl (.cons rfl (.cons rfl (.cons rfl .nil))), rfl⟩, ⟨hks, ?_, hX⟩, by dsimp only; omega⟩
        rw [List.take_succ_eq_append_getElem hks]
        intro c hc
        rcases List.mem_append.1 hc with hc | hc
        · exact hno c hc
        · simp only [List.mem_singleton] at hc
          subst hc
          unfold bufB; simp; omega
    · have hc : ¬ (k : Int) < s.cores.length := of_decide_eq_false hc
      have hkl : k = s.cores.length := by omega
      subst hkl
      rw [List.take_length] at hno
      exact ⟨(), ⟨.cons rfl (.cons rfl .nil), rfl⟩, List.all_eq_true.2 hno, hX⟩
  rintro _ V2 ⟨hbuf, hV2⟩
  refine ⟨Unit, fun _ => ⟨[(2, .pointer (some ⟨w.heap.size, 0, none⟩)), (3, .pointer (some ⟨w.heap.size + 1, 0, none⟩))], []⟩, fun _ X => (s.caches.all fun c => c.notes.all nteB) = true ∧ Below W0.heap.size W0 X, ?_, ?_⟩
  · refine ⟨_, cells_at (hclV _ hV2) (i := 1) rfl, ?_⟩
    refine ⟨Nat, fun k => ⟨[(2, .pointer (some ⟨w.heap.size, 0, none⟩)), (3, .pointer (some ⟨w.heap.size + 1, 0, none⟩)), (54, .int .i64 (s.caches.length : Nat)), (55, .int .i64 (k : Nat))], []⟩,
      fun k X => k ≤ s.caches.length ∧ (∀ c ∈ s.caches.take k, c.notes.all nteB = true) ∧ Below W0.heap.size W0 X, fun k => s.caches.length - k, 0, ⟨.cons rfl (.cons rfl (.cons rfl (.cons rfl .nil))), rfl⟩, ⟨Nat.zero_le _, by simp, hV2⟩, ?_⟩
    rintro k X ⟨hk, hno, hX⟩
    refine And.intro (fun hc => ?_) (fun hc => ?_)
    · have hc : (k : Int) < s.caches.length := of_decide_eq_true hc
      have hks : k < s.caches.length := by omega
      obtain ⟨b, o, hp, hat⟩ := hca
      obtain ⟨hbB, hcb, hw16, hn4⟩ := (hat k hks).below ((Below.refl _ _).trans (hX.mono (by have := hb0.size; omega)))
      rcases hp with hp | hp
      · omega
      subst hp
      have hnt : Cells X ⟨b, o + k * 160 + 128, none⟩ (s.caches[k].notes.flatMap nteE.enc) := by
        have h1 := (cells_app.1 hcb).2
        rw [flat_len (E := linE), hw16] at h1
        exact (cells_app.1 h1).1
      have hnl : (s.caches[k].notes.flatMap nteE.enc).length = 28 := by rw [flat_len, hn4]; rfl
      refine ⟨_, cells_at (hclV _ hX) (i := 1) rfl, ?_⟩
      refine ⟨k, rfl, hks, ?_⟩
      refine ⟨_, hnl, hnt, by have := (hwX _ hX).size; show b < _; omega, ?_⟩
      refine ⟨Nat, fun j => ⟨[(2, .pointer (some ⟨w.heap.size, 0, none⟩)), (3, .pointer (some ⟨w.heap.size + 1, 0, none⟩)), (54, .int .i64 (s.caches.length : Nat)), (55, .int .i64 (k : Nat)), (63, .agg (s.caches[k].notes.flatMap nteE.enc).toArray), (64, .int .i64 (j : Nat))], []⟩,
        fun j X => j ≤ 4 ∧ (∀ n ∈ s.caches[k].notes.take j, nteB n = true) ∧ Below W0.heap.size W0 X, fun j => 4 - j, 0, ⟨.cons rfl (.cons rfl (.cons rfl (.cons rfl (.cons rfl (.cons rfl .nil))))), rfl⟩, ⟨Nat.zero_le _, by simp, hX⟩, ?_⟩
      rintro j Y ⟨hj, hnj, hY⟩
      refine And.intro (fun hc => ?_) (fun hc => ?_)
      · have hc : (j : Int) < 4 := of_decide_eq_true hc
        have hj4 : j < s.caches[k].notes.length := by omega
        refine ⟨j, rfl, by omega, ?_⟩
        refine partE_agg (v := (nteE.enc s.caches[k].notes[j]).toArray) (by rw [← flat_get (E := nteE) _ j hj4]; rfl) ?_
        refine store_new (X := Y) (v := .agg (nteE.enc s.caches[k].notes[j]).toArray) (ttOk.get 147 _ rfl) (by rfl) rfl (by rfl) fun Z hbZ fZ sZ => ?_
        have hZ : Below W0.heap.size W0 Z := hY.trans (hbZ.mono hY.size)
        refine ⟨_, cells_at (cells_block fZ) (i := 1) rfl, ?_⟩
        have bad : nteB s.caches[k].notes[j] = false → fitsB g s = false := fun hb => by
          have hf : (s.caches.all fun c => c.notes.all nteB) = false := by
            rw [List.all_eq_false]
            refine ⟨s.caches[k], List.getElem_mem _, ?_⟩
            rw [Bool.not_eq_true, List.all_eq_false]
            exact ⟨_, List.getElem_mem hj4, by rw [hb]; simp⟩
          unfold fitsB; rw [hf]; simp
        refine And.intro (fun h5 => ?_) (fun h5 => ?_)
        · have h5 : s.caches[k].notes[j].ways < 0 := of_decide_eq_true h5
          refine And.intro (fun _ => ?_) (fun h => by cases h)
          exact ⟨rb (bad (by unfold nteB; rw [decide_eq_false (by omega)]; rfl)).symm, hwX _ hZ⟩
        have h5 : ¬ s.caches[k].notes[j].ways < 0 := of_decide_eq_false h5
        refine ⟨_, cells_at (cells_block fZ) (i := 1) rfl, ?_⟩
        refine And.intro (fun h6 => ?_) (fun h6 => ?_)
        · have h6 : (255 : Int) < s.caches[k].notes[j].ways := of_decide_eq_true h6
          exact ⟨rb (bad (by unfold nteB; rw [decide_eq_false (p := s.caches[k].notes[j].ways ≤ 255) (by omega)]; simp)).symm, hwX _ hZ⟩
        have h6 : ¬ (255 : Int) < s.caches[k].notes[j].ways := of_decide_eq_false h6
        refine ⟨(j + 1 : Nat), (wrap_i64 (by omega)).trans (by omega), ?_⟩
        refine ⟨j + 1, ⟨.cons rfl (.cons rfl (.cons rfl (.cons rfl (.cons rfl (.cons rfl .nil))))), rfl⟩, ⟨by omega, ?_, hZ⟩, by dsimp only; omega⟩
        rw [List.take_succ_eq_append_getElem hj4]
        intro c hc
        rcases List.mem_append.1 hc with hc | hc
        · exact hnj c hc
        · simp only [List.mem_singleton] at hc
          subst hc
          unfold nteB; rw [decide_eq_true (by omega), decide_eq_true (by omega)]; rfl
      · have hc : ¬ (j : Int) < 4 := of_decide_eq_false hc
        rw [List.take_of_length_le (by omega)] at hnj
        refine ⟨(k + 1 : Nat), (wrap_i64 (by omega)).trans (by omega), ?_⟩
        refine ⟨k + 1, ⟨.cons rfl (.cons rfl (.cons rfl (.cons rfl .nil))), rfl⟩, ⟨hks, ?_, hY⟩, by dsimp only; omega⟩
        rw [List.take_succ_eq_append_getElem hks]
        intro c hc
        rcases List.mem_append.1 hc with hc | hc
        · exact hno c hc
        · simp only [List.mem_singleton] at hc
          subst hc
          exact List.all_eq_true.2 hnj
    · have hc : ¬ (k : Int) < s.caches.length := of_decide_eq_false hc
      have hkl : k = s.caches.length := by omega
      subst hkl
      rw [List.take_length] at hno
      exact ⟨(), ⟨.cons rfl (.cons rfl .nil), rfl⟩, List.all_eq_true.2 hno, hX⟩
  rintro _ V3 ⟨hnt, hV3⟩
  exact ⟨rb (by unfold fitsB; rw [hf4, hbuf, hnt]; rfl), hwX _ hV3⟩
theorem Fits_c {wv vs : List Value} {g : Geo} {mode : UInt8} {s : Sy} {w : World} (hW : WorV wv g.enc mode) (hS : SysV w.heap.size w vs s) (hB : BndM w) :
    Calls Tryz.prog 17 #[.agg wv.toArray, .agg vs.toArray] w fun e w' => e = .returned (.bool (fitsB g s)) ∧ Below w.heap.size w w' := FitsG_c hW.geo hS hB
end Go.Proofs.YthgmcegmgjoafaaGreatDoor
namespace Go.Proofs.YthgmcegmgjoafaaGreatDoor
open Go.Vc Go.RowKit Go.Sei
theorem listOf {β : Type} {n : Nat} (i0 : β) {Q : Nat → β → Prop} (h : ∀ i, i < n → ∃ b, Q i b) : ∃ bs : List β, bs.length = n ∧ ∀ i (hi : i < bs.length), Q i bs[i] := by
  have h2 : ∀ i, ∃ b, i < n → Q i b := fun i => by
    by_cases hi : i < n
    · obtain ⟨b, hb⟩ := h i hi; exact ⟨b, fun _ => hb⟩
    · exact ⟨i0, fun h => absurd h hi⟩
  obtain ⟨g, hg⟩ := Classical.axiomOfChoice h2
  refine ⟨(List.range n).map g, by simp, fun i hi => ?_⟩
  simp only [List.getElem_map, List.getElem_range]
  exact hg i (by simpa using hi)
theorem cors_row {B : Nat} {w : World} {p : Option Addr} {l : List Cor} (h : CorsV B w p l) (hB : B ≤ w.heap.size) : ∃ xs : List CorR, xs.map (·.1) = l ∧ SlR corE w p xs ∧ ∀ x ∈ xs, RowB stoE B w x.2.1 x.1.buf := by
  obtain ⟨b, o, hp, hat⟩ := h
  obtain ⟨xs, hl, hx⟩ := listOf (n := l.length) corD (Q := fun i (x : CorR) => ∃ hi : i < l.length, x.1 = l[i] ∧ b < B ∧ Cells w ⟨b, o + i * 12, none⟩ (corE.enc x) ∧ RowB stoE B w x.2.1 x.1.buf) (fun i hi => by
    obtain ⟨q, cap, h1, h2, h3⟩ := hat i hi
    exact ⟨(l[i], q, cap), hi, rfl, h1, h2, h3⟩)
  refine ⟨xs, ?_, ?_, fun x hm => ?_⟩
  · apply List.ext_getElem
    · rw [List.length_map, hl]
    · intro i h1 h2
      rw [List.length_map] at h1
      rw [List.getElem_map]
      exact (hx i h1).2.1
  · by_cases h0 : xs = []
    · exact .inl h0
    · have hpos : 0 < xs.length := List.length_pos_iff.2 h0
      rcases hp with hp | rfl
      · omega
      · obtain ⟨_, _, hb, _⟩ := hx 0 hpos
        exact .inr ⟨b, o, rfl, by omega, fun i hi => (hx i hi).2.2.2.1⟩
  · obtain ⟨i, hi, rfl⟩ := List.getElem_of_mem hm
    exact (hx i hi).2.2.2.2
theorem cacs_row {B : Nat} {w : World} {p : Option Addr} {l : List Cac} (h : CacsV B w p l) (hB : B ≤ w.heap.size) : ∃ ys : List CacS, ys.map (·.1) = l ∧ SlR cacE w p ys := by
  obtain ⟨b, o, hp, hat⟩ := h
  obtain ⟨ys, hl, hx⟩ := listOf (n := l.length) cacD (Q := fun i (x : CacS) => ∃ hi : i < l.length, x.1 = l[i] ∧ b < B ∧ Cells w ⟨b, o + i * 160, none⟩ (cacE.enc x)) (fun i hi => by
    obtain ⟨h1, h2, h3⟩ := hat i hi
    exact ⟨⟨l[i], h3⟩, hi, rfl, h1, h2⟩)
  refine ⟨ys, ?_, ?_⟩
  · apply List.ext_getElem
    · rw [List.length_map, hl]
    · intro i h1 h2
      rw [List.length_map] at h1
      rw [List.getElem_map]
      exact (hx i h1).2.1
  · by_cases h0 : ys = []
    · exact .inl h0
    · have hpos : 0 < ys.length := List.length_pos_iff.2 h0
      rcases hp with hp | rfl
      · omega
      · obtain ⟨_, _, hb, _⟩ := hx 0 hpos
        exact .inr ⟨b, o, rfl, by omega, fun i hi => (hx i hi).2.2.2⟩
def sysC (a b : Value) (hs : List Hom) (c : Value) : List Value := a :: b :: (hs.flatMap homE.enc ++ [c])
theorem sysC_len {a b c : Value} {hs : List Hom} (h : hs.length = 6) : (sysC a b hs c).length = 69 := by
  unfold sysC
  rw [List.length_cons, List.length_cons, List.length_append, flat_len, h]; rfl
theorem sysC_one {a b c : Value} {hs : List Hom} (h1 : a.oneCell' = true) (h2 : b.oneCell' = true) (h3 : c.oneCell' = true) : (sysC a b hs c).all Value.oneCell' = true := by
  rw [List.all_eq_true]
  intro x hx
  simp only [sysC, List.mem_cons, List.mem_append, List.not_mem_nil, or_false] at hx
  rcases hx with rfl | rfl | hx | rfl
  · exact h1
  · exact h2
  · exact flat_one _ x hx
  · exact h3
structure YI (w X : World) (L n : Nat) (pr : Bool) (to : List Int) (ss : List Value) (cs : Array Value) (bc bk : Nat) (xs : List CorR) (ys : List CacS) : Prop where
  i : X.heap[L]? = some (.cells (idxC n pr to).toArray 116 (0, 0))
  s : X.heap[L + 1]? = some (.cells ss.toArray 75 (0, 0))
  r : X.heap[L + 2]? = some (.cells cs 75 (0, 0))
  c : X.heap[bc]? = some (.cells (xs.flatMap corE.enc).toArray 134 (0, 0))
  k : X.heap[bk]? = some (.cells (ys.flatMap cacE.enc).toArray 150 (0, 0))
  b : Below w.heap.size w X
section
variable {w X Y : World} {L n : Nat} {pr : Bool} {to : List Int} {ss : List Value} {cs : Array Value} {bc bk : Nat} {xs : List CorR} {ys : List CacS}
theorem YI.below (h : YI w X L n pr to ss cs bc bk xs ys) (hb : Below X.heap.size X Y) : YI w Y L n pr to ss cs bc bk xs ys :=
  ⟨block_below hb h.i, block_below hb h.s, block_below hb h.r, block_below hb h.c, block_below hb h.k, h.b.trans (hb.mono h.b.size)⟩
theorem YI.grown (h : YI w X L n pr to ss cs bc bk xs ys) {g : Nat} {cu : Array Value} {T : TypeId} {fr : Nat × Nat} (hg : X.heap[g]? = some (.cells cu T fr)) (h1 : T ≠ 134) (h2 : T ≠ 150) (hL : L + 3 ≤ g) (hw : w.heap.size ≤ L) (gY : X.grownBy Y (some g)) : YI w Y L n pr to ss cs bc bk xs ys := by
  have nc : bc ≠ g := fun e => by
    have := h.c
    rw [e, hg] at this
    simp only [Option.some.injEq, Obj.cells.injEq] at this
    exact h1 this.2.1
  have nk : bk ≠ g := fun e => by
    have := h.k
    rw [e, hg] at this
    simp only [Option.some.injEq, Obj.cells.injEq] at this
    exact h2 this.2.1
  exact ⟨(gY.block _ (hlt h.i) (by simp; omega)).trans h.i, (gY.block _ (hlt h.s) (by simp; omega)).trans h.s, (gY.block _ (hlt h.r) (by simp; omega)).trans h.r, (gY.block _ (hlt h.c) (by simpa using nc)).trans h.c, (gY.block _ (hlt h.k) (by simpa using nk)).trans h.k, h.b.trans (below_grown gY h.b.size (by omega))⟩
end
theorem sysI_c {n : Nat} {pr : Bool} {to l : List Int} {s : Sy} {ss : List Value} {xs : List CorR} {ys : List CacS} {p1 p2 p3 q : Option Addr} {c1 c2 c3 cap : Nat} {w : World} (hi : IdxOk n to) (ht : ∀ k, 0 ≤ to.getD k 0 ∧ to.getD k 0 < 64) (hss : ss = sysC (.slice p1 xs.length c1) (.slice p2 ys.length c2) s.homes (.slice p3 s.net.length c3)) (h6 : s.homes.length = 6) (hx : SlR corE w p1 xs) (hy : SlR cacE w p2 ys) (hne : RowB Msg.E w.heap.size w p3 s.net) (hn64 : s.net.length ≤ 64) (hl : SlR Go.Sei.intE w q l) (hl4 : l.length ≤ 4) (hrx : ∀ x ∈ l, 0 ≤ x ∧ x < xs.length) (hry : ∀ x ∈ l, 0 ≤ x ∧ x < ys.length) :
    Calls Tryz.prog 62 #[.agg (idxC n pr to).toArray, .agg ss.toArray, .slice q l.length cap] w fun e w' => ∃ bc bk bn, e = .returned (.agg (sysC (.slice (some ⟨bc, 0, none⟩) l.length l.length) (.slice (some ⟨bk, 0, none⟩) l.length l.length) (s.homes.map (turnH n pr to)) (.slice (some ⟨bn, 0, none⟩) s.net.length s.net.length)).toArray) ∧
      w'.heap[bc]? = some (.cells ((pickL corD xs l).flatMap corE.enc).toArray 134 (0, 0)) ∧ w'.heap[bk]? = some (.cells ((pickL cacD ys l).flatMap cacE.enc).toArray 150 (0, 0)) ∧ w'.heap[bn]? = some (.cells ((s.net.map (turnM n to)).flatMap Msg.E.enc).toArray 53 (0, 0)) ∧ (w.heap.size ≤ bc ∧ w.heap.size ≤ bk ∧ w.heap.size ≤ bn) ∧ Below w.heap.size w w' := by
  refine calls_of_M (S := sg 56) (sgOk _) (args := [.agg (idxC n pr to).toArray, .agg ss.toArray, .slice q l.length cap]) (.c .p (.c .p (.c .p (.c .p (.c .p .p))))) Tryz.func62 rfl rfl (Nat.le_of_ble_eq_true rfl) rfl ?_
  have hil : (idxC n pr to).length = 6 := by
    unfold idxC
    rw [List.length_cons, List.length_cons, List.length_map, hi.2.1]
  have hsl : ss.length = 69 := by rw [hss]; exact sysC_len h6
  have hH : (s.homes.flatMap homE.enc).length = 66 := by rw [flat_len, h6]; rfl
  obtain ⟨L, hL⟩ : ∃ L, L = w.heap.size := ⟨_, rfl⟩
  refine ⟨Unit, fun _ => ⟨[(2, .slice q l.length cap), (3, .pointer (some ⟨L, 0, none⟩)), (4, .pointer (some ⟨L + 1, 0, none⟩)), (6, .pointer (some ⟨L + 2, 0, none⟩))], []⟩, fun _ X => X.heap[L]? = some (.cells (idxC n pr to).toArray 116 (0, 0)) ∧ X.heap[L + 1]? = some (.cells ss.toArray 75 (0, 0)) ∧ X.heap[L + 2]? = some (.cells eSysC.toArray 75 (0, 0)) ∧ X.heap.size = L + 3 ∧ Below w.heap.size w X, ?_, ?_⟩
  · obtain ⟨W1, hW1⟩ : ∃ W1, W1 = w.alloc (.cells (idxC n pr to).toArray 116) := ⟨_, rfl⟩
    obtain ⟨W2, hW2⟩ : ∃ W2, W2 = W1.alloc (.cells ss.toArray 75) := ⟨_, rfl⟩
    have s1 : W1.heap.size = L + 1 := by rw [hW1, World.size_alloc, hL]
    have s2 : W2.heap.size = L + 2 := by rw [hW2, World.size_alloc, s1]
    have q1 : some (Value.pointer (some ⟨w.heap.size, 0, none⟩)) = some (Value.pointer (some ⟨L, 0, none⟩)) := by rw [hL]
    have q2 : some (Value.pointer (some ⟨W1.heap.size, 0, none⟩)) = some (Value.pointer (some ⟨L + 1, 0, none⟩)) := by rw [s1]
    have q3 : some (Value.pointer (some ⟨W2.heap.size, 0, none⟩)) = some (Value.pointer (some ⟨L + 2, 0, none⟩)) := by rw [s2]
    rw [hW2, hW1] at q3
    rw [hW1] at q2
    refine ⟨(), ⟨.cons rfl (.cons q1 (.cons q2 (.cons q3 .nil))), rfl⟩, ?_⟩
    have hM : (W2.alloc (.cells eSysC.toArray 75)).heap[L]? = some (.cells (idxC n pr to).toArray 116 (0, 0)) ∧ (W2.alloc (.cells eSysC.toArray 75)).heap[L + 1]? = some (.cells ss.toArray 75 (0, 0)) ∧ (W2.alloc (.cells eSysC.toArray 75)).heap[L + 2]? = some (.cells eSysC.toArray 75 (0, 0)) ∧ (W2.alloc (.cells eSysC.toArray 75)).heap.size = L + 3 ∧ Below w.heap.size w (W2.alloc (.cells eSysC.toArray 75)) := by
      refine ⟨hold _ ?_, hold _ ?_, ?_, by rw [World.size_alloc, s2], ?_⟩
      · rw [hW2, hW1, hL]; exact hold _ (hnew w _)
      · rw [hW2, ← s1]; exact hnew W1 _
      · rw [← s2]; exact hnew W2 _
      · rw [hW2, hW1]; exact (((Below.refl _ w).alloc (Nat.le_refl _) _).alloc (by simp) _).alloc (by simp; omega) _
    rw [hW2, hW1] at hM
    exact hM
  rintro _ X ⟨fi, fs, fr, sX, hbX⟩
  refine ⟨Nat × Nat × Nat, fun b => ⟨[(3, .pointer (some ⟨L, 0, none⟩)), (4, .pointer (some ⟨L + 1, 0, none⟩)), (6, .pointer (some ⟨L + 2, 0, none⟩)), (7, .pointer (some ⟨b.1, 0, none⟩))], []⟩,
    fun b Y => YI w Y L n pr to ss eSysC.toArray b.2.1 b.2.2 (pickL corD xs l) (pickL cacD ys l) ∧ Y.heap[b.1]? = some (.cells (sysC (.slice (some ⟨b.2.1, 0, none⟩) l.length l.length) (.slice (some ⟨b.2.2, 0, none⟩) l.length l.length) (List.replicate 6 eHom) (.slice none 0 0)).toArray 75 (0, 0)) ∧ L + 3 ≤ b.1 ∧ L + 3 ≤ b.2.1 ∧ L + 3 ≤ b.2.2, ?_, ?_⟩
  · have hbd : Below X.heap.size X X.drew := (Below.refl _ X).drew
    have sXd : X.drew.heap.size = X.heap.size := rfl
    have core : ∀ W : World, Below X.heap.size X W → Calls Tryz.prog 114 #[.slice p1 xs.length c1, .slice q l.length cap] W fun e w' => ∃ b, e = .returned (.slice (some ⟨b, 0, none⟩) l.length l.length) ∧ w'.heap[b]? = some (.cells ((pickL corD xs l).flatMap corE.enc).toArray 134 (0, 0)) ∧ W.heap.size ≤ b ∧ Below W.heap.size W w' := fun W hW => by
      have h := hbX.trans (hW.mono hbX.size)
      exact reorder_core_c (hx.below h) (hl.below h) hrx (by omega)
    have cache : ∀ W : World, Below X.heap.size X W → Calls Tryz.prog 115 #[.slice p2 ys.length c2, .slice q l.length cap] W fun e w' => ∃ b, e = .returned (.slice (some ⟨b, 0, none⟩) l.length l.length) ∧ w'.heap[b]? = some (.cells ((pickL cacD ys l).flatMap cacE.enc).toArray 150 (0, 0)) ∧ W.heap.size ≤ b ∧ Below W.heap.size W w' := fun W hW => by
      have h := hbX.trans (hW.mono hbX.size)
      exact reorder_cache_c (hy.below h) (hl.below h) hry (by omega)
    have put : ∀ (W : World) (b7 bc bk : Nat), Below X.heap.size X W → W.heap[b7]? = some (.cells eSysC.toArray 75 (0, 0)) → W.heap[bc]? = some (.cells ((pickL corD xs l).flatMap corE.enc).toArray 134 (0, 0)) → W.heap[bk]? = some (.cells ((pickL cacD ys l).flatMap cacE.enc).toArray 150 (0, 0)) → X.heap.size ≤ b7 → X.heap.size ≤ bc → X.heap.size ≤ bk → ∀ {K : World → Prop},
        (∀ Y, (YI w Y L n pr to ss eSysC.toArray bc bk (pickL corD xs l) (pickL cacD ys l) ∧ Y.heap[b7]? = some (.cells (sysC (.slice (some ⟨bc, 0, none⟩) l.length l.length) (.slice (some ⟨bk, 0, none⟩) l.length l.length) (List.replicate 6 eHom) (.slice none 0 0)).toArray 75 (0, 0)) ∧ L + 3 ≤ b7 ∧ L + 3 ≤ bc ∧ L + 3 ≤ bk) → K Y) →
        SatR ((storeVar 75 ⟨b7, 0, none⟩ (.agg (sysC (.slice (some ⟨bc, 0, none⟩) l.length l.length) (.slice (some ⟨bk, 0, none⟩) l.length l.length) (List.replicate 6 eHom) (.slice none 0 0)).toArray)).run Tryz.prog W) fun _ w' => K w' := by
      intro W b7 bc bk hXW f7 fc fk h7 hc hk K k
      refine store_box (v := .agg (sysC (.slice (some ⟨bc, 0, none⟩) l.length l.length) (.slice (some ⟨bk, 0, none⟩) l.length l.length) (List.replicate 6 eHom) (.slice none 0 0)).toArray) (ttOk.get 75 _ rfl) f7 rfl rfl (sysC_one rfl rfl rfl) ?_
      have hY : YI w W L n pr to ss eSysC.toArray bc bk (pickL corD xs l) (pickL cacD ys l) := ⟨block_below hXW fi, block_below hXW fs, block_below hXW fr, fc, fk, hbX.trans (hXW.mono hbX.size)⟩
      exact k _ ⟨hY.grown f7 (by decide) (by decide) (by omega) (by omega) (grown_setRow _ _ _), setRow_new f7, by omega, by omega, by omega⟩
    refine DrawE.treeQ [10] (.op 0 (.op 1 (.op 2 (.op 4 (.op 5 (.op 6 (.alt (.op 9 (.op 3 (.op 7 (.op 8 (.op 10 .nil))))) (.op 3 (.alt (.op 9 (.op 7 (.op 8 (.op 10 .nil)))) (.op 7 (.op 8 (.op 9 (.op 10 .nil))))))))))))) (by kernel_rfl) ?_
    have fsd : X.drew.heap[L + 1]? = some (.cells ss.toArray 75 (0, 0)) := fs
    refine ⟨_, cells_at (cells_block fsd) (i := 0) (by rw [hss]; rfl), ?_⟩
    refine ⟨_, cells_at (cells_block fsd) (i := 1) (by rw [hss]; rfl), ?_⟩
    refine And.intro ?_ ?_
    · have hba : Below X.heap.size X (X.drew.alloc (.cells eSysC.toArray 75)) := hbd.alloc (Nat.le_refl _) _
      refine ⟨(Below.refl _ _).alloc (Nat.le_refl _) _, ?_⟩
      refine Calls.mono (core _ hba) ?_
      rintro e A ⟨bc, rfl, fc, hbc, hbA⟩
      refine ⟨hbA, ?_⟩
      have h1 := hba.trans (hbA.mono hba.size)
      refine Calls.mono (cache A h1) ?_
      rintro e W ⟨bk, rfl, fk, hbk, hbW⟩
      refine ⟨hbW, ?_⟩
      have h2 := h1.trans (hbW.mono h1.size)
      refine ⟨sysC (.slice (some ⟨bc, 0, none⟩) l.length l.length) (.slice (some ⟨bk, 0, none⟩) l.length l.length) (List.replicate 6 eHom) (.slice none 0 0), rfl, ?_⟩
      have hs1 := hba.size
      have hs2 := h1.size
      refine put W X.heap.size bc bk h2 (block_below hbW (block_below hbA (hnew X.drew _))) (block_below hbW fc) fk (Nat.le_refl _) (Nat.le_trans hba.size hbc) (Nat.le_trans h1.size hbk) ?_
      intro Y hY
      exact ⟨(X.heap.size, bc, bk), ⟨.cons rfl (.cons rfl (.cons rfl (.cons rfl .nil))), rfl⟩, hY⟩
    refine Calls.mono (core _ hbd) ?_
    rintro e A ⟨bc, rfl, fc, hbc, hbA⟩
    refine ⟨hbA, ?_⟩
    have h1 := hbd.trans (hbA.mono hbd.size)
    have hs1 := h1.size
    have hba : ∀ (A : World) (o : Obj), Below A.heap.size A (A.alloc o) := fun A o => (Below.refl _ _).alloc (Nat.le_refl _) _
    refine And.intro ?_ ?_
    · refine ⟨hba _ _, ?_⟩
      have h1a := h1.trans ((hba A (.cells eSysC.toArray 75)).mono h1.size)
      have sa : (A.alloc (.cells eSysC.toArray 75)).heap.size = A.heap.size + 1 := World.size_alloc _ _
      refine Calls.mono (cache _ h1a) ?_
      rintro e W ⟨bk, rfl, fk, hbk, hbW⟩
      refine ⟨hbW, ?_⟩
      have h2 := h1a.trans (hbW.mono h1a.size)
      refine ⟨sysC (.slice (some ⟨bc, 0, none⟩) l.length l.length) (.slice (some ⟨bk, 0, none⟩) l.length l.length) (List.replicate 6 eHom) (.slice none 0 0), rfl, ?_⟩
      refine put W A.heap.size bc bk h2 (block_below hbW (hnew A _)) (block_below hbW (hold _ fc)) fk hs1 hbc (Nat.le_trans h1a.size hbk) ?_
      intro Y hY
      exact ⟨(A.heap.size, bc, bk), ⟨.cons rfl (.cons rfl (.cons rfl (.cons rfl .nil))), rfl⟩, hY⟩
    · refine Calls.mono (cache A h1) ?_
      rintro e W ⟨bk, rfl, fk, hbk, hbW⟩
      refine ⟨hbW, ?_⟩
      have h2 := h1.trans (hbW.mono h1.size)
      refine ⟨sysC (.slice (some ⟨bc, 0, none⟩) l.length l.length) (.slice (some ⟨bk, 0, none⟩) l.length l.length) (List.replicate 6 eHom) (.slice none 0 0), rfl, ?_⟩
      refine ⟨hba _ _, ?_⟩
      refine put _ W.heap.size bc bk (h2.trans ((hba W _).mono h2.size)) (hnew W _) (hold _ (block_below hbW fc)) (hold _ fk) h2.size hbc (Nat.le_trans h1.size hbk) ?_
      intro Y hY
      exact ⟨(W.heap.size, bc, bk), ⟨.cons rfl (.cons rfl (.cons rfl (.cons rfl .nil))), rfl⟩, hY⟩
  clear fi fs fr sX hbX X
  rintro ⟨b7, bc, bk⟩ X ⟨hX, f7, h7, hbc, hbk⟩
  dsimp only at hX f7 h7 hbc hbk ⊢
  have hwL : w.heap.size ≤ L := by omega
  refine ⟨Unit, fun _ => ⟨[(3, .pointer (some ⟨L, 0, none⟩)), (4, .pointer (some ⟨L + 1, 0, none⟩)), (6, .pointer (some ⟨L + 2, 0, none⟩)), (7, .pointer (some ⟨b7, 0, none⟩))], []⟩,
    fun _ Y => YI w Y L n pr to ss eSysC.toArray bc bk (pickL corD xs l) (pickL cacD ys l) ∧ Y.heap[b7]? = some (.cells (sysC (.slice (some ⟨bc, 0, none⟩) l.length l.length) (.slice (some ⟨bk, 0, none⟩) l.length l.length) (s.homes.map (turnH n pr to)) (.slice none 0 0)).toArray 75 (0, 0)), ?_, ?_⟩
  · refine ⟨s.homes.flatMap homE.enc, hH, ?_, hlt hX.s, ?_⟩
    · have := cells_sub (n := 2) (m := 66) (cells_block hX.s)
      have e : (ss.drop 2).take 66 = s.homes.flatMap homE.enc := by
        rw [hss]
        show (s.homes.flatMap homE.enc ++ [_]).take 66 = _
        rw [List.take_append_of_le_length (by omega), List.take_of_length_le (by omega)]
      rw [e] at this
      exact this
    refine ⟨Nat, fun k => ⟨[(3, .pointer (some ⟨L, 0, none⟩)), (4, .pointer (some ⟨L + 1, 0, none⟩)), (6, .pointer (some ⟨L + 2, 0, none⟩)), (7, .pointer (some ⟨b7, 0, none⟩)), (22, .agg (s.homes.flatMap homE.enc).toArray), (23, i64 (k : Nat))], []⟩,
      fun k Y => k ≤ 6 ∧ YI w Y L n pr to ss eSysC.toArray bc bk (pickL corD xs l) (pickL cacD ys l) ∧ Y.heap[b7]? = some (.cells (sysC (.slice (some ⟨bc, 0, none⟩) l.length l.length) (.slice (some ⟨bk, 0, none⟩) l.length l.length) ((s.homes.take k).map (turnH n pr to) ++ List.replicate (6 - k) eHom) (.slice none 0 0)).toArray 75 (0, 0)), fun k => 6 - k, 0,
      ⟨.cons rfl (.cons rfl (.cons rfl (.cons rfl (.cons rfl (.cons rfl .nil))))), rfl⟩, ⟨Nat.zero_le _, hX, f7⟩, ?_⟩
    clear hX f7 X
    rintro k X ⟨hk, hX, f7⟩
    dsimp only at hk f7 ⊢
    refine And.intro (fun hc => ?_) (fun hc => ?_)
    · have hk6 : (k : Int) < 6 := of_decide_eq_true hc
      have hkl : k < s.homes.length := by omega
      refine ⟨k, rfl, by omega, ?_⟩
      refine partE_agg (v := (homE.enc s.homes[k]).toArray) (by rw [← flat_get (E := homE) _ k hkl]; rfl) ?_
      refine store_new (X := X) (v := .agg (homE.enc s.homes[k]).toArray) (ttOk.get 72 _ rfl) rfl rfl rfl fun Y hbY fY sY => ?_
      have hY := hX.below hbY
      refine ⟨idxC n pr to, hil, cells_block hY.i, hlt hY.i, ?_⟩
      refine ⟨homE.enc s.homes[k], rfl, cells_block fY, hlt fY, ?_⟩
      refine Calls.mono (dir_c hi ht) ?_
      rintro e Z ⟨rfl, hbZ⟩
      have hZ := hY.below hbZ
      have f7Z := block_below hbZ (block_below hbY f7)
      have hA : ((s.homes.take k).map (turnH n pr to)).length = k := by rw [List.length_map, List.length_take]; omega
      have e1 : List.replicate (6 - k) eHom = eHom :: List.replicate (6 - (k + 1)) eHom := by
        rw [show 6 - k = (6 - (k + 1)) + 1 by omega, List.replicate_succ]
      obtain ⟨A, hAe⟩ : ∃ A : List Value, A = [Value.slice (some ⟨bc, 0, none⟩) l.length l.length, .slice (some ⟨bk, 0, none⟩) l.length l.length] ++ ((s.homes.take k).map (turnH n pr to)).flatMap homE.enc := ⟨_, rfl⟩
      obtain ⟨Zt, hZe⟩ : ∃ Zt : List Value, Zt = (List.replicate (6 - (k + 1)) eHom).flatMap homE.enc ++ [.slice none 0 0] := ⟨_, rfl⟩
      have hAl : A.length = 2 + k * 11 := by
        rw [hAe, List.length_append, flat_len, hA]; rfl
      have eold : sysC (.slice (some ⟨bc, 0, none⟩) l.length l.length) (.slice (some ⟨bk, 0, none⟩) l.length l.length) ((s.homes.take k).map (turnH n pr to) ++ List.replicate (6 - k) eHom) (.slice none 0 0) = A ++ (homE.enc eHom ++ Zt) := by
        rw [hAe, hZe, e1]
        unfold sysC
        rw [List.flatMap_append, List.flatMap_cons]
        simp only [List.cons_append, List.nil_append, List.append_assoc]
      have enew : sysC (.slice (some ⟨bc, 0, none⟩) l.length l.length) (.slice (some ⟨bk, 0, none⟩) l.length l.length) ((s.homes.take (k + 1)).map (turnH n pr to) ++ List.replicate (6 - (k + 1)) eHom) (.slice none 0 0) = (A ++ homE.enc (turnH n pr to s.homes[k])) ++ Zt := by
        rw [hAe, hZe]
        unfold sysC
        rw [List.take_succ_eq_append_getElem hkl, List.map_append, List.flatMap_append, List.flatMap_append]
        simp only [List.map_cons, List.map_nil, List.flatMap_cons, List.flatMap_nil, List.append_nil, List.cons_append, List.nil_append, List.append_assoc]
      rw [eold] at f7Z
      refine ⟨k, rfl, by omega, ?_⟩
      refine store_part (ttOk.get 72 _ rfl) f7Z (o := 0 + 2 + k * 11) (v := .agg (homE.enc (turnH n pr to s.homes[k])).toArray) rfl (by
        show 0 + 2 + k * 11 + 11 ≤ (A ++ (homE.enc eHom ++ Zt)).length
        rw [List.length_append, List.length_append, hAl]
        show _ ≤ _ + (11 + _)
        omega) rfl fun Y2 fY2 gY2 sY2 => ?_
      refine ⟨_, (wrap_i64 (by omega)).trans rfl, ?_⟩
      refine ⟨k + 1, ⟨.cons rfl (.cons rfl (.cons rfl (.cons rfl (.cons rfl (.cons rfl .nil))))), rfl⟩, ⟨by omega, hZ.grown f7Z (by decide) (by decide) h7 hwL gY2, ?_⟩, by show 6 - (k + 1) < 6 - k; omega⟩
      rw [fY2, enew]
      congr 2
      have e4 := part_next (A := A) (Z := Zt) (z := homE.enc eHom) (v := homE.enc (turnH n pr to s.homes[k])) ((homE.len _).trans (homE.len _).symm)
      rw [hAl, show 2 + k * 11 = 0 + 2 + k * 11 by omega] at e4
      exact congrArg List.toArray e4
    · have hk6 : ¬ (k : Int) < 6 := of_decide_eq_false hc
      obtain rfl : k = 6 := by omega
      have e1 : s.homes.take 6 = s.homes := List.take_of_length_le (by omega)
      rw [e1] at f7
      have e2 : s.homes.map (turnH n pr to) ++ List.replicate (6 - 6) eHom = s.homes.map (turnH n pr to) := List.append_nil _
      rw [e2] at f7
      exact ⟨(), ⟨.cons rfl (.cons rfl (.cons rfl (.cons rfl .nil))), rfl⟩, hX, f7⟩
  clear hX f7 X
  rintro _ X ⟨hX, f7⟩
  have hH2 : (s.homes.map (turnH n pr to)).length = 6 := by rw [List.length_map, h6]
  have hHl : ((s.homes.map (turnH n pr to)).flatMap homE.enc).length = 66 := by rw [flat_len, hH2]; rfl
  have n68 : ss[68]? = some (.slice p3 s.net.length c3) := by
    rw [hss]; exact sys_net hH
  obtain ⟨bn, hbn⟩ : ∃ bn, bn = X.heap.size := ⟨_, rfl⟩
  refine ⟨Unit, fun _ => ⟨[(3, .pointer (some ⟨L, 0, none⟩)), (4, .pointer (some ⟨L + 1, 0, none⟩)), (6, .pointer (some ⟨L + 2, 0, none⟩)), (7, .pointer (some ⟨b7, 0, none⟩))], []⟩,
    fun _ Y => YI w Y L n pr to ss eSysC.toArray bc bk (pickL corD xs l) (pickL cacD ys l) ∧ Y.heap[b7]? = some (.cells (sysC (.slice (some ⟨bc, 0, none⟩) l.length l.length) (.slice (some ⟨bk, 0, none⟩) l.length l.length) (s.homes.map (turnH n pr to)) (.slice (some ⟨bn, 0, none⟩) s.net.length s.net.length)).toArray 75 (0, 0)) ∧ Y.heap[bn]? = some (.cells (zrep zMsgC s.net.length).toArray 53 (0, 0)), ?_, ?_⟩
  · refine ⟨_, cells_at (cells_block hX.s) (i := 68) n68, ?_⟩
    refine make_zero (z := zMsgC) Tryz.underlying45 (ttOk.get 53 _ rfl) rfl rfl (by decide) _ (by show 11 * _ ≤ _; omega) (by omega) fun V fV hbV sV => ?_
    have hV := hX.below hbV
    have f7V := block_below hbV f7
    refine store_one (ttOk.get 45 _ rfl) f7V (o := 0 + 68) (v := .slice (some ⟨X.heap.size, 0, none⟩) s.net.length s.net.length) rfl rfl (by rw [sysC_len hH2]; decide) rfl fun Y fY gY sY => ?_
    refine ⟨(), ⟨.cons rfl (.cons rfl (.cons rfl (.cons rfl .nil))), rfl⟩, hV.grown f7V (by decide) (by decide) h7 hwL gY, ?_, ?_⟩
    · rw [fY, hbn]
      congr 2
      unfold sysC
      show (_ :: _ :: ((((s.homes.map (turnH n pr to)).flatMap homE.enc) ++ [Value.slice none 0 0]).set 66 _)).toArray = _
      rw [List.set_append_right _ _ (by omega), hHl]; rfl
    · rw [hbn]
      exact (gY.block _ (hlt fV) (by have := hlt f7; simp; omega)).trans fV
  have hbn7 : b7 ≠ bn := by have := hlt f7; omega
  have hbnL : L + 3 ≤ bn := by have := hlt hX.r; omega
  clear hX f7 hbn X
  rintro _ X ⟨hX, f7, fn⟩
  refine ⟨Unit, fun _ => ⟨[(3, .pointer (some ⟨L, 0, none⟩)), (4, .pointer (some ⟨L + 1, 0, none⟩)), (6, .pointer (some ⟨L + 2, 0, none⟩)), (7, .pointer (some ⟨b7, 0, none⟩))], []⟩,
    fun _ Y => YI w Y L n pr to ss eSysC.toArray bc bk (pickL corD xs l) (pickL cacD ys l) ∧ Y.heap[b7]? = some (.cells (sysC (.slice (some ⟨bc, 0, none⟩) l.length l.length) (.slice (some ⟨bk, 0, none⟩) l.length l.length) (s.homes.map (turnH n pr to)) (.slice (some ⟨bn, 0, none⟩) s.net.length s.net.length)).toArray 75 (0, 0)) ∧ Y.heap[bn]? = some (.cells ((s.net.map (turnM n to)).flatMap Msg.E.enc).toArray 53 (0, 0)), ?_, ?_⟩
  · refine ⟨_, cells_at (cells_block hX.s) (i := 68) n68, ?_⟩
    refine ⟨Nat, fun k => ⟨[(3, .pointer (some ⟨L, 0, none⟩)), (4, .pointer (some ⟨L + 1, 0, none⟩)), (6, .pointer (some ⟨L + 2, 0, none⟩)), (7, .pointer (some ⟨b7, 0, none⟩)), (40, .slice p3 s.net.length c3), (41, i64 s.net.length), (42, i64 (k : Nat))], []⟩,
      fun k Y => k ≤ s.net.length ∧ YI w Y L n pr to ss eSysC.toArray bc bk (pickL corD xs l) (pickL cacD ys l) ∧ Y.heap[b7]? = some (.cells (sysC (.slice (some ⟨bc, 0, none⟩) l.length l.length) (.slice (some ⟨bk, 0, none⟩) l.length l.length) (s.homes.map (turnH n pr to)) (.slice (some ⟨bn, 0, none⟩) s.net.length s.net.length)).toArray 75 (0, 0)) ∧ Y.heap[bn]? = some (.cells (((s.net.take k).map (turnM n to)).flatMap Msg.E.enc ++ zrep zMsgC (s.net.length - k)).toArray 53 (0, 0)), fun k => s.net.length - k, 0,
      ⟨.cons rfl (.cons rfl (.cons rfl (.cons rfl (.cons rfl (.cons rfl (.cons rfl .nil)))))), rfl⟩, ⟨Nat.zero_le _, hX, f7, fn⟩, ?_⟩
    clear hX f7 fn X
    rintro k X ⟨hk, hX, f7, fn⟩
    dsimp only at hk fn ⊢
    refine And.intro (fun hc => ?_) (fun hc => ?_)
    · have hc : (k : Int) < (s.net.length : Int) := of_decide_eq_true hc
      have hkl : k < s.net.length := by omega
      obtain ⟨bm, om, hpm, hatm⟩ := (hne.below hX.b).get
      rcases hpm with hpm | hpm
      · omega
      subst hpm
      refine ⟨k, rfl, hkl, ?_⟩
      refine ⟨(s.net[k]).enc, rfl, (hatm k hkl).2, Nat.lt_of_lt_of_le (hatm k hkl).1 hX.b.size, ?_⟩
      refine store_new (X := X) (v := .agg (s.net[k]).enc.toArray) (ttOk.get 53 _ rfl) rfl rfl rfl fun Y hbY fY sY => ?_
      have hY := hX.below hbY
      refine DrawE.ord [7] [0, 1, 2, 3, 4, 5, 6, 7] (by kernel_rfl) ?_
      have hbd : Below Y.heap.size Y Y.drew := (Below.refl _ Y).drew
      have hYd := hY.below hbd
      have f7d : Y.drew.heap[b7]? = some (.cells (sysC (.slice (some ⟨bc, 0, none⟩) l.length l.length) (.slice (some ⟨bk, 0, none⟩) l.length l.length) (s.homes.map (turnH n pr to)) (.slice (some ⟨bn, 0, none⟩) s.net.length s.net.length)).toArray 75 (0, 0)) := block_below hbY f7
      refine ⟨_, cells_at (cells_block f7d) (i := 68) (by unfold sysC; exact sys_net hHl), ?_⟩
      refine ⟨idxC n pr to, hil, cells_block hYd.i, hlt hYd.i, ?_⟩
      refine ⟨(s.net[k]).enc, rfl, cells_block (hdr fY), hlt (hdr fY), ?_⟩
      refine Calls.mono (msg_c hi) ?_
      rintro e Z ⟨rfl, hbZ⟩
      refine ⟨hbZ, ?_⟩
      have hZ := hYd.below hbZ
      have fnZ : Z.heap[bn]? = some (.cells (((s.net.take k).map (turnM n to)).flatMap Msg.E.enc ++ zrep zMsgC (s.net.length - k)).toArray 53 (0, 0)) := block_below hbZ (hdr (block_below hbY fn))
      have f7Z := block_below hbZ f7d
      have e1 : s.net.length - k = (s.net.length - (k + 1)) + 1 := by omega
      rw [e1, zrep_succ] at fnZ
      have hA : (((s.net.take k).map (turnM n to)).flatMap Msg.E.enc).length = k * 11 := by
        rw [flat_len, List.length_map, List.length_take]
        show min k s.net.length * 11 = k * 11
        congr 1; omega
      refine ⟨k, rfl, hkl, ?_⟩
      refine store_part (ttOk.get 53 _ rfl) fnZ (o := 0 + k * 11) (v := .agg (turnM n to s.net[k]).enc.toArray) rfl (by
        show 0 + k * 11 + 11 ≤ (_ ++ (zMsgC ++ _) : List Value).length
        rw [List.length_append, List.length_append, hA]
        show _ ≤ _ + (11 + _)
        omega) rfl fun Y2 fY2 gY2 sY2 => ?_
      refine ⟨_, (wrap_i64 (by omega)).trans rfl, ?_⟩
      refine ⟨k + 1, ⟨.cons rfl (.cons rfl (.cons rfl (.cons rfl (.cons rfl (.cons rfl (.cons rfl .nil)))))), rfl⟩, ⟨hkl, hZ.grown fnZ (by decide) (by decide) hbnL hwL gY2, (gY2.block _ (hlt f7Z) (by simpa using hbn7)).trans f7Z, ?_⟩, by show s.net.length - (k + 1) < s.net.length - k; omega⟩
      rw [fY2]
      congr 2
      have e4 := part_next (A := ((s.net.take k).map (turnM n to)).flatMap Msg.E.enc) (Z := zrep zMsgC (s.net.length - (k + 1))) (z := zMsgC) (v := (turnM n to s.net[k]).enc) (Msg.E.len (turnM n to s.net[k])).symm
      rw [hA, show k * 11 = 0 + k * 11 by omega] at e4
      refine congrArg List.toArray (e4.trans ?_)
      congr 1
      rw [List.take_succ_eq_append_getElem hkl, List.map_append, List.flatMap_append]
      simp [Msg.E]
    · have hc : ¬ (k : Int) < (s.net.length : Int) := of_decide_eq_false hc
      obtain rfl : k = s.net.length := by omega
      rw [List.take_length, Nat.sub_self] at fn
      refine ⟨(), ⟨.cons rfl (.cons rfl (.cons rfl (.cons rfl .nil))), rfl⟩, hX, f7, ?_⟩
      rw [fn]; congr 2; exact congrArg List.toArray (List.append_nil _)
  clear hX f7 fn X
  rintro _ X ⟨hX, f7, fn⟩
  refine ⟨_, sysC_len hH2, cells_block f7, hlt f7, ?_⟩
  refine store_box (v := .agg (sysC (.slice (some ⟨bc, 0, none⟩) l.length l.length) (.slice (some ⟨bk, 0, none⟩) l.length l.length) (s.homes.map (turnH n pr to)) (.slice (some ⟨bn, 0, none⟩) s.net.length s.net.length)).toArray) (ttOk.get 75 _ rfl) hX.r (by show (sysC _ _ _ _).length = 69; exact sysC_len hH2) rfl (sysC_one rfl rfl rfl) ?_
  have f3 := setRow_new (cs' := (Value.agg (sysC (.slice (some ⟨bc, 0, none⟩) l.length l.length) (.slice (some ⟨bk, 0, none⟩) l.length l.length) (s.homes.map (turnH n pr to)) (.slice (some ⟨bn, 0, none⟩) s.net.length s.net.length)).toArray).cells) hX.r
  refine ⟨_, sysC_len hH2, cells_block f3, ?_⟩
  refine ⟨bc, bk, bn, rfl, ?_, ?_, ?_, ⟨by omega, by omega, by omega⟩, below_setRow hX.b (by omega) _⟩
  · exact (setRow_old (by omega)).trans hX.c
  · exact (setRow_old (by omega)).trans hX.k
  · exact (setRow_old (by omega)).trans fn
end Go.Proofs.YthgmcegmgjoafaaGreatDoor
namespace Go.Proofs.YthgmcegmgjoafaaGreatDoor
open Go.Vc Go.RowKit Go.Sei
theorem eqSto_some (d : Nat) (a : Addr) (n c : Nat) (w : World) : (Op.equalIn (d + 1) 132 (.slice (some a) n c) (.slice none 0 0)).run Tryz.prog w = .ok false w := by
  simp [Op.equalIn, run_underlying Tryz.underlying132]
theorem eqSto_none (d : Nat) (n c : Nat) (w : World) : (Op.equalIn (d + 1) 132 (.slice none n c) (.slice none 0 0)).run Tryz.prog w = .ok true w := by
  simp [Op.equalIn, run_underlying Tryz.underlying132]
theorem eqlSto (x y : Operand) (a : Option Addr) (n c : Nat) (w : World) : (do eqGuard .eql 132 x y (.slice a n c) (.slice none 0 0); binOp .eql 132 (.slice a n c) (.slice none 0 0) : Sem Value).run Tryz.prog w = .ok (.bool a.isNone) w := by
  have h : (Op.equal 132 (.slice a n c) (.slice none 0 0)).run Tryz.prog w = .ok a.isNone w := by
    cases a with
    | none => exact eqSto_none 9999 n c w
    | some a => exact eqSto_some 9999 a n c w
  have h1 : (eqGuard .eql 132 x y (.slice a n c) (.slice none 0 0)).run Tryz.prog w = .ok () w := by
    simp only [eqGuard, Bool.not_true, Bool.false_eq_true, if_false, Sem.run_pure]
  rw [Sem.run_bind, h1]
  simp only [Result.andThen_ok, binOp, Sem.run_bind, h, Sem.run_pure]
abbrev StoR := List Sto × Option Addr × Nat
def StoB (B : Nat) (X : World) (x : StoR) : Prop := (x.2.1 = none ∧ x.1 = []) ∨ ∃ b cur, x.2.1 = some ⟨b, 0, none⟩ ∧ B ≤ b ∧ X.heap[b]? = some (.cells cur 155 (0, 0)) ∧ cur.toList.take (x.1.length * 2) = x.1.flatMap stoE.enc
theorem StoB.same {B : Nat} {X Y : World} {x : StoR} (h : StoB B X x) (hs : ∀ b, x.2.1 = some ⟨b, 0, none⟩ → Y.heap[b]? = X.heap[b]?) : StoB B Y x := by
  rcases h with h | ⟨b, cur, h1, h2, h3, h4⟩
  · exact .inl h
  · exact .inr ⟨b, cur, h1, h2, (hs b h1).trans h3, h4⟩
theorem StoB.row {B : Nat} {X : World} {x : StoR} (h : StoB B X x) : SlR stoE X x.2.1 x.1 := by
  rcases h with ⟨_, h⟩ | ⟨b, cur, h1, h2, h3, h4⟩
  · exact .inl h
  · rw [h1]
    refine SlR.of_cells (hlt h3) ?_
    rw [← h4]
    have h5 : X.heap[b]? = some (.cells cur.toList.toArray 155 (0, 0)) := by simpa using h3
    exact cells_sub (n := 0) (m := x.1.length * 2) (cells_block h5)
theorem Clone_sto_c {q : Option Addr} {cap : Nat} {l : List Sto} {w : World} (hl : SlR stoE w q l) (hn : l.length ≤ 1000) :
    Calls Tryz.prog 65 #[.slice q l.length cap] w fun e w' => ∃ x : StoR, e = .returned (.slice x.2.1 l.length x.2.2) ∧ x.1 = l ∧ StoB w.heap.size w' x ∧ Below w.heap.size w w' := by
  refine calls_of_E (S := sg 8) (sgOk _) (args := [.slice q l.length cap]) Tryz.func65 rfl rfl (Nat.le_of_ble_eq_true rfl) rfl ?_
  refine ⟨_, fun w => eqlSto _ _ q l.length cap w, ?_⟩
  cases q with
  | none =>
    have h0 : l = [] := hl.none
    subst h0
    refine brT ?_
    exact ⟨([], none, 0), rfl, rfl, .inl ⟨rfl, rfl⟩, Below.refl _ _⟩
  | some a =>
    refine brF ?_
    refine ⟨⟨by decide, by decide, rfl⟩, [], rfl, ?_⟩
    have hb0 : Below w.heap.size w (w.alloc (.cells #[] 155)) := (Below.refl _ w).alloc (Nat.le_refl _) _
    have hown : OwnS stoE 155 w.heap.size (w.alloc (.cells #[] 155)) (some ⟨w.heap.size, 0, none⟩) 0 [] := by
      unfold OwnS World.ownsRow
      exact ⟨rfl, .inr ⟨w.heap.size, 0, #[], rfl, Nat.le_refl _, hnew w _, Nat.le_refl _, Nat.zero_le _, rfl, rfl⟩⟩
    refine app_any (E := stoE) (T := 155) (B := w.heap.size) (l := []) (news := l) (cap := 0) Tryz.underlying132 (ttOk.get 155 _ rfl) rfl rfl rfl hown rfl (hl.below hb0) (fun h => by cases h) hb0.size (by simp; omega) (by simp; show _ * 2 ≤ _; omega) ?_
    intro p' cap' w' ho hg hbw
    refine ⟨(l, p', cap'), rfl, rfl, ?_, hb0.trans hbw⟩
    rcases ho.inv with ⟨h1, _, h0⟩ | ⟨g, cur, rfl, hBg, hgg, _, _, _, ht⟩
    · exact .inl ⟨h1, h0⟩
    · exact .inr ⟨g, cur, rfl, hBg, hgg, ht⟩
def turnS (n : Nat) (pr : Bool) (to l : List Int) (s : Sy) : Sy := ⟨pickL corD.1 s.cores l, pickL cacD.1 s.caches l, s.homes.map (turnH n pr to), s.net.map (turnM n to)⟩
theorem pick_map {α β : Type} (f : α → β) (d : α) (xs : List α) (l : List Int) : (pickL d xs l).map f = pickL (f d) (xs.map f) l := by
  unfold pickL
  rw [List.map_map]
  refine List.map_congr_left fun x _ => ?_
  show f (xs.getD x.toNat d) = (xs.map f).getD x.toNat (f d)
  rw [List.getD_eq_getElem?_getD, List.getD_eq_getElem?_getD, List.getElem?_map]
  cases xs[x.toNat]? <;> rfl
theorem pickI_len {α : Type} {d : α} {xs : List α} {l : List Int} : (pickL d xs l).length = l.length := by unfold pickL; rw [List.length_map]
def BufI (B : Nat) (X : World) (x : CorR) : Prop := RowB stoE B X x.2.1 x.1.buf ∨ StoB B X (x.1.buf, x.2.1, x.2.2)
theorem BufI.below {B : Nat} {X Y : World} {x : CorR} (h : BufI B X x) (hB : B ≤ X.heap.size) (hb : Below X.heap.size X Y) : BufI B Y x := by
  rcases h with h | h
  · exact .inl (h.below (hb.mono hB))
  · refine .inr (h.same fun b hbb => ?_)
    rcases h with ⟨h1, _⟩ | ⟨b', cur, h1, _, h3, _⟩
    · rw [h1] at hbb; cases hbb
    · rw [h1] at hbb; cases hbb; exact hb.block _ (hlt h3)
theorem BufI.grown {B g : Nat} {X Y : World} {x : CorR} {cu : Array Value} {T : TypeId} {fr : Nat × Nat} (h : BufI B X x) (hg : X.heap[g]? = some (.cells cu T fr)) (hT : T ≠ 155) (hBX : B ≤ X.heap.size) (hBg : B ≤ g) (gY : X.grownBy Y (some g)) : BufI B Y x := by
  rcases h with h | h
  · exact .inl (h.below (below_grown gY hBX hBg))
  · refine .inr (h.same fun b hbb => ?_)
    rcases h with ⟨h1, _⟩ | ⟨b', cur, h1, _, h3, _⟩
    · rw [h1] at hbb; cases hbb
    · rw [h1] at hbb; cases hbb
      refine gY.block _ (hlt h3) ?_
      simp only [ne_eq, Option.some.injEq]
      intro e
      rw [← e, h3] at hg
      simp only [Option.some.injEq, Obj.cells.injEq] at hg
      exact hT hg.2.1.symm
theorem BufI.row {B : Nat} {X : World} {x : CorR} (h : BufI B X x) (hB : B ≤ X.heap.size) : RowB stoE X.heap.size X x.2.1 x.1.buf := by
  rcases h with h | h
  · exact h.mono hB
  · exact RowB.of_slr h.row
theorem set_cor {A Z : List CorR} {x : CorR} {p : Option Addr} {c : Nat} : ((A ++ x :: Z).flatMap corE.enc).set (0 + A.length * 12 + 9) (.slice p x.1.buf.length c) = (A ++ (x.1, p, c) :: Z).flatMap corE.enc := by
  rw [List.flatMap_append, List.flatMap_append, List.flatMap_cons, List.flatMap_cons]
  have hA : (A.flatMap corE.enc).length = A.length * 12 := flat_len A
  rw [List.set_append_right _ _ (by omega), hA, show 0 + A.length * 12 + 9 - A.length * 12 = 9 by omega]
  rfl
section
variable {p : Prg} {g : Geo} {md : UInt8} {vs ss : List Value} {s : Sy} {q : Option Addr} {cap : Nat} {l : List Int} {w : World}
theorem wld_geo {B : Nat} {X : World} (hw : WldV B X vs p g md) : (vs.drop 10).take 5 = g.enc := by
  obtain ⟨pc, rest, hvs, hp, _, _⟩ := hw
  rw [hvs, ← hp.size, List.drop_left]
  exact List.take_left' rfl
theorem Sys_c (hw : WldV w.heap.size w vs p g md) (hS : SysV w.heap.size w ss s) (hT : GlobT w) (h1 : vs.all Value.oneCell' = true) (hl : SlR Go.Sei.intE w q l) (hf : (turnsL p g && suitsL g md l) = true) :
    Calls Tryz.prog 20 #[.agg vs.toArray, .agg ss.toArray, .slice q l.length cap] w fun e w' => Below w.heap.size w w' ∧ ((fitsB g s = false ∧ e = .returned (.tuple #[.agg eSysC.toArray, i64 2])) ∨
      (fitsB g s = true ∧ ∃ ts : List Value, e = .returned (.tuple #[.agg ts.toArray, i64 0]) ∧ SysV w'.heap.size w' ts (turnS l.length (decide (md = 3)) (toN l l.length) l s))) := by
  refine calls_of_M (S := sg 46) (sgOk _) (args := [.agg vs.toArray, .agg ss.toArray, .slice q l.length cap]) (.c .p (.s .p (.c .p (.c .p .p)))) Tryz.func20 rfl rfl (Nat.le_of_ble_eq_true rfl) rfl ?_
  obtain ⟨n, hgc, hn1, hn4, hln, hr⟩ := fits_parts hf
  obtain ⟨L, hL⟩ : ∃ L, L = w.heap.size := ⟨_, rfl⟩
  refine ⟨Unit, fun _ => ⟨[(2, .slice q l.length cap), (3, .pointer (some ⟨L, 0, none⟩)), (4, .pointer (some ⟨L + 1, 0, none⟩)), (6, .pointer (some ⟨L + 2, 0, none⟩)), (7, i64 0)], []⟩, fun _ X => X.heap[L]? = some (.cells vs.toArray 44 (0, 0)) ∧
    X.heap[L + 1]? = some (.cells ss.toArray 75 (0, 0)) ∧ X.heap[L + 2]? = some (.cells eSysC.toArray 75 (0, 0)) ∧ X.heap.size = L + 3 ∧ Below w.heap.size w X, ?_, ?_⟩
  · obtain ⟨W1, hW1⟩ : ∃ W1, W1 = w.alloc (.cells vs.toArray 44) := ⟨_, rfl⟩
    obtain ⟨W2, hW2⟩ : ∃ W2, W2 = W1.alloc (.cells ss.toArray 75) := ⟨_, rfl⟩
    have s1 : W1.heap.size = L + 1 := by rw [hW1, World.size_alloc, hL]
    have s2 : W2.heap.size = L + 2 := by rw [hW2, World.size_alloc, s1]
    have q1 : some (Value.pointer (some ⟨w.heap.size, 0, none⟩)) = some (Value.pointer (some ⟨L, 0, none⟩)) := by rw [hL]
    have q2 : some (Value.pointer (some ⟨W1.heap.size, 0, none⟩)) = some (Value.pointer (some ⟨L + 1, 0, none⟩)) := by rw [s1]
    have q3 : some (Value.pointer (some ⟨W2.heap.size, 0, none⟩)) = some (Value.pointer (some ⟨L + 2, 0, none⟩)) := by rw [s2]
    rw [hW2, hW1] at q3
    rw [hW1] at q2
    refine ⟨(), ⟨.cons rfl (.cons q1 (.cons q2 (.cons q3 (.cons rfl .nil)))), rfl⟩, ?_⟩
    have hM : (W2.alloc (.cells eSysC.toArray 75)).heap[L]? = some (.cells vs.toArray 44 (0, 0)) ∧ (W2.alloc (.cells eSysC.toArray 75)).heap[L + 1]? = some (.cells ss.toArray 75 (0, 0)) ∧ (W2.alloc (.cells eSysC.toArray 75)).heap[L + 2]? = some (.cells eSysC.toArray 75 (0, 0)) ∧ (W2.alloc (.cells eSysC.toArray 75)).heap.size = L + 3 ∧ Below w.heap.size w (W2.alloc (.cells eSysC.toArray 75)) := by
      refine ⟨hold _ ?_, hold _ ?_, ?_, by rw [World.size_alloc, s2], ?_⟩
      · rw [hW2, hW1, hL]; exact hold _ (hnew w _)
      · rw [hW2, ← s1]; exact hnew W1 _
      · rw [← s2]; exact hnew W2 _
      · rw [hW2, hW1]; exact (((Below.refl _ w).alloc (Nat.le_refl _) _).alloc (by simp) _).alloc (by simp; omega) _
    rw [hW2, hW1] at hM
    exact hM
  rintro _ X ⟨f0, f1, f2, sX, hbX⟩
  refine ⟨vs, hw.len, cells_block f0, hlt f0, ?_⟩
  refine Calls.mono (FitsT_c hbX.size (hw.below hbX) (hT.below hbX) h1 (hl.below hbX) (by omega)) ?_
  rintro e V ⟨rfl, hbV⟩
  rw [hf]
  have hbw : Below w.heap.size w V := hbX.trans (hbV.mono hbX.size)
  refine brF ?_
  replace f0 := block_below hbV f0
  replace f1 := block_below hbV f1
  replace f2 := block_below hbV f2
  refine ⟨vs, hw.len, cells_block f0, hlt f0, ?_⟩
  refine ⟨ss, hS.len, cells_block f1, hlt f1, ?_⟩
  refine Calls.mono (FitsG_c (wld_geo hw) ((hS.below hbw).mono hbw.size) (hT.below hbw).M) ?_
  rintro e U ⟨rfl, hbU⟩
  have hwU : Below w.heap.size w U := hbw.trans (hbU.mono hbw.size)
  replace f0 := block_below hbU f0
  replace f1 := block_below hbU f1
  replace f2 := block_below hbU f2
  have sU : L + 3 ≤ U.heap.size := hlt f2
  refine And.intro (fun hh => ?_) (fun hh => ?_)
  · have hh : fitsB g s = false := by
      have hh : (!fitsB g s) = true := hh
      simpa using hh
    refine ⟨eSysC, by kernel_rfl, ?_⟩
    refine store_box (v := .agg eSysC.toArray) (ttOk.get 75 _ rfl) f2 rfl rfl rfl ?_
    have f3 := setRow_new (cs' := (Value.agg eSysC.toArray).cells) f2
    refine ⟨eSysC, rfl, cells_block f3, ?_⟩
    exact ⟨below_setRow hwU (by omega) _, .inl ⟨hh, rfl⟩⟩
  have hh : fitsB g s = true := by
    have hh : (!fitsB g s) = false := hh
    simpa using hh
  have hparts : s.cores.length = n ∧ s.caches.length = n ∧ s.net.length ≤ 64 := by
    unfold fitsB fit4 at hh
    simp only [Bool.and_eq_true, decide_eq_true_eq] at hh
    obtain ⟨⟨⟨⟨_, h2⟩, h3⟩, h4⟩, _⟩ := hh
    exact ⟨by omega, by omega, h4⟩
  obtain ⟨hcn, hkn, hn64⟩ := hparts
  obtain ⟨⟨p1, c1, p2, c2, p3, c3, hss, hco, hca, hne, hnil⟩, h6⟩ := id hS
  obtain ⟨xs, hxs, hx, hxb⟩ := cors_row hco (Nat.le_refl _)
  obtain ⟨ys, hys, hy⟩ := cacs_row hca (Nat.le_refl _)
  have hxl : xs.length = s.cores.length := by rw [← hxs, List.length_map]
  have hyl : ys.length = s.caches.length := by rw [← hys, List.length_map]
  have hss2 : ss = sysC (.slice p1 xs.length c1) (.slice p2 ys.length c2) s.homes (.slice p3 s.net.length c3) := by rw [hss, hxl, hyl]; rfl
  have hrn : ∀ x ∈ l, 0 ≤ x ∧ x < n := by
    simp only [turnsL, suitsL, permL, Bool.and_eq_true, decide_eq_true_eq] at hf
    intro x hx
    have := perm_range hf.2.1.2 x hx
    omega
  have hio : IdxOk n (toN l l.length) := idx_ok hn4 (by omega)
  obtain ⟨to, hto⟩ : ∃ to, to = toN l l.length := ⟨_, rfl⟩
  have htg : ∀ k, 0 ≤ to.getD k 0 ∧ to.getD k 0 < 64 := fun k => by rw [hto]; exact toN_get (by omega) k
  rw [← hto] at hio ⊢
  obtain ⟨pr, hpr⟩ : ∃ pr, pr = decide (md = 3) := ⟨_, rfl⟩
  rw [← hpr]
  have hH2 : (s.homes.map (turnH n pr to)).length = 6 := by rw [List.length_map, h6]
  obtain ⟨zs, hzs⟩ : ∃ zs, zs = pickL corD xs l := ⟨_, rfl⟩
  have hzl : zs.length = l.length := by rw [hzs]; exact pickI_len
  have hzb : ∀ x ∈ zs, RowB stoE w.heap.size w x.2.1 x.1.buf := fun x hm => by
    rw [hzs] at hm
    unfold pickL at hm
    obtain ⟨i, hi, rfl⟩ := List.mem_map.1 hm
    have := hrn i hi
    have h0 : i.toNat < xs.length := by omega
    rw [List.getD_eq_getElem?_getD, List.getElem?_eq_getElem h0]
    exact hxb _ (List.getElem_mem h0)
  refine ⟨Nat × Nat × Nat × Nat, fun b => ⟨[(6, .pointer (some ⟨L + 2, 0, none⟩)), (8, .pointer (some ⟨b.1, 0, none⟩))], []⟩,
    fun b Y => Y.heap[b.1]? = some (.cells (sysC (.slice (some ⟨b.2.1, 0, none⟩) l.length l.length) (.slice (some ⟨b.2.2.1, 0, none⟩) l.length l.length) (s.homes.map (turnH n pr to)) (.slice (some ⟨b.2.2.2, 0, none⟩) s.net.length s.net.length)).toArray 75 (0, 0)) ∧ Y.heap[b.2.1]? = some (.cells (zs.flatMap corE.enc).toArray 134 (0, 0)) ∧ Y.heap[b.2.2.1]? = some (.cells ((pickL cacD ys l).flatMap cacE.enc).toArray 150 (0, 0)) ∧ Y.heap[b.2.2.2]? = some (.cells ((s.net.map (turnM n to)).flatMap Msg.E.enc).toArray 53 (0, 0)) ∧ Y.heap[L + 2]? = some (.cells eSysC.toArray 75 (0, 0)) ∧ (L + 3 ≤ b.1 ∧ L + 3 ≤ b.2.1 ∧ L + 3 ≤ b.2.2.1 ∧ L + 3 ≤ b.2.2.2) ∧ Below w.heap.size w Y, ?_, ?_⟩
  · have hbd : Below U.heap.size U U.drew := (Below.refl _ U).drew
    have index : ∀ W : World, Below U.heap.size U W → Calls Tryz.prog 47 #[.pointer (some ⟨L, 0, none⟩), .slice q l.length cap] W fun e w' => e = .returned (.agg (idxC n pr to).toArray) ∧ Below W.heap.size W w' := fun W hW => by
      have hwW := hwU.trans (hW.mono hwU.size)
      have hC : WldC w.heap.size W L p g md := ⟨hwW.size, ⟨vs, block_below hW f0, hw.below hwW⟩, hT.below hwW⟩
      rw [hpr, hto]
      exact newIndex_c hC hgc hn4 (hl.below hwW) hr (by omega)
    have sys : ∀ W : World, Below U.heap.size U W → Calls Tryz.prog 62 #[.agg (idxC n pr to).toArray, .agg ss.toArray, .slice q l.length cap] W fun e w' => ∃ bc bk bn, e = .returned (.agg (sysC (.slice (some ⟨bc, 0, none⟩) l.length l.length) (.slice (some ⟨bk, 0, none⟩) l.length l.length) (s.homes.map (turnH n pr to)) (.slice (some ⟨bn, 0, none⟩) s.net.length s.net.length)).toArray) ∧
      w'.heap[bc]? = some (.cells ((pickL corD xs l).flatMap corE.enc).toArray 134 (0, 0)) ∧ w'.heap[bk]? = some (.cells ((pickL cacD ys l).flatMap cacE.enc).toArray 150 (0, 0)) ∧ w'.heap[bn]? = some (.cells ((s.net.map (turnM n to)).flatMap Msg.E.enc).toArray 53 (0, 0)) ∧ (W.heap.size ≤ bc ∧ W.heap.size ≤ bk ∧ W.heap.size ≤ bn) ∧ Below W.heap.size W w' := fun W hW => by
      have hwW := hwU.trans (hW.mono hwU.size)
      exact sysI_c hio htg hss2 h6 (hx.below hwW) (hy.below hwW) ((hne.below hwW).mono hwW.size) hn64 (hl.below hwW) (by omega) (fun x hm => by have := hrn x hm; omega) (fun x hm => by have := hrn x hm; omega)
    have put : ∀ (W : World) (b8 bc bk bn : Nat), Below U.heap.size U W → W.heap[b8]? = some (.cells eSysC.toArray 75 (0, 0)) → W.heap[bc]? = some (.cells ((pickL corD xs l).flatMap corE.enc).toArray 134 (0, 0)) → W.heap[bk]? = some (.cells ((pickL cacD ys l).flatMap cacE.enc).toArray 150 (0, 0)) → W.heap[bn]? = some (.cells ((s.net.map (turnM n to)).flatMap Msg.E.enc).toArray 53 (0, 0)) → U.heap.size ≤ b8 → U.heap.size ≤ bc → U.heap.size ≤ bk → U.heap.size ≤ bn → ∀ {K : World → Prop},
        (∀ Y, (Y.heap[b8]? = some (.cells (sysC (.slice (some ⟨bc, 0, none⟩) l.length l.length) (.slice (some ⟨bk, 0, none⟩) l.length l.length) (s.homes.map (turnH n pr to)) (.slice (some ⟨bn, 0, none⟩) s.net.length s.net.length)).toArray 75 (0, 0)) ∧ Y.heap[bc]? = some (.cells (zs.flatMap corE.enc).toArray 134 (0, 0)) ∧ Y.heap[bk]? = some (.cells ((pickL cacD ys l).flatMap cacE.enc).toArray 150 (0, 0)) ∧ Y.heap[bn]? = some (.cells ((s.net.map (turnM n to)).flatMap Msg.E.enc).toArray 53 (0, 0)) ∧ Y.heap[L + 2]? = some (.cells eSysC.toArray 75 (0, 0)) ∧ (L + 3 ≤ b8 ∧ L + 3 ≤ bc ∧ L + 3 ≤ bk ∧ L + 3 ≤ bn) ∧ Below w.heap.size w Y) → K Y) →
        SatR ((storeVar 75 ⟨b8, 0, none⟩ (.agg (sysC (.slice (some ⟨bc, 0, none⟩) l.length l.length) (.slice (some ⟨bk, 0, none⟩) l.length l.length) (s.homes.map (turnH n pr to)) (.slice (some ⟨bn, 0, none⟩) s.net.length s.net.length)).toArray)).run Tryz.prog W) fun _ w' => K w' := by
      intro W b8 bc bk bn hUW f8 fc fk fn g8 gc gk gn K k
      refine store_box (v := .agg (sysC (.slice (some ⟨bc, 0, none⟩) l.length l.length) (.slice (some ⟨bk, 0, none⟩) l.length l.length) (s.homes.map (turnH n pr to)) (.slice (some ⟨bn, 0, none⟩) s.net.length s.net.length)).toArray) (ttOk.get 75 _ rfl) f8 (by show (sysC _ _ _ _).length = 69; exact sysC_len hH2) rfl (sysC_one rfl rfl rfl) ?_
      have ne : ∀ {b : Nat} {cu : Array Value} {T : TypeId}, W.heap[b]? = some (.cells cu T (0, 0)) → T ≠ 75 → b ≠ b8 := fun {b cu T} hb hT e => by
        rw [e, f8] at hb
        simp only [Option.some.injEq, Obj.cells.injEq] at hb
        exact hT hb.2.1.symm
      refine k _ ⟨setRow_new f8, ?_, ?_, ?_, ?_, ⟨by omega, by omega, by omega, by omega⟩, below_setRow (hwU.trans (hUW.mono hwU.size)) (by omega) _⟩
      · rw [hzs]; exact (setRow_old (ne fc (by decide))).trans fc
      · exact (setRow_old (ne fk (by decide))).trans fk
      · exact (setRow_old (ne fn (by decide))).trans fn
      · exact (setRow_old (by omega)).trans (block_below hUW f2)
    have hba : ∀ (A : World) (o : Obj), Below A.heap.size A (A.alloc o) := fun A o => (Below.refl _ _).alloc (Nat.le_refl _) _
    refine DrawE.treeQ [6] (.op 0 (.op 2 (.op 3 (.alt (.op 5 (.op 1 (.op 4 (.op 6 .nil)))) (.op 1 (.alt (.op 5 (.op 4 (.op 6 .nil))) (.op 4 (.op 5 (.op 6 .nil))))))))) (by kernel_rfl) ?_
    refine ⟨ss, hS.len, cells_block (hdr f1), hlt (hdr f1), ?_⟩
    refine And.intro ?_ ?_
    · refine ⟨hba _ _, ?_⟩
      have h1 : Below U.heap.size U (U.drew.alloc (.cells eSysC.toArray 75)) := hbd.alloc (Nat.le_refl _) _
      refine Calls.mono (index _ h1) ?_
      rintro e A ⟨rfl, hbA⟩
      refine ⟨hbA, ?_⟩
      have h2 := h1.trans (hbA.mono h1.size)
      refine Calls.mono (sys A h2) ?_
      rintro e W ⟨bc, bk, bn, rfl, fc, fk, fn, ⟨gc, gk, gn⟩, hbW⟩
      refine ⟨hbW, ?_⟩
      have h3 := h2.trans (hbW.mono h2.size)
      refine put W U.heap.size bc bk bn h3 (block_below hbW (block_below hbA (hnew U.drew _))) fc fk fn (Nat.le_refl _) (Nat.le_trans h2.size gc) (Nat.le_trans h2.size gk) (Nat.le_trans h2.size gn) ?_
      intro Y hY
      exact ⟨(U.heap.size, bc, bk, bn), ⟨.cons rfl (.cons rfl .nil), rfl⟩, hY⟩
    refine Calls.mono (index _ hbd) ?_
    rintro e A ⟨rfl, hbA⟩
    refine ⟨hbA, ?_⟩
    have h1 := hbd.trans (hbA.mono hbd.size)
    refine And.intro ?_ ?_
    · refine ⟨hba _ _, ?_⟩
      have h2 := h1.trans ((hba A (.cells eSysC.toArray 75)).mono h1.size)
      refine Calls.mono (sys _ h2) ?_
      rintro e W ⟨bc, bk, bn, rfl, fc, fk, fn, ⟨gc, gk, gn⟩, hbW⟩
      refine ⟨hbW, ?_⟩
      have h3 := h2.trans (hbW.mono h2.size)
      refine put W A.heap.size bc bk bn h3 (block_below hbW (hnew A _)) fc fk fn h1.size (Nat.le_trans h2.size gc) (Nat.le_trans h2.size gk) (Nat.le_trans h2.size gn) ?_
      intro Y hY
      exact ⟨(A.heap.size, bc, bk, bn), ⟨.cons rfl (.cons rfl .nil), rfl⟩, hY⟩
    · refine Calls.mono (sys A h1) ?_
      rintro e W ⟨bc, bk, bn, rfl, fc, fk, fn, ⟨gc, gk, gn⟩, hbW⟩
      refine ⟨hbW, ?_⟩
      refine ⟨hba _ _, ?_⟩
      have h2 := h1.trans (hbW.mono h1.size)
      have h3 := h2.trans ((hba W (.cells eSysC.toArray 75)).mono h2.size)
      refine put _ W.heap.size bc bk bn h3 (hnew W _) (hold _ fc) (hold _ fk) (hold _ fn) h2.size (Nat.le_trans h1.size gc) (Nat.le_trans h1.size gk) (Nat.le_trans h1.size gn) ?_
      intro Y hY
      exact ⟨(W.heap.size, bc, bk, bn), ⟨.cons rfl (.cons rfl .nil), rfl⟩, hY⟩
  clear f0 f1 f2
  rintro ⟨b8, bc, bk, bn⟩ X2 ⟨f8, fc, fk, fn, fr, ⟨g8, gc, gk, gn⟩, hb2⟩
  dsimp only at f8 fc fk fn g8 gc gk gn ⊢
  refine ⟨List CorR, fun zk => ⟨[(6, .pointer (some ⟨L + 2, 0, none⟩)), (8, .pointer (some ⟨b8, 0, none⟩))], []⟩,
    fun zk Y => Y.heap[b8]? = some (.cells (sysC (.slice (some ⟨bc, 0, none⟩) l.length l.length) (.slice (some ⟨bk, 0, none⟩) l.length l.length) (s.homes.map (turnH n pr to)) (.slice (some ⟨bn, 0, none⟩) s.net.length s.net.length)).toArray 75 (0, 0)) ∧ Y.heap[bc]? = some (.cells (zk.flatMap corE.enc).toArray 134 (0, 0)) ∧ Y.heap[bk]? = some (.cells ((pickL cacD ys l).flatMap cacE.enc).toArray 150 (0, 0)) ∧ Y.heap[bn]? = some (.cells ((s.net.map (turnM n to)).flatMap Msg.E.enc).toArray 53 (0, 0)) ∧ Y.heap[L + 2]? = some (.cells eSysC.toArray 75 (0, 0)) ∧ (zk.map (·.1) = zs.map (·.1) ∧ ∀ x ∈ zk, BufI w.heap.size Y x) ∧ Below w.heap.size w Y, ?_, ?_⟩
  · refine ⟨_, cells_at (cells_block f8) (i := 0) rfl, ?_⟩
    refine ⟨Nat × List CorR, fun z => ⟨[(6, .pointer (some ⟨L + 2, 0, none⟩)), (8, .pointer (some ⟨b8, 0, none⟩)), (28, i64 l.length), (29, i64 (z.1 : Nat))], []⟩,
      fun z Y => z.1 ≤ l.length ∧ Y.heap[b8]? = some (.cells (sysC (.slice (some ⟨bc, 0, none⟩) l.length l.length) (.slice (some ⟨bk, 0, none⟩) l.length l.length) (s.homes.map (turnH n pr to)) (.slice (some ⟨bn, 0, none⟩) s.net.length s.net.length)).toArray 75 (0, 0)) ∧ Y.heap[bc]? = some (.cells (z.2.flatMap corE.enc).toArray 134 (0, 0)) ∧ Y.heap[bk]? = some (.cells ((pickL cacD ys l).flatMap cacE.enc).toArray 150 (0, 0)) ∧ Y.heap[bn]? = some (.cells ((s.net.map (turnM n to)).flatMap Msg.E.enc).toArray 53 (0, 0)) ∧ Y.heap[L + 2]? = some (.cells eSysC.toArray 75 (0, 0)) ∧ (z.2.map (·.1) = zs.map (·.1) ∧ ∀ x ∈ z.2, BufI w.heap.size Y x) ∧ Below w.heap.size w Y, fun z => l.length - z.1, (0, zs),
      ⟨.cons rfl (.cons rfl (.cons rfl (.cons rfl .nil))), rfl⟩, ⟨Nat.zero_le _, f8, fc, fk, fn, fr, ⟨rfl, fun x hm => .inl ((hzb x hm).below hb2)⟩, hb2⟩, ?_⟩
    clear f8 fc fk fn fr hb2 X2
    rintro ⟨k, zk⟩ X2 ⟨hk, f8, fc, fk, fn, fr, ⟨hzm, hzk⟩, hb2⟩
    dsimp only at hk fc hzm hzk ⊢
    have hzkl : zk.length = l.length := by
      have := congrArg List.length hzm
      rw [List.length_map, List.length_map, hzl] at this
      exact this
    refine And.intro (fun hc => ?_) (fun hc => ?_)
    · have hc : (k : Int) < (l.length : Int) := of_decide_eq_true hc
      have hkl : k < l.length := by omega
      have hkz : k < zk.length := by omega
      refine DrawE.ord [12] [0, 1, 2, 3, 4, 5, 6, 7, 8, 9, 10, 11, 12] (by kernel_rfl) ?_
      have hbd : Below X2.heap.size X2 X2.drew := (Below.refl _ X2).drew
      refine ⟨_, cells_at (cells_block (hdr f8)) (i := 0) rfl, ?_⟩
      refine ⟨_, cells_at (cells_block (hdr f8)) (i := 0) rfl, ?_⟩
      refine ⟨k, rfl, hkl, ?_⟩
      have hcx : Cells X2.drew ⟨bc, 0 + k * 12, none⟩ (corE.enc zk[k]) := by
        have := cells_sub (n := k * 12) (m := 12) (cells_block (hdr fc))
        have e := flat_get (E := corE) zk k hkz
        have e12 : corE.sz = 12 := rfl
        rw [e12] at e
        rw [e] at this
        exact this
      refine ⟨.slice zk[k].2.1 zk[k].1.buf.length zk[k].2.2, cells_at hcx (i := 9) rfl, ?_⟩
      have hbk' := hzk _ (List.getElem_mem hkz)
      have hrow := ((hbk'.row hb2.size).below hbd).slr hbd.size
      have hbl : zk[k].1.buf.length ≤ 1000 := by
        have hm : zk[k].1 ∈ zs.map (·.1) := by rw [← hzm]; exact List.mem_map_of_mem (List.getElem_mem hkz)
        rw [hzs] at hm
        obtain ⟨x, hx, hxe⟩ := List.mem_map.1 hm
        unfold pickL at hx
        obtain ⟨i, hi, rfl⟩ := List.mem_map.1 hx
        have := hrn i hi
        have h0 : i.toNat < xs.length := by omega
        have hmc : zk[k].1 ∈ s.cores := by
          rw [← hxe, List.getD_eq_getElem?_getD, List.getElem?_eq_getElem h0, ← hxs]
          exact List.mem_map_of_mem (List.getElem_mem h0)
        unfold fitsB at hh
        simp only [Bool.and_eq_true, List.all_eq_true] at hh
        have hb := hh.2.1 _ hmc
        unfold bufB at hb
        have := of_decide_eq_true hb
        omega
      refine Calls.mono (Clone_sto_c hrow hbl) ?_
      rintro e Y ⟨⟨sl, sq, sc⟩, rfl, hsl, hSB, hbY⟩
      dsimp only at hsl hSB
      refine ⟨hbY, ?_⟩
      have h2Y : Below X2.heap.size X2 Y := hbd.trans (hbY.mono hbd.size)
      have fcY := block_below h2Y fc
      refine ⟨k, rfl, hkl, ?_⟩
      have hsp : zk = zk.take k ++ zk[k] :: zk.drop (k + 1) := by
        rw [← List.drop_eq_getElem_cons hkz, List.take_append_drop]
      have htk : (zk.take k).length = k := by rw [List.length_take]; omega
      refine store_one (ttOk.get 132 _ rfl) fcY (o := 0 + k * 12 + 9) (v := .slice sq zk[k].1.buf.length sc) rfl rfl (by rw [flat_len]; show 0 + k * 12 + 9 < zk.length * 12; omega) rfl fun Z fZ gZ sZ => ?_
      refine ⟨_, (wrap_i64 (by omega)).trans rfl, ?_⟩
      obtain ⟨zn, hzn⟩ : ∃ zn : List CorR, zn = zk.take k ++ (zk[k].1, sq, sc) :: zk.drop (k + 1) := ⟨_, rfl⟩
      have fZ : Z.heap[bc]? = some (.cells (zn.flatMap corE.enc).toArray 134 (0, 0)) := by
        rw [fZ, hzn]
        congr 2
        have := set_cor (A := zk.take k) (x := zk[k]) (Z := zk.drop (k + 1)) (p := sq) (c := sc)
        rw [← hsp, htk] at this
        rw [this]
      have ne : ∀ {b : Nat} {cu : Array Value} {T : TypeId}, Y.heap[b]? = some (.cells cu T (0, 0)) → T ≠ 134 → Z.heap[b]? = some (.cells cu T (0, 0)) := fun {b cu T} hb hT => by
        refine (gZ.block b (hlt hb) ?_).trans hb
        simp only [ne_eq, Option.some.injEq]
        intro e
        rw [e, fcY] at hb
        simp only [Option.some.injEq, Obj.cells.injEq] at hb
        exact hT hb.2.1.symm
      have hwY : Below w.heap.size w Y := hb2.trans (h2Y.mono hb2.size)
      have hwL2 : w.heap.size ≤ bc := by omega
      refine ⟨(k + 1, zn), ⟨.cons rfl (.cons rfl (.cons rfl (.cons rfl .nil))), rfl⟩, ⟨hkl, ne (block_below h2Y f8) (by decide), fZ, ne (block_below h2Y fk) (by decide), ne (block_below h2Y fn) (by decide), ne (block_below h2Y fr) (by decide), ⟨?_, fun x hm => ?_⟩, hwY.trans (below_grown gZ hwY.size hwL2)⟩, by show l.length - (k + 1) < l.length - k; omega⟩
      · rw [← hzm, hzn]
        refine Eq.trans ?_ (congrArg (List.map (fun x : CorR => x.1)) hsp).symm
        rw [List.map_append, List.map_append, List.map_cons, List.map_cons]
      · have h0 : BufI w.heap.size Y x := by
          rw [hzn] at hm
          rcases List.mem_append.1 hm with hm | hm
          · exact (hzk x (List.mem_of_mem_take hm)).below hb2.size h2Y
          · rcases List.mem_cons.1 hm with rfl | hm
            · refine .inr ?_
              rw [← hsl]
              rcases hSB with h | ⟨b, cur, h1, h3, h4, h5⟩
              · exact .inl h
              · exact .inr ⟨b, cur, h1, Nat.le_trans hb2.size h3, h4, h5⟩
            · exact (hzk x (List.mem_of_mem_drop hm)).below hb2.size h2Y
        exact h0.grown fcY (by decide) hwY.size hwL2 gZ
    · have hc : ¬ (k : Int) < (l.length : Int) := of_decide_eq_false hc
      exact ⟨zk, ⟨.cons rfl (.cons rfl .nil), rfl⟩, f8, fc, fk, fn, fr, ⟨hzm, hzk⟩, hb2⟩
  clear f8 fc fk fn fr hb2 X2
  rintro zk X2 ⟨f8, fc, fk, fn, fr, ⟨hzm, hzk⟩, hb2⟩
  refine ⟨_, sysC_len hH2, cells_block f8, hlt f8, ?_⟩
  refine store_box (v := .agg (sysC (.slice (some ⟨bc, 0, none⟩) l.length l.length) (.slice (some ⟨bk, 0, none⟩) l.length l.length) (s.homes.map (turnH n pr to)) (.slice (some ⟨bn, 0, none⟩) s.net.length s.net.length)).toArray) (ttOk.get 75 _ rfl) fr (by show (sysC _ _ _ _).length = 69; exact sysC_len hH2) rfl (sysC_one rfl rfl rfl) ?_
  have f3 := setRow_new (cs' := (Value.agg (sysC (.slice (some ⟨bc, 0, none⟩) l.length l.length) (.slice (some ⟨bk, 0, none⟩) l.length l.length) (s.homes.map (turnH n pr to)) (.slice (some ⟨bn, 0, none⟩) s.net.length s.net.length)).toArray).cells) fr
  refine ⟨_, sysC_len hH2, cells_block f3, ?_⟩
  obtain ⟨Z, hZ⟩ : ∃ Z, Z = X2.setRow (L + 2) (Value.agg (sysC (.slice (some ⟨bc, 0, none⟩) l.length l.length) (.slice (some ⟨bk, 0, none⟩) l.length l.length) (s.homes.map (turnH n pr to)) (.slice (some ⟨bn, 0, none⟩) s.net.length s.net.length)).toArray).cells := ⟨_, rfl⟩
  rw [← hZ]
  have sZ : Z.heap.size = X2.heap.size := by rw [hZ]; simp
  have gZ : X2.grownBy Z (some (L + 2)) := by rw [hZ]; exact grown_setRow _ _ _
  have hbZ : Below w.heap.size w Z := by rw [hZ]; exact below_setRow hb2 (by omega) _
  have oZ : ∀ {b : Nat} {o : Obj}, X2.heap[b]? = some o → L + 3 ≤ b → Z.heap[b]? = some o := fun {b o} hb hL3 => (gZ.block b (hlt hb) (by simp; omega)).trans hb
  have ec : pickL corD.1 s.cores l = zk.map (·.1) := by rw [hzm, hzs, pick_map, hxs]
  have ek : pickL cacD.1 s.caches l = (pickL cacD ys l).map (·.1) := by rw [pick_map, hys]
  have hzkl : zk.length = l.length := by
    have := congrArg List.length hzm
    rw [List.length_map, List.length_map, hzl] at this
    exact this
  have e1 : (turnS n pr to l s).cores = zk.map (·.1) := ec
  have e2 : (turnS n pr to l s).caches = (pickL cacD ys l).map (·.1) := ek
  have hres : Below w.heap.size w Z ∧ ((fitsB g s = false ∧ Ending.returned (Value.tuple #[.agg (sysC (.slice (some ⟨bc, 0, none⟩) l.length l.length) (.slice (some ⟨bk, 0, none⟩) l.length l.length) (s.homes.map (turnH n pr to)) (.slice (some ⟨bn, 0, none⟩) s.net.length s.net.length)).toArray, i64 0]) = .returned (.tuple #[.agg eSysC.toArray, i64 2])) ∨
      (fitsB g s = true ∧ ∃ ts : List Value, Ending.returned (Value.tuple #[.agg (sysC (.slice (some ⟨bc, 0, none⟩) l.length l.length) (.slice (some ⟨bk, 0, none⟩) l.length l.length) (s.homes.map (turnH n pr to)) (.slice (some ⟨bn, 0, none⟩) s.net.length s.net.length)).toArray, i64 0]) = .returned (.tuple #[.agg ts.toArray, i64 0]) ∧ SysV Z.heap.size Z ts (turnS n pr to l s))) := by
    refine ⟨hbZ, .inr ⟨hh, _, rfl, ⟨some ⟨bc, 0, none⟩, l.length, some ⟨bk, 0, none⟩, l.length, some ⟨bn, 0, none⟩, s.net.length, ?_, ⟨bc, 0, .inr rfl, fun i hi => ?_⟩, ⟨bk, 0, .inr rfl, fun i hi => ?_⟩, .inr ⟨bn, 0, rfl, ?_, ?_⟩, fun h => by cases h⟩, hH2⟩⟩
    · rw [e1, e2]
      unfold sysC
      simp only [List.length_map, hzkl, pickI_len, turnS]
    · simp only [e1, List.length_map] at hi ⊢
      rw [List.getElem_map]
      have hcx : Cells Z ⟨bc, 0 + i * 12, none⟩ (corE.enc zk[i]) := by
        have := cells_sub (n := i * 12) (m := 12) (cells_block (oZ fc gc))
        have e := flat_get (E := corE) zk i hi
        have e12 : corE.sz = 12 := rfl
        rw [e12] at e
        rw [e] at this
        exact this
      have hb0 := (hzk _ (List.getElem_mem hi)).grown fr (by decide) hb2.size (by omega) gZ
      exact ⟨zk[i].2.1, zk[i].2.2, hlt (oZ fc gc), hcx, hb0.row hbZ.size⟩
    · simp only [e2, List.length_map] at hi ⊢
      rw [List.getElem_map]
      have hcx : Cells Z ⟨bk, 0 + i * 160, none⟩ (cacE.enc (pickL cacD ys l)[i]) := by
        have := cells_sub (n := i * 160) (m := 160) (cells_block (oZ fk gk))
        have e := flat_get (E := cacE) (pickL cacD ys l) i hi
        have e160 : cacE.sz = 160 := rfl
        rw [e160] at e
        rw [e] at this
        exact this
      exact ⟨hlt (oZ fk gk), hcx, ((pickL cacD ys l)[i]).2⟩
    · exact hlt (oZ fn gn)
    · exact cells_block (oZ fn gn)
  have en : turnS l.length pr to l s = turnS n pr to l s := by rw [hln]
  rw [en]
  exact hres
end
end Go.Proofs.YthgmcegmgjoafaaGreatDoor
namespace Go.Proofs.YthgmcegmgjoafaaGreatDoor
open Go.Vc Go.RowKit Go.Sei
def halfA (a : List Int) : List Int := [a.getD 0 0 / 2, a.getD 2 0 / 2]
def invB (n : Nat) (a : List Int) : Bool := (List.range n).all fun k => decide (0 ≤ a.getD k 0) && (decide (a.getD k 0 < n) && (decide (0 ≤ (toN a n).getD k 0) && (decide ((toN a n).getD k 0 < n) && (decide ((toN a n).getD (a.getD k 0).toNat 0 = k) && (decide (a.getD ((toN a n).getD k 0).toNat 0 = k) && decide ((backL a).getD k 0 = (toN a n).getD k 0))))))
def invOk (n : Nat) (m : Bool) : Bool := (grpL n m).all (invB n)
def hinvB (n : Nat) (a : List Int) : Bool := (List.range ((n + 1) / 2)).all fun k => decide (0 ≤ (halfA a).getD k 0) && (decide ((halfA a).getD k 0 < ((n + 1) / 2 : Nat)) && (decide (0 ≤ (halfT (toN a n)).getD k 0) && (decide ((halfT (toN a n)).getD k 0 < ((n + 1) / 2 : Nat)) && (decide ((halfT (toN a n)).getD ((halfA a).getD k 0).toNat 0 = k) && decide ((halfA a).getD ((halfT (toN a n)).getD k 0).toNat 0 = k)))))
def hinvOk (n : Nat) : Bool := (grpL n true).all fun a => hinvB n a && (grpL n true).all fun b => (List.range ((n + 1) / 2)).all fun k => decide ((halfA (pickL 0 a b)).getD k 0 = (halfA a).getD ((halfA b).getD k 0).toNat 0)
theorem inv1 : (invOk 1 false && (invOk 1 true && hinvOk 1)) = true := by kernel_rfl
theorem inv2 : (invOk 2 false && (invOk 2 true && hinvOk 2)) = true := by kernel_rfl
theorem inv3 : (invOk 3 false && (invOk 3 true && hinvOk 3)) = true := by kernel_rfl
theorem inv4 : (invOk 4 false && (invOk 4 true && hinvOk 4)) = true := by kernel_rfl
theorem inv_ok {n : Nat} (m : Bool) (h1 : 1 ≤ n) (h4 : n ≤ 4) : invOk n m = true ∧ hinvOk n = true := by
  have hc : n = 1 ∨ n = 2 ∨ n = 3 ∨ n = 4 := by omega
  have h := inv1
  have h2 := inv2
  have h3 := inv3
  have h5 := inv4
  simp only [Bool.and_eq_true] at h h2 h3 h5
  rcases hc with rfl | rfl | rfl | rfl <;> cases m
  · exact ⟨h.1, h.2.2⟩
  · exact ⟨h.2.1, h.2.2⟩
  · exact ⟨h2.1, h2.2.2⟩
  · exact ⟨h2.2.1, h2.2.2⟩
  · exact ⟨h3.1, h3.2.2⟩
  · exact ⟨h3.2.1, h3.2.2⟩
  · exact ⟨h5.1, h5.2.2⟩
  · exact ⟨h5.2.1, h5.2.2⟩
structure Inv (n : Nat) (a t : List Int) : Prop where
  r : ∀ k, k < n → 0 ≤ a.getD k 0 ∧ a.getD k 0 < n
  tr : ∀ k, k < n → 0 ≤ t.getD k 0 ∧ t.getD k 0 < n
  ta : ∀ k, k < n → t.getD (a.getD k 0).toNat 0 = k
  at_ : ∀ k, k < n → a.getD (t.getD k 0).toNat 0 = k
theorem Inv.comp {n : Nat} {a b c ta tb tc : List Int} (ha : Inv n a ta) (hb : Inv n b tb) (hc : Inv n c tc) (h : ∀ k, k < n → c.getD k 0 = a.getD (b.getD k 0).toNat 0) : ∀ k, k < n → tb.getD (ta.getD k 0).toNat 0 = tc.getD k 0 := fun k hk => by
  have h1 := ha.tr k hk
  have h2 := hb.tr (ta.getD k 0).toNat (by omega)
  have h3 := h (tb.getD (ta.getD k 0).toNat 0).toNat (by omega)
  rw [hb.at_ _ (by omega), Int.toNat_natCast, ha.at_ k hk] at h3
  have h4 := hc.ta (tb.getD (ta.getD k 0).toNat 0).toNat (by omega)
  rw [h3, Int.toNat_natCast] at h4
  omega
section
variable {n : Nat} {m : Bool} {a b : List Int} (h1 : 1 ≤ n) (h4 : n ≤ 4)
include h1 h4
theorem inv_of (ha : a ∈ grpL n m) : Inv n a (toN a n) ∧ ∀ k, k < n → (backL a).getD k 0 = (toN a n).getD k 0 := by
  have h := List.all_eq_true.1 (inv_ok m h1 h4).1 a ha
  unfold invB at h
  simp only [List.all_eq_true, Bool.and_eq_true, decide_eq_true_eq, List.mem_range] at h
  exact ⟨⟨fun k hk => ⟨(h k hk).1, (h k hk).2.1⟩, fun k hk => ⟨(h k hk).2.2.1, (h k hk).2.2.2.1⟩, fun k hk => (h k hk).2.2.2.2.1, fun k hk => (h k hk).2.2.2.2.2.1⟩, fun k hk => (h k hk).2.2.2.2.2.2⟩
theorem hinv_of (ha : a ∈ grpL n true) : Inv ((n + 1) / 2) (halfA a) (halfT (toN a n)) := by
  have h := List.all_eq_true.1 (inv_ok true h1 h4).2 a ha
  unfold hinvB at h
  simp only [List.all_eq_true, Bool.and_eq_true, decide_eq_true_eq, List.mem_range] at h
  exact ⟨fun k hk => ⟨(h.1 k hk).1, (h.1 k hk).2.1⟩, fun k hk => ⟨(h.1 k hk).2.2.1, (h.1 k hk).2.2.2.1⟩, fun k hk => (h.1 k hk).2.2.2.2.1, fun k hk => (h.1 k hk).2.2.2.2.2⟩
theorem hcomp_of (ha : a ∈ grpL n true) (hb : b ∈ grpL n true) : ∀ k, k < (n + 1) / 2 → (halfA (pickL 0 a b)).getD k 0 = (halfA a).getD ((halfA b).getD k 0).toNat 0 := by
  have h := List.all_eq_true.1 (inv_ok true h1 h4).2 a ha
  simp only [List.all_eq_true, Bool.and_eq_true, decide_eq_true_eq, List.mem_range] at h
  exact fun k hk => h.2 b hb k hk
end
theorem and_pow {s k : Nat} : s &&& 2 ^ k = 0 ↔ s.testBit k = false := by
  constructor
  · intro h
    have := congrArg (fun z => z.testBit k) h
    simpa [Nat.testBit_and, Nat.testBit_two_pow_self] using this
  · intro h
    apply Nat.eq_of_testBit_eq
    intro i
    rw [Nat.testBit_and, Nat.testBit_two_pow, Nat.zero_testBit]
    by_cases e : k = i
    · subst e; rw [h]; rfl
    · simp [e]
theorem startN_bit {s bits : Nat} (hs : s < 2 ^ 64) (hb : bits ≤ 64) (i : Nat) : (startN s bits).testBit i = (s.testBit i && !decide (i < bits)) := by
  unfold startN
  rw [BitVec.testBit_toNat, BitVec.getLsbD_and, BitVec.getLsbD_not, BitVec.ofInt_natCast, BitVec.ofInt_natCast, BitVec.getLsbD_ofNat, BitVec.getLsbD_ofNat, Nat.testBit_two_pow_sub_one]
  by_cases h : i < 64
  · simp [h]
  · have h2 : s.testBit i = false := Nat.testBit_lt_two_pow (Nat.lt_of_lt_of_le hs (Nat.pow_le_pow_right (by decide) (by omega)))
    rw [h2]; simp
theorem movedN_bit {s bits : Nat} {u t : List Int} (hs : s < 2 ^ 64) (hb : bits ≤ 64) (h : Inv bits u t) : ∀ k, k ≤ bits → ∀ i, (movedN s bits t k).testBit i = if i < bits then (s.testBit (u.getD i 0).toNat && decide ((u.getD i 0).toNat < k)) else s.testBit i
  | 0, _, i => by
    show (startN s bits).testBit i = _
    rw [startN_bit hs hb]
    by_cases hi : i < bits
    · rw [if_pos hi]; simp [hi]
    · rw [if_neg hi]; simp [hi]
  | k + 1, hk, i => by
    have ih := movedN_bit hs hb h k (by omega) i
    rw [movedN_succ]
    have htk := h.tr k (by omega)
    have key : i < bits → ((t.getD k 0).toNat = i ↔ (u.getD i 0).toNat = k) := fun hi => by
      constructor
      · intro e
        have := h.at_ k (by omega)
        rw [e] at this
        omega
      · intro e
        have := h.ta i hi
        have h2 := h.r i hi
        rw [e] at this
        omega
    split
    · rename_i h0
      have hf := and_pow.1 h0
      rw [ih]
      by_cases hi : i < bits
      · rw [if_pos hi, if_pos hi]
        by_cases e : (u.getD i 0).toNat = k
        · rw [e, hf]; rfl
        · have : decide ((u.getD i 0).toNat < k) = decide ((u.getD i 0).toNat < k + 1) := by rw [decide_eq_decide]; omega
          rw [this]
      · rw [if_neg hi, if_neg hi]
    · rename_i h0
      have hf : s.testBit k = true := by
        cases hb2 : s.testBit k with
        | true => rfl
        | false => exact absurd (and_pow.2 hb2) h0
      rw [Nat.testBit_or, Nat.testBit_two_pow, ih]
      by_cases hi : i < bits
      · rw [if_pos hi, if_pos hi]
        by_cases e : (u.getD i 0).toNat = k
        · rw [decide_eq_true ((key hi).2 e), e, hf]; simp
        · rw [decide_eq_false (fun h => e ((key hi).1 h)), Bool.or_false]
          have : decide ((u.getD i 0).toNat < k) = decide ((u.getD i 0).toNat < k + 1) := by rw [decide_eq_decide]; omega
          rw [this]
      · rw [if_neg hi, if_neg hi, decide_eq_false (by omega), Bool.or_false]
theorem movedN_lt2 {s bits : Nat} {u t : List Int} (hs : s < 2 ^ 64) (hb : bits ≤ 4) (h : Inv bits u t) : movedN s bits t bits < 2 ^ 64 := by
  apply Nat.lt_pow_two_of_testBit
  intro i hi
  rw [movedN_bit hs (by omega) h bits (Nat.le_refl _), if_neg (by omega)]
  exact Nat.testBit_lt_two_pow (Nat.lt_of_lt_of_le hs (Nat.pow_le_pow_right (by decide) hi))
theorem movedN_comp {s bits : Nat} {a b c ta tb tc : List Int} (hs : s < 2 ^ 64) (hb4 : bits ≤ 4) (ha : Inv bits a ta) (hb : Inv bits b tb) (hc : Inv bits c tc) (h : ∀ k, k < bits → c.getD k 0 = a.getD (b.getD k 0).toNat 0) : movedN (movedN s bits ta bits) bits tb bits = movedN s bits tc bits := by
  apply Nat.eq_of_testBit_eq
  intro i
  have h64 : bits ≤ 64 := by omega
  rw [movedN_bit (movedN_lt2 hs hb4 ha) h64 hb bits (Nat.le_refl _), movedN_bit hs h64 hc bits (Nat.le_refl _)]
  by_cases hi : i < bits
  · rw [if_pos hi, if_pos hi]
    have r1 := hb.r i hi
    have r2 := hc.r i hi
    have r3 := ha.r (b.getD i 0).toNat (by omega)
    rw [decide_eq_true (by omega : (b.getD i 0).toNat < bits), decide_eq_true (by omega : (c.getD i 0).toNat < bits), movedN_bit hs h64 ha bits (Nat.le_refl _), if_pos (by omega), decide_eq_true (by omega : (a.getD (b.getD i 0).toNat 0).toNat < bits), h i hi]
    simp
  · rw [if_neg hi, if_neg hi, movedN_bit hs h64 ha bits (Nat.le_refl _), if_neg hi]
theorem pick_pick {α : Type} {d : α} {xs : List α} {a b : List Int} (hb : ∀ x ∈ b, 0 ≤ x ∧ x < a.length) : pickL d (pickL d xs a) b = pickL d xs (pickL 0 a b) := by
  unfold pickL
  rw [List.map_map]
  refine List.map_congr_left fun x hx => ?_
  have := hb x hx
  have h0 : x.toNat < a.length := by omega
  show (a.map fun x => xs.getD x.toNat d).getD x.toNat d = xs.getD (a.getD x.toNat 0).toNat d
  rw [List.getD_eq_getElem?_getD, List.getElem?_map, List.getElem?_eq_getElem h0, List.getD_eq_getElem?_getD (l := a), List.getElem?_eq_getElem h0]; rfl
section
variable {n : Nat} {m : Bool} {a b : List Int} (h1 : 1 ≤ n) (h4 : n ≤ 4) (ha : a ∈ grpL n m) (hb : b ∈ grpL n m)
include h1 h4 ha hb
omit ha in
theorem pick_get : ∀ k, k < n → (pickL 0 a b).getD k 0 = a.getD (b.getD k 0).toNat 0 := fun k hk => by
  have hl := ((grp m h1 h4).small b hb).2
  unfold pickL
  rw [List.getD_eq_getElem?_getD, List.getElem?_map, List.getElem?_eq_getElem (by omega), List.getD_eq_getElem?_getD (l := b), List.getElem?_eq_getElem (by omega)]; rfl
theorem to_comp : ∀ k, k < n → (toN b n).getD ((toN a n).getD k 0).toNat 0 = (toN (pickL 0 a b) n).getD k 0 :=
  (inv_of h1 h4 ha).1.comp (inv_of h1 h4 hb).1 (inv_of h1 h4 ((grp m h1 h4).comp a ha b hb)).1 (pick_get h1 h4 hb)
theorem nodeU_comp (k : UInt8) : nodeU n (toN b n) (nodeU n (toN a n) k) = nodeU n (toN (pickL 0 a b) n) k := by
  by_cases hk : k.toNat < n
  · have ht := (inv_of h1 h4 ha).1.tr k.toNat hk
    have e1 : nodeU n (toN a n) k = UInt8.ofNat ((toN a n).getD k.toNat 0).toNat := by unfold nodeU; rw [if_pos hk]
    have e2 : (UInt8.ofNat ((toN a n).getD k.toNat 0).toNat).toNat = ((toN a n).getD k.toNat 0).toNat := by
      rw [UInt8.toNat_ofNat', Nat.mod_eq_of_lt (by omega)]
    rw [e1]
    unfold nodeU
    rw [e2, if_pos (by omega), if_pos hk, to_comp h1 h4 ha hb _ hk]
  · have e1 : ∀ t, nodeU n t k = k := fun t => by unfold nodeU; rw [if_neg hk]
    rw [e1, e1, e1]
theorem turnM_comp (x : Msg) : turnM n (toN b n) (turnM n (toN a n) x) = turnM n (toN (pickL 0 a b) n) x := by
  have e := nodeU_comp h1 h4 ha hb
  unfold turnM
  by_cases hk : x.kind = 6 ∨ x.kind = 7 ∨ x.kind = 8
  · simp only [if_pos hk, e]
  · simp only [if_neg hk, e]
theorem turnV_comp {pr : Bool} (hpr : pr = m) (k : UInt8) {s : Nat} (hs : s < 2 ^ 64) : turnV n pr (toN b n) k (turnV n pr (toN a n) k s) = turnV n pr (toN (pickL 0 a b) n) k s := by
  have hc := (grp m h1 h4).comp a ha b hb
  unfold turnV
  by_cases h12 : k = 1 ∨ k = 2
  · rw [if_pos h12, if_pos h12, if_pos h12]
    exact movedN_comp hs h4 (inv_of h1 h4 ha).1 (inv_of h1 h4 hb).1 (inv_of h1 h4 hc).1 (pick_get h1 h4 hb)
  · rw [if_neg h12, if_neg h12, if_neg h12]
    by_cases h3 : k = 3 ∧ pr = true
    · rw [if_pos h3, if_pos h3, if_pos h3]
      have hm : m = true := by rw [← hpr]; exact h3.2
      subst hm
      exact movedN_comp hs (by omega) (hinv_of h1 h4 ha) (hinv_of h1 h4 hb) (hinv_of h1 h4 hc) (hcomp_of h1 h4 ha hb)
    · rw [if_neg h3, if_neg h3, if_neg h3]
end
theorem turnH_eq (n : Nat) (pr : Bool) (to : List Int) (h : Hom) : turnH n pr to h = { setV h (turnV n pr to h.kind (leM h)) with owner := nodeU n to h.owner, asker := if h.wait = 0 then h.asker else nodeU n to h.asker } := by
  unfold turnH
  by_cases h0 : h.wait = 0
  · simp only [if_pos h0]; rfl
  · simp only [if_neg h0]; rfl
theorem toN_rng {n : Nat} {a : List Int} (h4 : n ≤ 4) (hl : a.length = n) (k : Nat) : 0 ≤ (toN a n).getD k 0 ∧ (toN a n).getD k 0 < 64 := by
  subst hl
  exact toN_get h4 k
theorem turnH_comp {n : Nat} {m pr : Bool} {a b : List Int} (h1 : 1 ≤ n) (h4 : n ≤ 4) (ha : a ∈ grpL n m) (hb : b ∈ grpL n m) (hpr : pr = m) (h : Hom) : turnH n pr (toN b n) (turnH n pr (toN a n) h) = turnH n pr (toN (pickL 0 a b) n) h := by
  have hal := ((grp m h1 h4).small a ha).2
  have e1 : leM (turnH n pr (toN a n) h) = turnV n pr (toN a n) h.kind (leM h) := by
    rw [turnH_eq]
    exact leM_setV (h := h) (turnV_lt (fun k => toN_rng h4 hal k) (leM_lt h))
  have e2 : (turnH n pr (toN a n) h).kind = h.kind := by rw [turnH_eq]; rfl
  have e3 : (turnH n pr (toN a n) h).wait = h.wait := by rw [turnH_eq]; rfl
  have e4 : (turnH n pr (toN a n) h).owner = nodeU n (toN a n) h.owner := by rw [turnH_eq]
  have e5 : (turnH n pr (toN a n) h).asker = if h.wait = 0 then h.asker else nodeU n (toN a n) h.asker := by rw [turnH_eq]
  rw [turnH_eq n pr (toN b n), e1, e2, e3, e4, e5, turnV_comp h1 h4 ha hb hpr _ (leM_lt h), nodeU_comp h1 h4 ha hb, turnH_eq n pr (toN (pickL 0 a b) n)]
  by_cases h0 : h.wait = 0
  · simp only [if_pos h0]
    rw [turnH_eq]
    simp only [setV]
  · simp only [if_neg h0, nodeU_comp h1 h4 ha hb]
    rw [turnH_eq]
    simp only [setV]
theorem turnS_comp {n : Nat} {m pr : Bool} {a b : List Int} (h1 : 1 ≤ n) (h4 : n ≤ 4) (ha : a ∈ grpL n m) (hb : b ∈ grpL n m) (hpr : pr = m) (s : Sy) : turnS n pr (toN b n) b (turnS n pr (toN a n) a s) = turnS n pr (toN (pickL 0 a b) n) (pickL 0 a b) s := by
  have hal := ((grp m h1 h4).small a ha).2
  have hbl := (grp m h1 h4).small b hb
  have hbr : ∀ x ∈ b, 0 ≤ x ∧ x < a.length := fun x hx => by
    have := (small_perm hbl.1).2 x hx
    omega
  unfold turnS
  simp only [pick_pick hbr, List.map_map]
  congr 1
  · exact List.map_congr_left fun x _ => turnH_comp h1 h4 ha hb hpr x
  · exact List.map_congr_left fun x _ => turnM_comp h1 h4 ha hb x
end Go.Proofs.YthgmcegmgjoafaaGreatDoor
namespace Go.Proofs.YthgmcegmgjoafaaGreatDoor
open Go.Vc Go.RowKit Go.Sei
theorem turnC_kind (to : List Int) (c : Cnd) : (turnC to c).kind = c.kind := by rw [turnC_eq]; rfl
theorem condB_turn {n lo : Nat} {to : List Int} (hto : ∀ k, k < n → 0 ≤ to.getD k 0 ∧ to.getD k 0 < n) (h4 : n ≤ 4) : ∀ (d : Nat) (c : Cnd), condB n lo d c = true → condB n lo d (turnC to c) = true
  | 0, c, h => by obtain ⟨k, t, n, v, kids⟩ := c; cases h
  | d + 1, c, h => by
    have hp := condB_parts h
    rw [condB_succ] at h ⊢
    rw [turnC_eq]
    have hk : ∀ l : List Cnd, (∀ x ∈ l, condB n lo d x = true) → (l.map (turnC to)).all (condB n lo d) = true := fun l hl => by
      rw [List.all_eq_true]
      intro x hx
      obtain ⟨y, hy, rfl⟩ := List.mem_map.1 hx
      exact condB_turn hto h4 d y (hl y hy)
    have hk' := hk c.kids hp.2.2
    have hl : (c.kids.map (turnC to)).length = c.kids.length := List.length_map _
    have ht : ¬ c.kind = 1 → turnT to c.kind c.thread = c.thread := fun h => by unfold turnT; rw [if_neg h]
    have ht1 : c.kind = 1 → (turnT to c.kind c.thread).toNat < n := fun h => by
      unfold turnT
      rw [if_pos h]
      have := hto c.thread.toNat (hp.1 h)
      rw [UInt8.toNat_ofNat', Nat.mod_eq_of_lt (by omega)]
      omega
    generalize hx : turnT to c.kind c.thread = tt at ht ht1 ⊢
    generalize hy : c.kids.map (turnC to) = kk at hk' hl ⊢
    unfold bareL at h ⊢
    show (if c.kind = 0 then ((decide (tt = 0) && (decide (c.n = 0) && decide (c.val = 0))) && decide (kk.length = 0)) else if c.kind = 1 then (decide (tt.toNat < n) && (decide (c.n.toNat < 8) && decide (kk.length = 0))) else if c.kind = 2 then (decide (c.n.toNat < lo) && (decide (tt = 0) && decide (kk.length = 0))) else if c.kind = 3 ∨ c.kind = 4 then ((decide (tt = 0) && (decide (c.n = 0) && decide (c.val = 0))) && (decide (2 ≤ kk.length) && kk.all (condB n lo d))) else if c.kind = 5 then ((decide (tt = 0) && (decide (c.n = 0) && decide (c.val = 0))) && (decide (kk.length = 1) && kk.all (condB n lo d))) else false) = true
    by_cases h0 : c.kind = 0
    · rw [if_pos h0] at h ⊢
      rw [hl, ht (by rw [h0]; decide)]; exact h
    rw [if_neg h0] at h ⊢
    by_cases h1 : c.kind = 1
    · rw [if_pos h1] at h ⊢
      rw [hl, decide_eq_true (ht1 h1)]
      rw [Bool.and_eq_true] at h ⊢
      exact ⟨rfl, h.2⟩
    rw [if_neg h1] at h ⊢
    by_cases h2 : c.kind = 2
    · rw [if_pos h2] at h ⊢
      rw [hl, ht h1]; exact h
    rw [if_neg h2] at h ⊢
    by_cases h3 : c.kind = 3 ∨ c.kind = 4
    · rw [if_pos h3] at h ⊢
      rw [hl, ht h1, hk']
      rw [Bool.and_eq_true, Bool.and_eq_true (a := decide (2 ≤ _))] at h ⊢
      exact ⟨h.1, h.2.1, rfl⟩
    rw [if_neg h3] at h ⊢
    by_cases h5 : c.kind = 5
    · rw [if_pos h5] at h ⊢
      rw [hl, ht h1, hk']
      rw [Bool.and_eq_true, Bool.and_eq_true (a := decide (_ = 1))] at h ⊢
      exact ⟨h.1, h.2.1, rfl⟩
    rw [if_neg h5] at h
    cases h
theorem turnC_comp {n lo : Nat} {ta tb tc : List Int} (hta : ∀ k, k < n → 0 ≤ ta.getD k 0 ∧ ta.getD k 0 < n) (h4 : n ≤ 4) (h : ∀ k, k < n → tb.getD (ta.getD k 0).toNat 0 = tc.getD k 0) : ∀ (d : Nat) (c : Cnd), condB n lo d c = true → turnC tb (turnC ta c) = turnC tc c
  | 0, c, hc => by obtain ⟨k, t, n, v, kids⟩ := c; cases hc
  | d + 1, c, hc => by
    have hp := condB_parts hc
    rw [turnC_eq tb, turnC_eq ta, turnC_eq tc]
    show Cnd.mk c.kind (turnT tb c.kind (turnT ta c.kind c.thread)) c.n c.val ((c.kids.map (turnC ta)).map (turnC tb)) = _
    rw [List.map_map]
    have e1 : c.kids.map (turnC tb ∘ turnC ta) = c.kids.map (turnC tc) := List.map_congr_left fun x hx => turnC_comp hta h4 h d x (hp.2.2 x hx)
    rw [e1]
    congr 1
    unfold turnT
    by_cases h1 : c.kind = 1
    · rw [if_pos h1, if_pos h1, if_pos h1]
      have ht := hp.1 h1
      have := hta c.thread.toNat ht
      rw [UInt8.toNat_ofNat', Nat.mod_eq_of_lt (by omega), h _ ht]
    · rw [if_neg h1, if_neg h1, if_neg h1]
section
variable {n : Nat} {m : Bool} {a b : List Int} (h1 : 1 ≤ n) (h4 : n ≤ 4)
include h1 h4
theorem back_rng (ha : a ∈ grpL n m) : ∀ k, k < n → 0 ≤ (backL a).getD k 0 ∧ (backL a).getD k 0 < n := fun k hk => by
  rw [(inv_of h1 h4 ha).2 k hk]
  exact (inv_of h1 h4 ha).1.tr k hk
theorem grp_rng (ha : a ∈ grpL n m) : a.length = n ∧ ∀ x ∈ a, 0 ≤ x ∧ x < n := by
  have h := (grp m h1 h4).small a ha
  refine ⟨h.2, fun x hx => ?_⟩
  have := (small_perm h.1).2 x hx
  omega
theorem okPrg_turn {p : Prg} (hp : p.threads.length = n) (hok : okPrg p = true) (ha : a ∈ grpL n m) : okPrg (turnP a p) = true := by
  have hO := okPrg_parts hok
  have hr := grp_rng h1 h4 ha
  have hl : (turnP a p).threads.length = n := by
    show (pickL [] p.threads a).length = n
    unfold pickL; rw [List.length_map, hr.1]
  have hm : ∀ t ∈ (turnP a p).threads, t ∈ p.threads := fun t ht => by
    have ht : t ∈ pickL [] p.threads a := ht
    unfold pickL at ht
    obtain ⟨i, hi, rfl⟩ := List.mem_map.1 ht
    have := hr.2 i hi
    have h0 : i.toNat < p.threads.length := by omega
    rw [List.getD_eq_getElem?_getD, List.getElem?_eq_getElem h0]
    exact List.getElem_mem h0
  have hc := condB_turn (lo := p.locs.length) (back_rng h1 h4 ha) h4 20 p.cond (by rw [← hp]; exact hO.cond)
  unfold okPrg at hok ⊢
  rw [hl]
  simp only [Bool.and_eq_true] at hok ⊢
  obtain ⟨q1, q2, ⟨q3, q4, q5⟩, q6, q7, q8⟩ := hok
  refine ⟨q1, q2, ⟨decide_eq_true h1, decide_eq_true h4, ?_⟩, ?_, q7, hc⟩
  · exact List.all_eq_true.2 fun t ht => List.all_eq_true.1 q5 t (hm t ht)
  · exact List.all_eq_true.2 fun t ht => List.all_eq_true.1 q6 t (hm t ht)
theorem turns_turn {p : Prg} {g : Geo} (hg : g.c = n) (ht : turnsL p g = true) (ha : a ∈ grpL n m) : turnsL (turnP a p) g = true := by
  have hr := grp_rng h1 h4 ha
  have hl : (turnP a p).threads.length = n := by
    show (pickL [] p.threads a).length = n
    unfold pickL; rw [List.length_map, hr.1]
  unfold turnsL at ht ⊢
  rw [Bool.and_eq_true, Bool.and_eq_true, decide_eq_true_eq] at ht ⊢
  have hp : p.threads.length = n := by have := ht.2.1; omega
  exact ⟨ht.1, by rw [hl]; omega, okPrg_turn h1 h4 hp ht.2.2 ha⟩
theorem turnP_comp {p : Prg} (hp : p.threads.length = n) (hok : okPrg p = true) (ha : a ∈ grpL n m) (hb : b ∈ grpL n m) : turnP b (turnP a p) = turnP (pickL 0 a b) p := by
  have hO := okPrg_parts hok
  have ra := grp_rng h1 h4 ha
  have rb := grp_rng h1 h4 hb
  have hc := (grp m h1 h4).comp a ha b hb
  unfold turnP
  congr 1
  · exact pick_pick fun x hx => by have := rb.2 x hx; omega
  · refine turnC_comp (n := n) (lo := p.locs.length) (back_rng h1 h4 ha) h4 (fun k hk => ?_) 20 p.cond (by rw [← hp]; exact hO.cond)
    have r := back_rng h1 h4 ha k hk
    rw [(inv_of h1 h4 hb).2 _ (by omega), (inv_of h1 h4 ha).2 k hk, (inv_of h1 h4 hc).2 k hk, to_comp h1 h4 ha hb k hk]
theorem fits_turn {g : Geo} {s : Sy} {pr : Bool} {to : List Int} (hg : g.c = n) (ha : a ∈ grpL n m) (h : fitsB g s = true) : fitsB g (turnS n pr to a s) = true := by
  have hr := grp_rng h1 h4 ha
  unfold fitsB fit4 at h ⊢
  simp only [Bool.and_eq_true, decide_eq_true_eq] at h ⊢
  obtain ⟨⟨⟨⟨q1, q2⟩, q3⟩, q4⟩, q5, q6⟩ := h
  have hl : ∀ {α : Type} (d : α) (xs : List α), ((pickL d xs a).length : Int) = g.c := fun d xs => by
    unfold pickL; rw [List.length_map, hr.1, hg]
  have hm : ∀ {α : Type} (d : α) (xs : List α) (f : α → Bool), (xs.length : Int) = g.c → xs.all f = true → (pickL d xs a).all f = true := fun d xs f hx hf => by
    refine List.all_eq_true.2 fun t ht => ?_
    unfold pickL at ht
    obtain ⟨i, hi, rfl⟩ := List.mem_map.1 ht
    have := hr.2 i hi
    have h0 : i.toNat < xs.length := by omega
    rw [List.getD_eq_getElem?_getD, List.getElem?_eq_getElem h0]
    exact List.all_eq_true.1 hf _ (List.getElem_mem h0)
  refine ⟨⟨⟨⟨q1, hl _ _⟩, hl _ _⟩, ?_⟩, hm _ _ _ q2 q5, hm _ _ _ q3 q6⟩
  show (s.net.map (turnM n to)).length ≤ 64
  rw [List.length_map]; exact q4
end
theorem bufS_mem {l : List Cor} {c : Cor} (h : c ∈ l) : c.buf.length ≤ bufS l := by
  unfold bufS
  induction l with
  | nil => cases h
  | cons x r ih =>
    rw [List.map_cons, List.sum_cons]
    rcases List.mem_cons.1 h with rfl | h
    · omega
    · have := ih h; omega
structure SmT (s : Sy) : Prop where
  cores : s.cores.length ≤ 1000000000
  caches : s.caches.length ≤ 1000000000
  net : s.net.length ≤ 1000000000
  buf : ∀ c ∈ s.cores, c.buf.length ≤ 1000000000
theorem small_t {s : Sy} (h : smallSy s) : SmT s := by
  unfold smallSy at h
  exact ⟨by omega, by omega, by omega, fun c hc => by have := bufS_mem hc; omega⟩
theorem fits_t {g : Geo} {s : Sy} (h : fitsB g s = true) : SmT s := by
  unfold fitsB fit4 at h
  simp only [Bool.and_eq_true, decide_eq_true_eq] at h
  obtain ⟨⟨⟨⟨q1, q2⟩, q3⟩, q4⟩, q5, q6⟩ := h
  have := (geoR_spec q1).1
  refine ⟨by omega, by omega, by omega, fun c hc => ?_⟩
  have h := List.all_eq_true.1 q5 c hc
  unfold bufB at h
  have := of_decide_eq_true h
  omega
end Go.Proofs.YthgmcegmgjoafaaGreatDoor
namespace Go.Proofs.YthgmcegmgjoafaaGreatDoor
open Go.Vc Go.RowKit Go.Sei
structure PfD where
  c : UInt8
  k : UInt8
  l : UInt8
  a : UInt8
  b : UInt8
  o : UInt8
  n : UInt8
deriving DecidableEq
def PfD.enc (x : PfD) : List Value := [u8 x.c, u8 x.k, u8 x.l, u8 x.a, u8 x.b, u8 x.o, u8 x.n]
def turnPf (n : Nat) (to : List Int) (x : PfD) : PfD := { x with c := nodeU n to x.c }
def zeroPfC : List Value := [u8 0, u8 0, u8 0, u8 0, u8 0, u8 0, u8 0]
theorem tOpN : ∃ G, TyEq Tryz.prog 88 true 4 2 G ∧ ∀ k l a b : UInt8, G [u8 k, u8 l, u8 a, u8 b] := by
  refine ⟨_, .struct (uf Tryz.underlying88).1 (by kernel_rfl) (fun w => Tryz.isAgg88 w) (known_of (by kernel_rfl) (by kernel_rfl)).1 (by kernel_rfl)
    (by rw [(uf Tryz.underlying88).2]; exact .cons (by decide) rfl tU8 (.cons (by decide) rfl tU8 (.cons (by decide) rfl tU8 (.cons (by decide) rfl tU8 .nil)))), fun k l a b => ?_⟩
  exact ⟨⟨_, rfl⟩, ⟨_, rfl⟩, ⟨_, rfl⟩, ⟨_, rfl⟩, trivial⟩
theorem tPerf : ∃ G, TyEq Tryz.prog 90 true 7 3 G ∧ ∀ x : PfD, G x.enc := by
  obtain ⟨G, h1, h2⟩ := tOpN
  refine ⟨_, .struct (uf Tryz.underlying90).1 (by kernel_rfl) (fun w => Tryz.isAgg90 w) (known_of (by kernel_rfl) (by kernel_rfl)).1 (by kernel_rfl)
    (by rw [(uf Tryz.underlying90).2]; exact .cons (by decide) rfl (tU8.up 1) (.cons (by decide) rfl h1 (.cons (by decide) rfl (tU8.up 1) (.cons (by decide) rfl (tU8.up 1) .nil)))), fun x => ?_⟩
  exact ⟨⟨_, rfl⟩, h2 _ _ _ _, ⟨_, rfl⟩, ⟨_, rfl⟩, trivial⟩
theorem neq_perf (x y : Operand) (a : PfD) (w : World) : (do eqGuard .neq 90 x y (.agg a.enc.toArray) (.agg a.enc.toArray); binOp .neq 90 (.agg a.enc.toArray) (.agg a.enc.toArray)).run Tryz.prog w = .ok (.bool false) w := by
  obtain ⟨G, h1, h2⟩ := tPerf
  have := neq_ty h1 9997 rfl (by kernel_rfl) (a := a.enc) (b := a.enc) rfl rfl (h2 a) (h2 a) x y w
  rw [this]
  have e : cdec (a.enc = a.enc) = true := by unfold cdec; simp
  rw [e]; rfl
section
variable {B : Nat} {p : Prg} {g : Geo} {md : UInt8} {vs : List Value} {q : Option Addr} {cap : Nat} {l : List Int} {w : World}
theorem Perf_c {x : PfD} (hB : B ≤ w.heap.size) (hw : WldV B w vs p g md) (hT : GlobT w) (h1 : vs.all Value.oneCell' = true) (hl : SlR Go.Sei.intE w q l) (hf : (turnsL p g && suitsL g md l) = true) :
    Calls Tryz.prog 27 #[.agg vs.toArray, .agg x.enc.toArray, .slice q l.length cap] w fun e w' => e = .returned (.tuple #[.agg (turnPf l.length (toN l l.length) x).enc.toArray, i64 0]) ∧ Below w.heap.size w w' := by
  refine calls_of_M (S := sg 20) (sgOk _) (args := [.agg vs.toArray, .agg x.enc.toArray, .slice q l.length cap]) (.c .p (.s .p (.c .p .p))) Tryz.func27 rfl rfl (Nat.le_of_ble_eq_true rfl) rfl ?_
  obtain ⟨n, hgc, hn1, hn4, hln, hr⟩ := fits_parts hf
  obtain ⟨L, hL⟩ : ∃ L, L = w.heap.size := ⟨_, rfl⟩
  obtain ⟨W1, hW1⟩ : ∃ W1, W1 = w.alloc (.cells vs.toArray 44) := ⟨_, rfl⟩
  obtain ⟨W2, hW2⟩ : ∃ W2, W2 = W1.alloc (.cells x.enc.toArray 90) := ⟨_, rfl⟩
  have s1 : W1.heap.size = L + 1 := by rw [hW1, World.size_alloc, hL]
  have s2 : W2.heap.size = L + 2 := by rw [hW2, World.size_alloc, s1]
  refine ⟨Unit, fun _ => ⟨[(2, .slice q l.length cap), (3, .pointer (some ⟨L, 0, none⟩)), (4, .pointer (some ⟨L + 1, 0, none⟩)), (6, .pointer (some ⟨L + 2, 0, none⟩))], []⟩, fun _ X => X.heap[L]? = some (.cells vs.toArray 44 (0, 0)) ∧
    X.heap[L + 1]? = some (.cells x.enc.toArray 90 (0, 0)) ∧ X.heap[L + 2]? = some (.cells zeroPfC.toArray 90 (0, 0)) ∧ Below w.heap.size w X, ?_, ?_⟩
  · have q1 : some (Value.pointer (some ⟨w.heap.size, 0, none⟩)) = some (Value.pointer (some ⟨L, 0, none⟩)) := by rw [hL]
    have q2 : some (Value.pointer (some ⟨W1.heap.size, 0, none⟩)) = some (Value.pointer (some ⟨L + 1, 0, none⟩)) := by rw [s1]
    have q3 : some (Value.pointer (some ⟨W2.heap.size, 0, none⟩)) = some (Value.pointer (some ⟨L + 2, 0, none⟩)) := by rw [s2]
    rw [hW2, hW1] at q3
    rw [hW1] at q2
    refine ⟨(), ⟨.cons rfl (.cons q1 (.cons q2 (.cons q3 .nil))), rfl⟩, ?_⟩
    have hM : (W2.alloc (.cells zeroPfC.toArray 90)).heap[L]? = some (.cells vs.toArray 44 (0, 0)) ∧ (W2.alloc (.cells zeroPfC.toArray 90)).heap[L + 1]? = some (.cells x.enc.toArray 90 (0, 0)) ∧ (W2.alloc (.cells zeroPfC.toArray 90)).heap[L + 2]? = some (.cells zeroPfC.toArray 90 (0, 0)) ∧ Below w.heap.size w (W2.alloc (.cells zeroPfC.toArray 90)) := by
      refine ⟨hold _ ?_, hold _ ?_, ?_, ?_⟩
      · rw [hW2, hW1, hL]; exact hold _ (hnew w _)
      · rw [hW2, ← s1]; exact hnew W1 _
      · rw [← s2]; exact hnew W2 _
      · rw [hW2, hW1]; exact (((Below.refl _ w).alloc (Nat.le_refl _) _).alloc (by simp) _).alloc (by simp; omega) _
    rw [hW2, hW1] at hM
    exact hM
  clear s1 s2 hW1 hW2 W1 W2
  rintro _ X ⟨f0, f1, f2, hbX⟩
  refine ⟨vs, hw.len, cells_block f0, hlt f0, ?_⟩
  refine Calls.mono (FitsT_c (Nat.le_trans hB hbX.size) (hw.below (hbX.mono hB)) (hT.below hbX) h1 (hl.below hbX) (by omega)) ?_
  rintro e V ⟨rfl, hbV⟩
  rw [hf]
  refine brF ?_
  have hbw : Below w.heap.size w V := hbX.trans (hbV.mono hbX.size)
  have hio : IdxOk n (toN l l.length) := idx_ok hn4 (by omega)
  refine ⟨Unit, fun _ => ⟨[(4, .pointer (some ⟨L + 1, 0, none⟩)), (6, .pointer (some ⟨L + 2, 0, none⟩))], []⟩, fun _ X => X.heap[L + 1]? = some (.cells (turnPf n (toN l l.length) x).enc.toArray 90 (0, 0)) ∧ X.heap[L + 2]? = some (.cells zeroPfC.toArray 90 (0, 0)) ∧ Below w.heap.size w X, ?_, ?_⟩
  · refine DrawE.ord [6] [0, 2, 3, 1, 4, 5, 6] (by kernel_rfl) ?_
    have hbd : Below V.heap.size V V.drew := (Below.refl _ V).drew
    have hbwd : Below w.heap.size w V.drew := hbw.trans (hbd.mono hbw.size)
    have g0 := block_below hbd (block_below hbV f0)
    have g1 := block_below hbd (block_below hbV f1)
    have g2 := block_below hbd (block_below hbV f2)
    have hC : WldC B V.drew L p g md := ⟨Nat.le_trans hB hbwd.size, ⟨vs, g0, hw.below (hbwd.mono hB)⟩, hT.below hbwd⟩
    refine ⟨_, cells_at (cells_block g1) (i := 0) rfl, ?_⟩
    refine Calls.mono (newIndex_c hC hgc hn4 (hl.below hbwd) hr (by omega)) ?_
    rintro e U ⟨rfl, hbU⟩
    refine ⟨hbU, ?_⟩
    refine Calls.mono (node_u hio) ?_
    rintro e Y ⟨rfl, hbY⟩
    refine ⟨hbY, ?_⟩
    have h1' := block_below hbY (block_below hbU g1)
    have h2' := block_below hbY (block_below hbU g2)
    have hbY2 : Below w.heap.size w Y := (hbwd.trans (hbU.mono hbwd.size)).trans (hbY.mono (Nat.le_trans hbwd.size hbU.size))
    refine store_one (ttOk.get 5 _ rfl) h1' (o := 0) (v := u8 (nodeU n (toN l l.length) x.c)) rfl rfl (by show 0 < 7; decide) rfl fun Z fZ gZ sZ => ?_
    refine ⟨(), ⟨.cons rfl (.cons rfl .nil), rfl⟩, fZ, (gZ.block (L + 2) (hlt h2') (by simp)).trans h2', hbY2.trans (below_grown gZ hbY2.size (by omega))⟩
  clear f0 f1 f2 hbX hbV hbw X V
  rintro _ X ⟨f1, f2, hbX⟩
  refine ⟨(turnPf n (toN l l.length) x).enc, rfl, cells_block f1, hlt f1, ?_⟩
  refine store_box (v := .agg (turnPf n (toN l l.length) x).enc.toArray) (ttOk.get 90 _ rfl) f2 rfl rfl rfl ?_
  have g4 := setRow_new (cs' := (Value.agg (turnPf n (toN l l.length) x).enc.toArray).cells) f2
  refine ⟨(turnPf n (toN l l.length) x).enc, rfl, cells_block g4, ?_⟩
  refine ⟨by rw [hln]; rfl, below_setRow hbX (by omega) _⟩
end
end Go.Proofs.YthgmcegmgjoafaaGreatDoor
namespace Go.Proofs.YthgmcegmgjoafaaGreatDoor
open Go.Vc Go.RowKit Go.Sei
structure StD where
  k : UInt8
  n : UInt8
  l : UInt8
  m : Msg
def StD.enc (x : StD) : List Value := [u8 x.k, u8 x.n, u8 x.l] ++ x.m.enc
def turnSt (n : Nat) (to : List Int) (x : StD) : StD := if x.k = 5 then { x with m := turnM n to x.m } else { x with n := nodeU n to x.n }
def zeroStC : List Value := [u8 0, u8 0, u8 0] ++ zMsgC
theorem tMsg : ∃ G, TyEq Tryz.prog 53 true 11 3 G ∧ ∀ x : Msg, G x.enc := by
  refine ⟨_, .struct (uf Tryz.underlying53).1 (by kernel_rfl) (fun w => Tryz.isAgg53 w) (known_of (by kernel_rfl) (by kernel_rfl)).1 (by kernel_rfl)
    (by rw [(uf Tryz.underlying53).2]; exact .cons (by decide) rfl (tU8.up 1) (.cons (by decide) rfl (tU8.up 1) (.cons (by decide) rfl (tU8.up 1) (.cons (by decide) rfl (tU8.up 1) (.cons (by decide) rfl (tU8.up 1) (.cons (by decide) rfl (tU8.up 1) (.cons (by decide) rfl (tBool.up 1) (.cons (by decide) rfl tData .nil)))))))), fun x => ?_⟩
  obtain ⟨a0, a1, a2, a3, a4, a5, a6, a7, a8, a9, a10⟩ := x
  exact ⟨⟨_, rfl⟩, ⟨_, rfl⟩, ⟨_, rfl⟩, ⟨_, rfl⟩, ⟨_, rfl⟩, ⟨_, rfl⟩, ⟨_, rfl⟩, gBytes [a7, a8, a9, a10] rfl, trivial⟩
theorem tStep : ∃ G, TyEq Tryz.prog 86 true 14 4 G ∧ ∀ x : StD, G x.enc := by
  obtain ⟨G, h1, h2⟩ := tMsg
  refine ⟨_, .struct (uf Tryz.underlying86).1 (by kernel_rfl) (fun w => Tryz.isAgg86 w) (known_of (by kernel_rfl) (by kernel_rfl)).1 (by kernel_rfl)
    (by rw [(uf Tryz.underlying86).2]; exact .cons (by decide) rfl (tU8.up 2) (.cons (by decide) rfl (tU8.up 2) (.cons (by decide) rfl (tU8.up 2) (.cons (by decide) rfl h1 .nil)))), fun x => ?_⟩
  exact ⟨⟨_, rfl⟩, ⟨_, rfl⟩, ⟨_, rfl⟩, h2 _, trivial⟩
theorem neq_step (x y : Operand) (a : StD) (w : World) : (do eqGuard .neq 86 x y (.agg a.enc.toArray) (.agg a.enc.toArray); binOp .neq 86 (.agg a.enc.toArray) (.agg a.enc.toArray)).run Tryz.prog w = .ok (.bool false) w := by
  obtain ⟨G, h1, h2⟩ := tStep
  have := neq_ty h1 9996 rfl (by kernel_rfl) (a := a.enc) (b := a.enc) rfl rfl (h2 a) (h2 a) x y w
  rw [this]
  have e : cdec (a.enc = a.enc) = true := by unfold cdec; simp
  rw [e]; rfl
section
variable {B : Nat} {p : Prg} {g : Geo} {md : UInt8} {vs : List Value} {q : Option Addr} {cap : Nat} {l : List Int} {w : World}
theorem Step_c {x : StD} (hB : B ≤ w.heap.size) (hw : WldV B w vs p g md) (hT : GlobT w) (h1 : vs.all Value.oneCell' = true) (hl : SlR Go.Sei.intE w q l) (hf : (turnsL p g && suitsL g md l) = true) :
    Calls Tryz.prog 26 #[.agg vs.toArray, .agg x.enc.toArray, .slice q l.length cap] w fun e w' => e = .returned (.tuple #[.agg (turnSt l.length (toN l l.length) x).enc.toArray, i64 0]) ∧ Below w.heap.size w w' := by
  refine calls_of_M (S := sg 30) (sgOk _) (args := [.agg vs.toArray, .agg x.enc.toArray, .slice q l.length cap]) (.c .p (.s .p (.c .p (.c .p .p)))) Tryz.func26 rfl rfl (Nat.le_of_ble_eq_true rfl) rfl ?_
  obtain ⟨n, hgc, hn1, hn4, hln, hr⟩ := fits_parts hf
  obtain ⟨L, hL⟩ : ∃ L, L = w.heap.size := ⟨_, rfl⟩
  obtain ⟨W1, hW1⟩ : ∃ W1, W1 = w.alloc (.cells vs.toArray 44) := ⟨_, rfl⟩
  obtain ⟨W2, hW2⟩ : ∃ W2, W2 = W1.alloc (.cells x.enc.toArray 86) := ⟨_, rfl⟩
  have s1 : W1.heap.size = L + 1 := by rw [hW1, World.size_alloc, hL]
  have s2 : W2.heap.size = L + 2 := by rw [hW2, World.size_alloc, s1]
  refine ⟨Unit, fun _ => ⟨[(2, .slice q l.length cap), (3, .pointer (some ⟨L, 0, none⟩)), (4, .pointer (some ⟨L + 1, 0, none⟩)), (6, .pointer (some ⟨L + 2, 0, none⟩))], []⟩, fun _ X => X.heap[L]? = some (.cells vs.toArray 44 (0, 0)) ∧
    X.heap[L + 1]? = some (.cells x.enc.toArray 86 (0, 0)) ∧ X.heap[L + 2]? = some (.cells zeroStC.toArray 86 (0, 0)) ∧ Below w.heap.size w X, ?_, ?_⟩
  · have q1 : some (Value.pointer (some ⟨w.heap.size, 0, none⟩)) = some (Value.pointer (some ⟨L, 0, none⟩)) := by rw [hL]
    have q2 : some (Value.pointer (some ⟨W1.heap.size, 0, none⟩)) = some (Value.pointer (some ⟨L + 1, 0, none⟩)) := by rw [s1]
    have q3 : some (Value.pointer (some ⟨W2.heap.size, 0, none⟩)) = some (Value.pointer (some ⟨L + 2, 0, none⟩)) := by rw [s2]
    rw [hW2, hW1] at q3
    rw [hW1] at q2
    refine ⟨(), ⟨.cons rfl (.cons q1 (.cons q2 (.cons q3 .nil))), rfl⟩, ?_⟩
    have hM : (W2.alloc (.cells zeroStC.toArray 86)).heap[L]? = some (.cells vs.toArray 44 (0, 0)) ∧ (W2.alloc (.cells zeroStC.toArray 86)).heap[L + 1]? = some (.cells x.enc.toArray 86 (0, 0)) ∧ (W2.alloc (.cells zeroStC.toArray 86)).heap[L + 2]? = some (.cells zeroStC.toArray 86 (0, 0)) ∧ Below w.heap.size w (W2.alloc (.cells zeroStC.toArray 86)) := by
      refine ⟨hold _ ?_, hold _ ?_, ?_, ?_⟩
      · rw [hW2, hW1, hL]; exact hold _ (hnew w _)
      · rw [hW2, ← s1]; exact hnew W1 _
      · rw [← s2]; exact hnew W2 _
      · rw [hW2, hW1]; exact (((Below.refl _ w).alloc (Nat.le_refl _) _).alloc (by simp) _).alloc (by simp; omega) _
    rw [hW2, hW1] at hM
    exact hM
  clear s1 s2 hW1 hW2 W1 W2
  rintro _ X ⟨f0, f1, f2, hbX⟩
  refine ⟨vs, hw.len, cells_block f0, hlt f0, ?_⟩
  refine Calls.mono (FitsT_c (Nat.le_trans hB hbX.size) (hw.below (hbX.mono hB)) (hT.below hbX) h1 (hl.below hbX) (by omega)) ?_
  rintro e V ⟨rfl, hbV⟩
  rw [hf]
  refine brF ?_
  have hbw : Below w.heap.size w V := hbX.trans (hbV.mono hbX.size)
  have hio : IdxOk n (toN l l.length) := idx_ok hn4 (by omega)
  obtain ⟨to, hto⟩ : ∃ to, to = toN l l.length := ⟨_, rfl⟩
  obtain ⟨pr, hpr⟩ : ∃ pr, pr = decide (md = 3) := ⟨_, rfl⟩
  have hil : (idxC n pr to).length = 6 := by
    unfold idxC
    rw [List.length_cons, List.length_cons, List.length_map, hto, hio.2.1]
  replace f0 := block_below hbV f0
  replace f1 := block_below hbV f1
  replace f2 := block_below hbV f2
  refine ⟨Nat, fun t => ⟨[(3, .pointer (some ⟨L, 0, none⟩)), (4, .pointer (some ⟨L + 1, 0, none⟩)), (6, .pointer (some ⟨L + 2, 0, none⟩)), (8, .pointer (some ⟨t, 0, none⟩))], []⟩, fun t Y => Y.heap[t]? = some (.cells (idxC n pr to).toArray 116 (0, 0)) ∧ Below V.heap.size V Y, ?_, ?_⟩
  · have hC : WldC B V L p g md := ⟨Nat.le_trans hB hbw.size, ⟨vs, f0, hw.below (hbw.mono hB)⟩, hT.below hbw⟩
    refine Calls.mono (newIndex_c hC hgc hn4 (hl.below hbw) hr (by omega)) ?_
    rintro e U ⟨rfl, hbU⟩
    rw [← hto, ← hpr]
    refine store_new (X := U) (v := .agg (idxC n pr to).toArray) (ttOk.get 116 _ rfl) hil rfl ?_ fun Y hbY fY sY => ?_
    · show (idxC n pr to).all Value.oneCell' = true
      unfold idxC
      rw [List.all_cons, List.all_cons, List.all_map]
      simp [Value.oneCell']
    exact ⟨U.heap.size, ⟨.cons rfl (.cons rfl (.cons rfl (.cons rfl .nil))), rfl⟩, fY, hbU.trans (hbY.mono hbU.size)⟩
  rintro t X' ⟨ft, hbX'⟩
  replace f0 := block_below hbX' f0
  replace f1 := block_below hbX' f1
  replace f2 := block_below hbX' f2
  replace hbw := hbw.trans (hbX'.mono hbw.size)
  rw [← hto] at hio
  refine ⟨Unit, fun _ => ⟨[(4, .pointer (some ⟨L + 1, 0, none⟩)), (6, .pointer (some ⟨L + 2, 0, none⟩))], []⟩, fun _ Y => Y.heap[L + 1]? = some (.cells (turnSt n to x).enc.toArray 86 (0, 0)) ∧ Y.heap[L + 2]? = some (.cells zeroStC.toArray 86 (0, 0)) ∧ Below w.heap.size w Y, ?_, ?_⟩
  · refine ⟨_, cells_at (cells_block f1) (i := 0) rfl, ?_⟩
    refine And.intro (fun h => ?_) (fun h => ?_)
    · have h : x.k = 5 := by
        have h : decide ((x.k.toNat : Int) = 5) = true := h
        rw [show decide ((x.k.toNat : Int) = 5) = decide (x.k = 5) from u8d x.k 5] at h
        exact of_decide_eq_true h
      refine ⟨idxC n pr to, hil, cells_block ft, hlt ft, ?_⟩
      refine ⟨x.m.enc, rfl, cells_sub (n := 3) (m := 11) (cells_block f1), hlt f1, ?_⟩
      refine Calls.mono (msg_c (m := x.m) hio) ?_
      rintro e Y ⟨rfl, hbY⟩
      have h1' := block_below hbY f1
      have h2' := block_below hbY f2
      have hbY2 : Below w.heap.size w Y := hbw.trans (hbY.mono hbw.size)
      refine store_part (ttOk.get 53 _ rfl) h1' (o := 0 + 3) (v := .agg (turnM n to x.m).enc.toArray) rfl (by show 3 + 11 ≤ 14; decide) rfl fun Z fZ gZ sZ => ?_
      refine ⟨(), ⟨.cons rfl (.cons rfl .nil), rfl⟩, ?_, (gZ.block (L + 2) (hlt h2') (by simp)).trans h2', hbY2.trans (below_grown gZ hbY2.size (by omega))⟩
      rw [fZ]
      unfold turnSt
      rw [if_pos h]; rfl
    · have h : ¬ x.k = 5 := by
        have h : decide ((x.k.toNat : Int) = 5) = false := h
        rw [show decide ((x.k.toNat : Int) = 5) = decide (x.k = 5) from u8d x.k 5] at h
        exact of_decide_eq_false h
      refine ⟨idxC n pr to, hil, cells_block ft, hlt ft, ?_⟩
      refine ⟨_, cells_at (cells_block f1) (i := 1) rfl, ?_⟩
      refine Calls.mono (node_u hio) ?_
      rintro e Y ⟨rfl, hbY⟩
      have h1' := block_below hbY f1
      have h2' := block_below hbY f2
      have hbY2 : Below w.heap.size w Y := hbw.trans (hbY.mono hbw.size)
      refine store_one (ttOk.get 5 _ rfl) h1' (o := 1) (v := u8 (nodeU n to x.n)) rfl rfl (by show 1 < 14; decide) rfl fun Z fZ gZ sZ => ?_
      refine ⟨(), ⟨.cons rfl (.cons rfl .nil), rfl⟩, ?_, (gZ.block (L + 2) (hlt h2') (by simp)).trans h2', hbY2.trans (below_grown gZ hbY2.size (by omega))⟩
      rw [fZ]
      unfold turnSt
      rw [if_neg h]; rfl
  clear f0 f1 f2 ft hbX hbV hbw hbX' X V
  rintro _ X ⟨f1, f2, hbX⟩
  refine ⟨(turnSt n to x).enc, rfl, cells_block f1, hlt f1, ?_⟩
  refine store_box (v := .agg (turnSt n to x).enc.toArray) (ttOk.get 86 _ rfl) f2 rfl rfl rfl ?_
  have g4 := setRow_new (cs' := (Value.agg (turnSt n to x).enc.toArray).cells) f2
  refine ⟨(turnSt n to x).enc, rfl, cells_block g4, ?_⟩
  refine ⟨by rw [← hto, hln]; rfl, below_setRow hbX (by omega) _⟩
end
end Go.Proofs.YthgmcegmgjoafaaGreatDoor
