/- Plain: turning there and back is nothing. Contracts: programs compared. Contracts: the law of turning back. Law23: readings opened: the parts of any reading, and the sizes. Law23: readings opened: worlds. Law23: the condition of a row gives what the walks need of a world; a world that meets it. Law23: readings opened: systems, messages, ints. Law23: readings opened: views. Law23: readings opened: operations performed. Law23: readings opened: steps. -/
import Derived.Test.YthmddpoodknclaaGreatDoorZ5
import Derived.Test.YthmddpoodknclaaGreatDoorZ4
import Derived.Test.YthmddpoodknclaaGreatDoorRows
import Derived.ProofKit
import Derived.OpenShut
import Derived.LaidLaws
import Derived.Below
import Derived.HandedShaped
import Derived.KernelRfl
import Derived.WalkKit
import Derived.ChangeOld
import Derived.SevenTiedAt
import Derived.LaidHandle
import Derived.Stop.LaidErr
import Derived.Lib.LaidTab
import Derived.SizedLaws
set_option linter.unusedSimpArgs false
namespace Go.Proofs.YthmddpoodknclaaGreatDoor
open Go.Vc Go.RowKit Go.Sei
set_option linter.unusedVariables false

theorem u8_of {n : Nat} {a : UInt8} (h : n = a.toNat) : UInt8.ofNat n = a := by subst h; simp
theorem setV_id (h : Hom) : setV h (leM h) = h := by
  have b0 := h.m0.toNat_lt
  have b1 := h.m1.toNat_lt
  have b2 := h.m2.toNat_lt
  have b3 := h.m3.toNat_lt
  have b4 := h.m4.toNat_lt
  have b5 := h.m5.toNat_lt
  have b6 := h.m6.toNat_lt
  have b7 := h.m7.toNat_lt
  obtain ⟨n, hn⟩ : ∃ n, n = leM h := ⟨_, rfl⟩
  have e := hn
  unfold leM at e
  rw [← hn]
  have e0 : UInt8.ofNat (n % 256) = h.m0 := u8_of (by omega)
  have e1 : UInt8.ofNat (n / 256 % 256) = h.m1 := u8_of (by omega)
  have e2 : UInt8.ofNat (n / 65536 % 256) = h.m2 := u8_of (by omega)
  have e3 : UInt8.ofNat (n / 16777216 % 256) = h.m3 := u8_of (by omega)
  have e4 : UInt8.ofNat (n / 4294967296 % 256) = h.m4 := u8_of (by omega)
  have e5 : UInt8.ofNat (n / 1099511627776 % 256) = h.m5 := u8_of (by omega)
  have e6 : UInt8.ofNat (n / 281474976710656 % 256) = h.m6 := u8_of (by omega)
  have e7 : UInt8.ofNat (n / 72057594037927936 % 256) = h.m7 := u8_of (by omega)
  unfold setV
  rw [e0, e1, e2, e3, e4, e5, e6, e7]
theorem movedN_id {s bits : Nat} {u t : List Int} (hs : s < 2 ^ 64) (hb : bits ≤ 64) (h : Inv bits u t) (hu : ∀ k, k < bits → u.getD k 0 = k) : movedN s bits t bits = s := by
  apply Nat.eq_of_testBit_eq
  intro i
  rw [movedN_bit hs hb h bits (Nat.le_refl _)]
  by_cases hi : i < bits
  · rw [if_pos hi, hu i hi, Int.toNat_natCast, decide_eq_true hi, Bool.and_true]
  · rw [if_neg hi]
theorem pick_iota {α : Type} {d : α} {xs : List α} {n : Nat} (h : xs.length = n) : pickL d xs (iotaL n) = xs := by
  subst h
  unfold pickL iotaL
  rw [List.map_map]
  apply List.ext_getElem
  · simp
  · intro i h1 h2
    rw [List.getElem_map, List.getElem_range]
    show xs.getD (Int.ofNat i).toNat d = xs[i]
    rw [show (Int.ofNat i).toNat = i from rfl, List.getD_eq_getElem?_getD, List.getElem?_eq_getElem h2]; rfl
theorem turnC_id {n lo : Nat} {to : List Int} (h : ∀ k, k < n → to.getD k 0 = k) : ∀ (d : Nat) (c : Cnd), condB n lo d c = true → turnC to c = c
  | 0, c, hc => by obtain ⟨k, t, n, v, kids⟩ := c; cases hc
  | d + 1, c, hc => by
    have hp := condB_parts hc
    rw [turnC_eq]
    have e1 : c.kids.map (turnC to) = c.kids := by
      have := List.map_congr_left (f := turnC to) (g := id) fun x hx => turnC_id h d x (hp.2.2 x hx)
      rw [this, List.map_id]
    rw [e1]
    have e2 : turnT to c.kind c.thread = c.thread := by
      unfold turnT
      by_cases h1 : c.kind = 1
      · rw [if_pos h1, h _ (hp.1 h1)]
        exact u8_of rfl
      · rw [if_neg h1]
    rw [e2]
    obtain ⟨k, t, n, v, kids⟩ := c
    rfl
section
variable {n : Nat} {m : Bool} (h1 : 1 ≤ n) (h4 : n ≤ 4) (hi : iotaL n ∈ grpL n m)
include h1 h4 hi
theorem to_iota : ∀ k, k < n → (toN (iotaL n) n).getD k 0 = k := fun k hk => by
  have := (inv_of h1 h4 hi).1.ta k hk
  rwa [iota_get hk, Int.toNat_natCast] at this
theorem nodeU_id (k : UInt8) : nodeU n (toN (iotaL n) n) k = k := by
  unfold nodeU
  by_cases hk : k.toNat < n
  · rw [if_pos hk, to_iota h1 h4 hi _ hk]
    exact u8_of rfl
  · rw [if_neg hk]
theorem turnM_id (x : Msg) : turnM n (toN (iotaL n) n) x = x := by
  have e := nodeU_id h1 h4 hi
  unfold turnM
  by_cases hk : x.kind = 6 ∨ x.kind = 7 ∨ x.kind = 8
  · simp only [if_pos hk, e]
  · simp only [if_neg hk, e]
theorem turnSt_id (x : StD) : turnSt n (toN (iotaL n) n) x = x := by
  unfold turnSt
  rw [nodeU_id h1 h4 hi, turnM_id h1 h4 hi]
  split <;> rfl
theorem turnPf_id (x : PfD) : turnPf n (toN (iotaL n) n) x = x := by
  unfold turnPf
  rw [nodeU_id h1 h4 hi]
theorem turnV_id {pr : Bool} (hpr : pr = m) (k : UInt8) {s : Nat} (hs : s < 2 ^ 64) : turnV n pr (toN (iotaL n) n) k s = s := by
  unfold turnV
  by_cases h12 : k = 1 ∨ k = 2
  · rw [if_pos h12]
    exact movedN_id hs (by omega) (inv_of h1 h4 hi).1 fun k hk => iota_get hk
  · rw [if_neg h12]
    by_cases h3 : k = 3 ∧ pr = true
    · rw [if_pos h3]
      have hm : m = true := by rw [← hpr]; exact h3.2
      subst hm
      refine movedN_id hs (by omega) (hinv_of h1 h4 hi) fun k hk => ?_
      have hc : k = 0 ∨ k = 1 := by omega
      rcases hc with rfl | rfl
      · show (iotaL n).getD 0 0 / 2 = _
        rw [iota_get (by omega)]; rfl
      · show (iotaL n).getD 2 0 / 2 = _
        rw [iota_get (by omega)]; rfl
    · rw [if_neg h3]
theorem turnH_id {pr : Bool} (hpr : pr = m) (h : Hom) : turnH n pr (toN (iotaL n) n) h = h := by
  rw [turnH_eq, turnV_id h1 h4 hi hpr _ (leM_lt h), setV_id, nodeU_id h1 h4 hi, nodeU_id h1 h4 hi]
  split <;> rfl
theorem turnS_id {pr : Bool} (hpr : pr = m) {g : Geo} (hg : g.c = n) {s : Sy} (hf : fitsB g s = true) : turnS n pr (toN (iotaL n) n) (iotaL n) s = s := by
  unfold fitsB fit4 at hf
  simp only [Bool.and_eq_true, decide_eq_true_eq] at hf
  obtain ⟨⟨⟨⟨q1, q2⟩, q3⟩, q4⟩, q5, q6⟩ := hf
  unfold turnS
  have e1 : s.homes.map (turnH n pr (toN (iotaL n) n)) = s.homes := by
    have := List.map_congr_left (l := s.homes) (f := turnH n pr (toN (iotaL n) n)) (g := id) fun x _ => turnH_id h1 h4 hi hpr x
    rw [this, List.map_id]
  have e2 : s.net.map (turnM n (toN (iotaL n) n)) = s.net := by
    have := List.map_congr_left (l := s.net) (f := turnM n (toN (iotaL n) n)) (g := id) fun x _ => turnM_id h1 h4 hi x
    rw [this, List.map_id]
  rw [e1, e2, pick_iota (by omega), pick_iota (by omega)]
theorem turnP_id {p : Prg} (hp : p.threads.length = n) (hok : okPrg p = true) : turnP (iotaL n) p = p := by
  have hO := okPrg_parts hok
  unfold turnP
  rw [pick_iota hp, turnC_id (n := n) (lo := p.locs.length) (fun k hk => ?_) 20 p.cond (by rw [← hp]; exact hO.cond)]
  rw [(inv_of h1 h4 hi).2 k hk]
  exact to_iota h1 h4 hi k hk
end
section
variable {n : Nat} {m : Bool} {a b : List Int} (h1 : 1 ≤ n) (h4 : n ≤ 4) (ha : a ∈ grpL n m) (hb : b ∈ grpL n m)
include h1 h4 ha hb
theorem turnSt_comp (x : StD) : turnSt n (toN b n) (turnSt n (toN a n) x) = turnSt n (toN (pickL 0 a b) n) x := by
  by_cases hk : x.k = 5
  · have e : turnSt n (toN a n) x = { x with m := turnM n (toN a n) x.m } := by unfold turnSt; rw [if_pos hk]
    rw [e]
    unfold turnSt
    rw [if_pos hk, if_pos hk, turnM_comp h1 h4 ha hb]
  · have e : turnSt n (toN a n) x = { x with n := nodeU n (toN a n) x.n } := by unfold turnSt; rw [if_neg hk]
    rw [e]
    unfold turnSt
    rw [if_neg hk, if_neg hk, nodeU_comp h1 h4 ha hb]
theorem turnPf_comp (x : PfD) : turnPf n (toN b n) (turnPf n (toN a n) x) = turnPf n (toN (pickL 0 a b) n) x := by
  unfold turnPf
  rw [nodeU_comp h1 h4 ha hb]
end
end Go.Proofs.YthmddpoodknclaaGreatDoor
namespace Go.Proofs.YthmddpoodknclaaGreatDoor
open Go.Vc Go.RowKit Go.Sei
set_option linter.unusedVariables false

theorem neq_self (x : Int) : (!decide (x = x)) = false := by simp
theorem condsT_c {B : Nat} {w0 : World} {p : Option Addr} {kids : List Cnd} (hk : KidsV B w0 p kids) : ∀ (X : World) (c : Cnd) (cap : Nat) (p' : Option Addr) (cap' B' : Nat) , c.kids = kids → Below B w0 X → B ≤ X.heap.size → KidsV B' X p' kids → B' ≤ X.heap.size →
    Calls Tryz.prog 33 #[.agg (cndCells c p cap).toArray, .agg (cndCells c p' cap').toArray] X fun e w' => e = .returned (.bool true) ∧ Below X.heap.size X w' := by
  induction hk with
  | mk p kids hn b o hp qf cf hks ht ih =>
    intro X c cap p' cap' B' hck hbX hBX hk' hBX'
    obtain ⟨hn', b', o', hp', hks'⟩ := hk'.inv
    refine calls_of_M (S := sg 60) (sgOk _) (args := [.agg (cndCells c p cap).toArray, .agg (cndCells c p' cap').toArray]) (.c .p .p) Tryz.func33 rfl rfl (Nat.le_of_ble_eq_true rfl) rfl ?_
    obtain ⟨L, hL⟩ : ∃ L, L = X.heap.size := ⟨_, rfl⟩
    refine ⟨Unit, fun _ => ⟨[(2, .pointer (some ⟨L, 0, none⟩)), (3, .pointer (some ⟨L + 1, 0, none⟩))], []⟩, fun _ Y => Y.heap[L]? = some (.cells (cndCells c p cap).toArray 27 (0, 0)) ∧ Y.heap[L + 1]? = some (.cells (cndCells c p' cap').toArray 27 (0, 0)) ∧ Below X.heap.size X Y, ?_, ?_⟩
    · obtain ⟨W1, hW1⟩ : ∃ W1, W1 = X.alloc (.cells (cndCells c p cap).toArray 27) := ⟨_, rfl⟩
      have s1 : W1.heap.size = L + 1 := by rw [hW1, World.size_alloc, hL]
      have q1 : some (Value.pointer (some ⟨X.heap.size, 0, none⟩)) = some (Value.pointer (some ⟨L, 0, none⟩)) := by rw [hL]
      have q2 : some (Value.pointer (some ⟨W1.heap.size, 0, none⟩)) = some (Value.pointer (some ⟨L + 1, 0, none⟩)) := by rw [s1]
      rw [hW1] at q2
      refine ⟨(), ⟨.cons q1 (.cons q2 .nil), rfl⟩, ?_⟩
      have hM : (W1.alloc (.cells (cndCells c p' cap').toArray 27)).heap[L]? = some (.cells (cndCells c p cap).toArray 27 (0, 0)) ∧ (W1.alloc (.cells (cndCells c p' cap').toArray 27)).heap[L + 1]? = some (.cells (cndCells c p' cap').toArray 27 (0, 0)) ∧ Below X.heap.size X (W1.alloc (.cells (cndCells c p' cap').toArray 27)) := by
        refine ⟨hold _ ?_, ?_, ?_⟩
        · rw [hW1, hL]; exact hnew X _
        · rw [← s1]; exact hnew W1 _
        · rw [hW1]; exact ((Below.refl _ X).alloc (Nat.le_refl _) _).alloc (by simp) _
      rw [hW1] at hM
      exact hM
    rintro _ Y ⟨f0, f1, hbY⟩
    have c0 := cells_block f0
    have c1 := cells_block f1
    refine ⟨_, cells_at c0 (i := 0) rfl, ?_⟩
    refine ⟨_, cells_at c1 (i := 0) rfl, ?_⟩
    refine brN (b := !decide ((c.kind.toNat : Int) = c.kind.toNat)) (neq_self _) ?_
    refine ⟨_, cells_at c0 (i := 1) rfl, ?_⟩
    refine ⟨_, cells_at c1 (i := 1) rfl, ?_⟩
    refine brN (b := !decide ((c.thread.toNat : Int) = c.thread.toNat)) (neq_self _) ?_
    refine ⟨_, cells_at c0 (i := 2) rfl, ?_⟩
    refine ⟨_, cells_at c1 (i := 2) rfl, ?_⟩
    refine brN (b := !decide ((c.n.toNat : Int) = c.n.toNat)) (neq_self _) ?_
    refine ⟨_, cells_at c0 (i := 3) rfl, ?_⟩
    refine ⟨_, cells_at c1 (i := 3) rfl, ?_⟩
    refine brN (b := !decide ((c.val.toNat : Int) = c.val.toNat)) (neq_self _) ?_
    refine ⟨_, cells_at c0 (i := 4) rfl, ?_⟩
    refine ⟨_, cells_at c1 (i := 4) rfl, ?_⟩
    refine brN (b := !decide ((c.kids.length : Int) = c.kids.length)) (neq_self _) ?_
    refine ⟨_, cells_at c0 (i := 4) rfl, ?_⟩
    refine ⟨Nat, fun k => ⟨[(2, .pointer (some ⟨L, 0, none⟩)), (3, .pointer (some ⟨L + 1, 0, none⟩)), (43, i64 c.kids.length), (44, i64 (k : Nat))], []⟩, fun k Z => k ≤ c.kids.length ∧ Below Y.heap.size Y Z, fun k => c.kids.length - k, 0,
      ⟨.cons rfl (.cons rfl (.cons rfl (.cons rfl .nil))), rfl⟩, ⟨Nat.zero_le _, Below.refl _ _⟩, ?_⟩
    rintro k Z ⟨hk, hbZ⟩
    dsimp only at hk ⊢
    have hXZ : Below X.heap.size X Z := hbY.trans (hbZ.mono hbY.size)
    have hklen : c.kids.length = kids.length := by rw [hck]
    refine And.intro (fun hc => ?_) (fun hc => ?_)
    · have hc : (k : Int) < (c.kids.length : Int) := of_decide_eq_true hc
      have hkl : k < kids.length := by omega
      refine DrawE.ord [] [0, 1, 2, 3, 4, 5, 6, 7, 8, 9, 10, 11] (by kernel_rfl) ?_
      have hXd : Below X.heap.size X Z.drew := hXZ.drew
      have d0 := cells_below (hbZ.trans ((Below.refl _ Z).drew.mono hbZ.size)) c0
      have d1 := cells_below (hbZ.trans ((Below.refl _ Z).drew.mono hbZ.size)) c1
      rcases hp with hp | hp
      · omega
      subst hp
      rcases hp' with hp' | hp'
      · omega
      subst hp'
      obtain ⟨q', cq', hb', hc', hkk'⟩ := hks' k hkl
      have hb0 : Below B w0 Z.drew := hbX.trans (hXd.mono hBX)
      refine ⟨_, cells_at d0 (i := 4) rfl, ?_⟩
      refine ⟨k, rfl, by omega, ?_⟩
      refine ⟨cndCells kids[k] (qf k) (cf k), rfl, cells_belowB hb0 (hks k hkl).1 (hks k hkl).2, Nat.lt_of_lt_of_le (hks k hkl).1 (Nat.le_trans hBX hXd.size), ?_⟩
      refine ⟨_, cells_at d1 (i := 4) rfl, ?_⟩
      refine ⟨k, rfl, by omega, ?_⟩
      refine ⟨cndCells kids[k] q' cq', rfl, cells_belowB (hXd.mono hBX') hb' hc', Nat.lt_of_lt_of_le hb' (Nat.le_trans hBX' hXd.size), ?_⟩
      refine Calls.mono (ih k hkl Z.drew kids[k] (cf k) q' cq' B' rfl hb0 (Nat.le_trans hBX hXd.size) (hkk'.kept (hXd.mono hBX')) (Nat.le_trans hBX' hXd.size)) ?_
      rintro e V ⟨rfl, hbV⟩
      refine ⟨hbV, ?_⟩
      refine brF ?_
      refine ⟨_, (wrap_i64 (by omega)).trans rfl, ?_⟩
      exact ⟨k + 1, ⟨.cons rfl (.cons rfl (.cons rfl (.cons rfl .nil))), rfl⟩, ⟨by omega, (hbZ.trans ((Below.refl _ Z).drew.mono hbZ.size)).trans (hbV.mono hbZ.size)⟩, by show c.kids.length - (k + 1) < c.kids.length - k; omega⟩
    · exact ⟨rfl, hXZ⟩
theorem progsT_c {p : Prg} {va vb : List Value} {w : World} (ha : PrgV w.heap.size w va p) (hb : PrgV w.heap.size w vb p) :
    Calls Tryz.prog 15 #[.agg va.toArray, .agg vb.toArray] w fun e w' => e = .returned (.bool true) ∧ Below w.heap.size w w' := by
  refine calls_of_M (S := sg 66) (sgOk _) (args := [.agg va.toArray, .agg vb.toArray]) (.c .p (.s .p (.c .p .p))) Tryz.func15 rfl rfl (Nat.le_of_ble_eq_true rfl) rfl ?_
  obtain ⟨hlen, a1, x1, a2, x2, a3, x3, a4, x4, hva, _, _, ⟨xs, hxs, rx, rx'⟩, ka, _⟩ := ha
  obtain ⟨_, b1, y1, b2, y2, b3, y3, b4, y4, hvb, _, _, ⟨ys, hys, ry, ry'⟩, kb, _⟩ := hb
  have hxl : p.threads.length = xs.length := by rw [← hxs, List.length_map]
  have hyl : p.threads.length = ys.length := by rw [← hys, List.length_map]
  have hth := hlen.threads
  obtain ⟨L, hL⟩ : ∃ L, L = w.heap.size := ⟨_, rfl⟩
  refine ⟨Unit, fun _ => ⟨[(2, .pointer (some ⟨L, 0, none⟩)), (3, .pointer (some ⟨L + 1, 0, none⟩))], []⟩, fun _ Y => Y.heap[L]? = some (.cells va.toArray 29 (0, 0)) ∧ Y.heap[L + 1]? = some (.cells vb.toArray 29 (0, 0)) ∧ Below w.heap.size w Y, ?_, ?_⟩
  · obtain ⟨W1, hW1⟩ : ∃ W1, W1 = w.alloc (.cells va.toArray 29) := ⟨_, rfl⟩
    have s1 : W1.heap.size = L + 1 := by rw [hW1, World.size_alloc, hL]
    have q1 : some (Value.pointer (some ⟨w.heap.size, 0, none⟩)) = some (Value.pointer (some ⟨L, 0, none⟩)) := by rw [hL]
    have q2 : some (Value.pointer (some ⟨W1.heap.size, 0, none⟩)) = some (Value.pointer (some ⟨L + 1, 0, none⟩)) := by rw [s1]
    rw [hW1] at q2
    refine ⟨(), ⟨.cons q1 (.cons q2 .nil), rfl⟩, ?_⟩
    have hM : (W1.alloc (.cells vb.toArray 29)).heap[L]? = some (.cells va.toArray 29 (0, 0)) ∧ (W1.alloc (.cells vb.toArray 29)).heap[L + 1]? = some (.cells vb.toArray 29 (0, 0)) ∧ Below w.heap.size w (W1.alloc (.cells vb.toArray 29)) := by
      refine ⟨hold _ ?_, ?_, ?_⟩
      · rw [hW1, hL]; exact hnew w _
      · rw [← s1]; exact hnew W1 _
      · rw [hW1]; exact ((Below.refl _ w).alloc (Nat.le_refl _) _).alloc (by simp) _
    rw [hW1] at hM
    exact hM
  rintro _ Y ⟨f0, f1, hbY⟩
  have c0 := cells_block f0
  have c1 := cells_block f1
  refine ⟨_, cells_at c0 (i := 3) (by rw [hva]; rfl), ?_⟩
  refine ⟨_, cells_at c1 (i := 3) (by rw [hvb]; rfl), ?_⟩
  refine brN (b := !decide ((p.threads.length : Int) = p.threads.length)) (neq_self _) ?_
  -- the threads
  refine ⟨Unit, fun _ => ⟨[(2, .pointer (some ⟨L, 0, none⟩)), (3, .pointer (some ⟨L + 1, 0, none⟩))], []⟩, fun _ Z => Below Y.heap.size Y Z, ?_, ?_⟩
  · refine ⟨_, cells_at c0 (i := 3) (by rw [hva]; rfl), ?_⟩
    refine ⟨Nat, fun k => ⟨[(2, .pointer (some ⟨L, 0, none⟩)), (3, .pointer (some ⟨L + 1, 0, none⟩)), (16, i64 p.threads.length), (17, i64 (k : Nat))], []⟩, fun k Z => k ≤ p.threads.length ∧ Below Y.heap.size Y Z, fun k => p.threads.length - k, 0,
      ⟨.cons rfl (.cons rfl (.cons rfl (.cons rfl .nil))), rfl⟩, ⟨Nat.zero_le _, Below.refl _ _⟩, ?_⟩
    rintro k Z ⟨hk, hbZ⟩
    dsimp only at hk ⊢
    refine And.intro (fun hc => ?_) (fun hc => ?_)
    · have hc : (k : Int) < (p.threads.length : Int) := of_decide_eq_true hc
      have hkx : k < xs.length := by omega
      have hky : k < ys.length := by omega
      have ex : xs[k].1 = p.threads[k]'(by omega) := by
        have h1 : (xs.map (·.1))[k]'(by rw [List.length_map]; exact hkx) = p.threads[k]'(by omega) := by congr 1
        rw [List.getElem_map] at h1; exact h1
      have ey : ys[k].1 = p.threads[k]'(by omega) := by
        have h1 : (ys.map (·.1))[k]'(by rw [List.length_map]; exact hky) = p.threads[k]'(by omega) := by congr 1
        rw [List.getElem_map] at h1; exact h1
      have exy : ys[k].1 = xs[k].1 := ey.trans ex.symm
      have rows : ∀ {V : World}, Below Y.heap.size Y V → ∃ bx ox bo oo, a3 = some ⟨bx, ox, none⟩ ∧ b3 = some ⟨bo, oo, none⟩ ∧ Cells V ⟨bx, ox + k * 1, none⟩ [thrV xs[k]] ∧ Cells V ⟨bo, oo + k * 1, none⟩ [thrV ys[k]] ∧ SlR insE V xs[k].2.1 xs[k].1 ∧ SlR insE V ys[k].2.1 ys[k].1 := fun {V} hV => by
        have hwV : Below w.heap.size w V := hbY.trans (hV.mono hbY.size)
        obtain ⟨bx, ox, hpx, hatx⟩ := (rx.below hwV).get
        obtain ⟨bo, oo, hpo, hato⟩ := (ry.below hwV).get
        rcases hpx with hpx | hpx
        · omega
        rcases hpo with hpo | hpo
        · omega
        exact ⟨bx, ox, bo, oo, hpx, hpo, (hatx k hkx).2, (hato k hky).2, ((rx' _ (List.getElem_mem hkx)).below hwV).slr hwV.size, ((ry' _ (List.getElem_mem hky)).below hwV).slr hwV.size⟩
      refine DrawE.ord [] [0, 1, 2, 3, 4, 5, 6, 7, 8, 9, 10, 11, 12] (by kernel_rfl) ?_
      have hbd := hbZ.trans ((Below.refl _ Z).drew.mono hbZ.size)
      obtain ⟨bx, ox, bo, oo, rfl, rfl, cx, cy, sx, sy⟩ := rows hbd
      refine ⟨_, cells_at (cells_below hbd c0) (i := 3) (by rw [hva]; rfl), ?_⟩
      refine ⟨k, rfl, by omega, ?_⟩
      refine ⟨thrV xs[k], cells_at cx (i := 0) rfl, ?_⟩
      refine ⟨_, cells_at (cells_below hbd c1) (i := 3) (by rw [hvb]; rfl), ?_⟩
      refine ⟨k, rfl, by omega, ?_⟩
      refine ⟨thrV ys[k], cells_at cy (i := 0) rfl, ?_⟩
      refine brN (b := !decide ((xs[k].1.length : Int) = ys[k].1.length)) (by rw [exy]; exact neq_self _) ?_
      refine ⟨_, cells_at (cells_below hbd c0) (i := 3) (by rw [hva]; rfl), ?_⟩
      refine ⟨k, rfl, by omega, ?_⟩
      refine ⟨thrV xs[k], cells_at cx (i := 0) rfl, ?_⟩
      have hl9 : xs[k].1.length ≤ 140737488351232 := by
        refine hlen.thread _ ?_
        rw [← hxs]; exact List.mem_map_of_mem (List.getElem_mem hkx)
      refine ⟨Nat, fun j => ⟨[(2, .pointer (some ⟨L, 0, none⟩)), (3, .pointer (some ⟨L + 1, 0, none⟩)), (5, i64 (k : Nat)), (16, i64 p.threads.length), (17, i64 (k : Nat)), (38, i64 xs[k].1.length), (39, i64 (j : Nat))], []⟩, fun j V => j ≤ xs[k].1.length ∧ Below Y.heap.size Y V, fun j => xs[k].1.length - j, 0,
        ⟨.cons rfl (.cons rfl (.cons rfl (.cons rfl (.cons rfl (.cons rfl (.cons rfl .nil)))))), rfl⟩, ⟨Nat.zero_le _, hbd⟩, ?_⟩
      clear cx cy sx sy hbd
      rintro j V ⟨hj, hbV⟩
      dsimp only at hj ⊢
      refine And.intro (fun hc2 => ?_) (fun hc2 => ?_)
      · have hc2 : (j : Int) < (xs[k].1.length : Int) := of_decide_eq_true hc2
        have hjl : j < xs[k].1.length := by omega
        have hjy : j < ys[k].1.length := by rw [exy]; exact hjl
        refine DrawE.ord [] [0, 1, 2, 3, 4, 5, 6, 7, 8, 9, 10, 11, 12, 13, 14, 15, 16] (by kernel_rfl) ?_
        have hbd := hbV.trans ((Below.refl _ V).drew.mono hbV.size)
        obtain ⟨bx', ox', bo', oo', e1, e2, cx, cy, sx, sy⟩ := rows hbd
        simp only [Option.some.injEq, Addr.mk.injEq, and_true] at e1 e2
        obtain ⟨rfl, rfl⟩ := e1
        obtain ⟨rfl, rfl⟩ := e2
        obtain ⟨b5, o5, h5, hb5, hat5⟩ := sx.at hjl
        obtain ⟨b6, o6, h6, hb6, hat6⟩ := sy.at hjy
        refine ⟨_, cells_at (cells_below hbd c0) (i := 3) (by rw [hva]; rfl), ?_⟩
        refine ⟨k, rfl, by omega, ?_⟩
        refine ⟨.slice (some ⟨b5, o5, none⟩) xs[k].1.length xs[k].2.2, by rw [← h5]; exact cells_at cx (i := 0) rfl, ?_⟩
        refine ⟨j, rfl, hjl, ?_⟩
        refine ⟨insE.enc xs[k].1[j], rfl, hat5 j hjl, hb5, ?_⟩
        refine ⟨_, cells_at (cells_below hbd c1) (i := 3) (by rw [hvb]; rfl), ?_⟩
        refine ⟨k, rfl, by omega, ?_⟩
        refine ⟨.slice (some ⟨b6, o6, none⟩) ys[k].1.length ys[k].2.2, by rw [← h6]; exact cells_at cy (i := 0) rfl, ?_⟩
        refine ⟨j, rfl, hjy, ?_⟩
        refine ⟨insE.enc ys[k].1[j], rfl, hat6 j hjy, hb6, ?_⟩
        have eij : ys[k].1[j] = xs[k].1[j] := by congr 1
        refine ⟨_, fun w => neq_ins _ _ xs[k].1[j] ys[k].1[j] w, ?_⟩
        refine brN (b := !decide (xs[k].1[j] = ys[k].1[j])) (by rw [eij]; simp) ?_
        refine ⟨_, (wrap_i64 (by omega)).trans rfl, ?_⟩
        exact ⟨j + 1, ⟨.cons rfl (.cons rfl (.cons rfl (.cons rfl (.cons rfl (.cons rfl (.cons rfl .nil)))))), rfl⟩, ⟨hjl, hbd⟩, by show xs[k].1.length - (j + 1) < xs[k].1.length - j; omega⟩
      · refine ⟨_, (wrap_i64 (by omega)).trans rfl, ?_⟩
        exact ⟨k + 1, ⟨.cons rfl (.cons rfl (.cons rfl (.cons rfl .nil))), rfl⟩, ⟨by omega, hbV⟩, by show p.threads.length - (k + 1) < p.threads.length - k; omega⟩
    · exact ⟨(), ⟨.cons rfl (.cons rfl .nil), rfl⟩, hbZ⟩
  rintro _ Z hbZ
  have hwZ : Below w.heap.size w Z := hbY.trans (hbZ.mono hbY.size)
  have f0Z := block_below hbZ f0
  have f1Z := block_below hbZ f1
  refine ⟨cndCells p.cond a4 x4, rfl, ?_, hlt f0Z, ?_⟩
  · have := cells_sub (n := 5) (m := 5) (cells_block f0Z)
    rw [hva] at this
    exact this
  refine ⟨cndCells p.cond b4 y4, rfl, ?_, hlt f1Z, ?_⟩
  · have := cells_sub (n := 5) (m := 5) (cells_block f1Z)
    rw [hvb] at this
    exact this
  refine Calls.mono (condsT_c ka Z p.cond x4 b4 y4 w.heap.size rfl hwZ hwZ.size (kb.kept hwZ) hwZ.size) ?_
  rintro e V ⟨rfl, hbV⟩
  exact ⟨rfl, hwZ.trans (hbV.mono hwZ.size)⟩
end Go.Proofs.YthmddpoodknclaaGreatDoor
namespace Go.Proofs.YthmddpoodknclaaGreatDoor
open Go.Vc Go.RowKit Go.Sei
set_option linter.unusedVariables false

theorem tViewN : ∃ G, TyEq Tryz.prog 50 true 3 2 G ∧ ∀ k m a, G (viewC k m a) := by
  refine ⟨_, .struct (uf Tryz.underlying50).1 (by kernel_rfl) (fun w => Tryz.isAgg50 w) (known_of (by kernel_rfl) (by kernel_rfl)).1 (by kernel_rfl)
    (by rw [(uf Tryz.underlying50).2]; exact .cons (by decide) rfl tU8 (.cons (by decide) rfl tSet (.cons (by decide) rfl tBool .nil))), fun k m a => ?_⟩
  exact ⟨⟨_, rfl⟩, ⟨_, rfl⟩, ⟨_, rfl⟩, trivial⟩
theorem neq_view (x y : Operand) (k : UInt8) (m : Nat) (a : Bool) (w : World) : (do eqGuard .neq 50 x y (.agg (viewC k m a).toArray) (.agg (viewC k m a).toArray); binOp .neq 50 (.agg (viewC k m a).toArray) (.agg (viewC k m a).toArray)).run Tryz.prog w = .ok (.bool false) w := by
  obtain ⟨G, h1, h2⟩ := tViewN
  have := neq_ty h1 9998 rfl (by kernel_rfl) (a := viewC k m a) (b := viewC k m a) rfl rfl (h2 k m a) (h2 k m a) x y w
  rw [this]
  have e : cdec (viewC k m a = viewC k m a) = true := by unfold cdec; simp
  rw [e]; rfl
/-- The six boxes. -/
structure Bk (w : World) (vs : List Value) (p : Prg) (g : Geo) (md : UInt8) (ss : List Value) (s : Sy) (m : Msg) (x : StD) (o : PfD) (va : List Value) (L : Nat) (X : World) : Prop where
  c : X.heap[L]? = some (.cells vs.toArray 44 (0, 0))
  v : WldV w.heap.size X vs p g md
  T : GlobT X
  b : Below w.heap.size w X
  s : X.heap[L + 1]? = some (.cells ss.toArray 58 (0, 0))
  m : X.heap[L + 2]? = some (.cells m.enc.toArray 60 (0, 0))
  x : X.heap[L + 3]? = some (.cells x.enc.toArray 62 (0, 0))
  o : X.heap[L + 4]? = some (.cells o.enc.toArray 66 (0, 0))
  e : X.heap[L + 5]? = some (.cells va.toArray 50 (0, 0))
section
variable {w X Y : World} {vs ss va : List Value} {p : Prg} {g : Geo} {md : UInt8} {s : Sy} {m : Msg} {x : StD} {o : PfD} {L : Nat}
theorem Bk.below (h : Bk w vs p g md ss s m x o va L X) (hb : Below X.heap.size X Y) : Bk w vs p g md ss s m x o va L Y :=
  ⟨block_below hb h.c, h.v.below (hb.mono h.b.size), h.T.below hb, h.b.trans (hb.mono h.b.size), block_below hb h.s, block_below hb h.m, block_below hb h.x, block_below hb h.o, block_below hb h.e⟩
/-- A world turned, in its box. -/
def Wt (md : UInt8) (g : Geo) (b : Nat) (p : Prg) (X : World) : Prop := ∃ vs : List Value, ∃ B, B ≤ X.heap.size ∧ X.heap[b]? = some (.cells vs.toArray 44 (0, 0)) ∧ WldV B X vs p g md ∧ vs.all Value.oneCell' = true
theorem Wt.below {b : Nat} (h : Wt md g b p X) (hb : Below X.heap.size X Y) : Wt md g b p Y := by
  obtain ⟨vs, B, h1, h2, h3, h4⟩ := h
  exact ⟨vs, B, Nat.le_trans h1 hb.size, block_below hb h2, h3.below (hb.mono h1), h4⟩
/-- A system turned, in its box. -/
def St (b : Nat) (s : Sy) (X : World) : Prop := ∃ ts : List Value, X.heap[b]? = some (.cells ts.toArray 58 (0, 0)) ∧ SysV X.heap.size X ts s
theorem St.below {b : Nat} (h : St b s X) (hb : Below X.heap.size X Y) : St b s Y := by
  obtain ⟨ts, h1, h2⟩ := h
  exact ⟨ts, block_below hb h1, (h2.below hb).mono hb.size⟩
end
section
variable {w : World} {vs ss : List Value} {p : Prg} {g : Geo} {md : UInt8} {s : Sy} {m : Msg} {x : StD} {o : PfD}
theorem turnBack_c {n kd : UInt8} {mk : Nat} {al : Bool} (hw : WldV w.heap.size w vs p g md) (h1 : vs.all Value.oneCell' = true) (hS : SysV w.heap.size w ss s) (hl : Lens s) (hm64 : mk < 2 ^ 64) (hT : GlobT w) :
    Calls Tryz.prog 3 #[.agg vs.toArray, .agg ss.toArray, u8 n, m.val, .agg x.enc.toArray, .agg o.enc.toArray, .agg (viewC kd mk al).toArray] w fun e w' => e = .returned (.bool true) ∧ Below w.heap.size w w' := by
  refine calls_of_M (S := sg 205) (sgOk _) (args := [.agg vs.toArray, .agg ss.toArray, u8 n, m.val, .agg x.enc.toArray, .agg o.enc.toArray, .agg (viewC kd mk al).toArray]) (.c .p (.c .p (.c .p (.c .p (.c .p (.c .p (.c .p (.c .p (.c .p (.c .p (.c .p (.c .p (.c .p (.c .p (.c .p (.c .p (.c .p (.c .p (.s .p .p))))))))))))))))))) Tryz.func3 rfl rfl (Nat.le_of_ble_eq_true rfl) rfl ?_
  obtain ⟨L, hL⟩ : ∃ L, L = w.heap.size := ⟨_, rfl⟩
  obtain ⟨va, hva⟩ : ∃ va, va = viewC kd mk al := ⟨_, rfl⟩
  have hva3 : va.length = 3 := by rw [hva]; rfl
  rw [← hva]
  -- the boxes
  refine ⟨Unit, fun _ => ⟨[(2, u8 n), (7, .pointer (some ⟨L, 0, none⟩)), (8, .pointer (some ⟨L + 1, 0, none⟩)), (10, .pointer (some ⟨L + 2, 0, none⟩)), (11, .pointer (some ⟨L + 3, 0, none⟩)), (12, .pointer (some ⟨L + 4, 0, none⟩)), (13, .pointer (some ⟨L + 5, 0, none⟩))], []⟩, fun _ X => Bk w vs p g md ss s m x o va L X, ?_, ?_⟩
  · obtain ⟨W1, hW1⟩ : ∃ W, W = World.alloc w (.cells (vs).toArray 44) := ⟨_, rfl⟩
    obtain ⟨W2, hW2⟩ : ∃ W, W = World.alloc W1 (.cells (ss).toArray 58) := ⟨_, rfl⟩
    obtain ⟨W3, hW3⟩ : ∃ W, W = World.alloc W2 (.cells (m.enc).toArray 60) := ⟨_, rfl⟩
    obtain ⟨W4, hW4⟩ : ∃ W, W = World.alloc W3 (.cells (x.enc).toArray 62) := ⟨_, rfl⟩
    obtain ⟨W5, hW5⟩ : ∃ W, W = World.alloc W4 (.cells (o.enc).toArray 66) := ⟨_, rfl⟩
    have s1 : W1.heap.size = L + 1 := by rw [hW1, World.size_alloc, hL]
    have s2 : W2.heap.size = L + 2 := by rw [hW2, World.size_alloc, s1]
    have s3 : W3.heap.size = L + 3 := by rw [hW3, World.size_alloc, s2]
    have s4 : W4.heap.size = L + 4 := by rw [hW4, World.size_alloc, s3]
    have s5 : W5.heap.size = L + 5 := by rw [hW5, World.size_alloc, s4]
    have q0 : some (Value.pointer (some ⟨w.heap.size, 0, none⟩)) = some (Value.pointer (some ⟨L, 0, none⟩)) := by rw [hL]
    have q1 : some (Value.pointer (some ⟨W1.heap.size, 0, none⟩)) = some (Value.pointer (some ⟨L + 1, 0, none⟩)) := by rw [s1]
    have q2 : some (Value.pointer (some ⟨W2.heap.size, 0, none⟩)) = some (Value.pointer (some ⟨L + 2, 0, none⟩)) := by rw [s2]
    have q3 : some (Value.pointer (some ⟨W3.heap.size, 0, none⟩)) = some (Value.pointer (some ⟨L + 3, 0, none⟩)) := by rw [s3]
    have q4 : some (Value.pointer (some ⟨W4.heap.size, 0, none⟩)) = some (Value.pointer (some ⟨L + 4, 0, none⟩)) := by rw [s4]
    have q5 : some (Value.pointer (some ⟨W5.heap.size, 0, none⟩)) = some (Value.pointer (some ⟨L + 5, 0, none⟩)) := by rw [s5]
    rw [hW1] at q1
    rw [hW2, hW1] at q2
    rw [hW3, hW2, hW1] at q3
    rw [hW4, hW3, hW2, hW1] at q4
    rw [hW5, hW4, hW3, hW2, hW1] at q5
    refine ⟨(), ⟨.cons rfl (.cons q0 (.cons q1 (.cons q2 (.cons q3 (.cons q4 (.cons q5 .nil)))))), rfl⟩, ?_⟩
    have hM : Bk w vs p g md ss s m x o va L (W5.alloc (.cells va.toArray 50)) := by
      have hb1 : Below w.heap.size w W1 := by rw [hW1]; exact (Below.refl _ _).alloc (Nat.le_refl _) _
      have hb2 : Below w.heap.size w W2 := by rw [hW2]; exact hb1.alloc hb1.size _
      have hb3 : Below w.heap.size w W3 := by rw [hW3]; exact hb2.alloc hb2.size _
      have hb4 : Below w.heap.size w W4 := by rw [hW4]; exact hb3.alloc hb3.size _
      have hb5 : Below w.heap.size w W5 := by rw [hW5]; exact hb4.alloc hb4.size _
      have hbl : Below w.heap.size w (W5.alloc (.cells va.toArray 50)) := hb5.alloc hb5.size _
      refine ⟨hold _ ?_, hw.below hbl, hT.below hbl, hbl, hold _ ?_, hold _ ?_, hold _ ?_, hold _ ?_, ?_⟩
      · rw [hW5]; refine hold _ ?_; rw [hW4]; refine hold _ ?_; rw [hW3]; refine hold _ ?_; rw [hW2]; refine hold _ ?_; rw [hW1, hL]; exact hnew w _
      · rw [hW5]; refine hold _ ?_; rw [hW4]; refine hold _ ?_; rw [hW3]; refine hold _ ?_; rw [hW2, ← s1]; exact hnew W1 _
      · rw [hW5]; refine hold _ ?_; rw [hW4]; refine hold _ ?_; rw [hW3, ← s2]; exact hnew W2 _
      · rw [hW5]; refine hold _ ?_; rw [hW4, ← s3]; exact hnew W3 _
      · rw [hW5, ← s4]; exact hnew W4 _
      · rw [← s5]; exact hnew W5 _
    rw [hW5, hW4, hW3, hW2, hW1] at hM
    exact hM
  rintro _ X hX
  -- pick
  refine ⟨PrmR × Bool, fun s => ⟨[(7, .pointer (some ⟨L, 0, none⟩)), (8, .pointer (some ⟨L + 1, 0, none⟩)), (10, .pointer (some ⟨L + 2, 0, none⟩)), (11, .pointer (some ⟨L + 3, 0, none⟩)), (12, .pointer (some ⟨L + 4, 0, none⟩)), (13, .pointer (some ⟨L + 5, 0, none⟩)), (15, .slice s.1.2.1 s.1.1.length s.1.2.2), (16, .bool s.2)], []⟩, fun t X => Bk w vs p g md ss s m x o va L X ∧ PickI (allL p g md) t X, ?_, ?_⟩
  · refine ⟨vs, hw.len, cells_block hX.c, hlt hX.c, ?_⟩
    refine Calls.mono (pick_c hX.b.size hX.v hX.T) ?_
    rintro e V ⟨hbV, ⟨h0, rfl⟩ | ⟨l, q, c, hl, rfl, hs⟩⟩
    · exact ⟨(([], none, 0), false), ⟨.cons rfl (.cons rfl (.cons rfl (.cons rfl (.cons rfl (.cons rfl (.cons rfl (.cons rfl (.nil)))))))), rfl⟩, hX.below hbV, .inr ⟨rfl, h0⟩⟩
    · exact ⟨((l, q, c), true), ⟨.cons rfl (.cons rfl (.cons rfl (.cons rfl (.cons rfl (.cons rfl (.cons rfl (.cons rfl (.nil)))))))), rfl⟩, hX.below hbV, .inl ⟨rfl, List.mem_of_getElem? hl, hs⟩⟩
  clear hX
  rintro ⟨⟨a, qa, ca⟩, oa⟩ X ⟨hX, hA⟩
  -- none, or too large
  refine ⟨Unit, fun _ => ⟨[(7, .pointer (some ⟨L, 0, none⟩)), (8, .pointer (some ⟨L + 1, 0, none⟩)), (10, .pointer (some ⟨L + 2, 0, none⟩)), (11, .pointer (some ⟨L + 3, 0, none⟩)), (12, .pointer (some ⟨L + 4, 0, none⟩)), (13, .pointer (some ⟨L + 5, 0, none⟩)), (15, .slice qa a.length ca)], []⟩, fun _ X => Bk w vs p g md ss s m x o va L X ∧ (a ∈ allL p g md ∧ SlR Go.Sei.intE X qa a) ∧ smallSy s, ?_, ?_⟩
  · rcases hA with ⟨rfl, ha, sa⟩ | ⟨rfl, _⟩
    · refine brF ?_
      have hS' := hS.below hX.b
      refine ⟨ss, hS.len, cells_block hX.s, hlt hX.s, ?_⟩
      refine Calls.mono (few_c (hS'.mono hX.b.size) hl) ?_
      rintro e V ⟨f, rfl, hf, hbV⟩
      have hV := hX.below hbV
      refine And.intro (fun h => ?_) (fun h => ?_)
      · refine Calls.mono (awake_c hV.T) ?_
        rintro e Z ⟨rfl, hbZ⟩
        exact ⟨rfl, (hV.below hbZ).b⟩
      · refine ⟨(), ⟨.cons rfl (.cons rfl (.cons rfl (.cons rfl (.cons rfl (.cons rfl (.cons rfl (.nil))))))), rfl⟩, hV, ⟨ha, sa.below hbV⟩, hf ?_⟩
        cases f with
        | true => rfl
        | false => cases h
    · refine brT ?_
      refine brT ?_
      refine Calls.mono (awake_c hX.T) ?_
      rintro e Z ⟨rfl, hbZ⟩
      exact ⟨rfl, (hX.below hbZ).b⟩
  clear hX hA
  rintro _ X ⟨hX, ⟨ha, sa⟩, hsm⟩
  have ht : turnsL p g = true := allL_some fun h => by rw [h] at ha; cases ha
  obtain ⟨N, hN, hN1, hN4, hNt, hok⟩ := turns_parts ht
  have G := grp (decide (md = 3)) hN1 hN4
  have hal := allL_grp (md := md) ht hN
  rw [hal] at ha
  obtain ⟨sma, hla⟩ := G.small a ha
  obtain ⟨hb, ⟨hpi, _⟩, _⟩ := G.back a ha
  have hi := G.comp a ha (backL a) hb
  rw [hpi] at hi
  have fit : ∀ l, l ∈ grpL N (decide (md = 3)) → (turnsL p g && suitsL g md l) = true := fun l hl => by rw [ht, grp_suits hN hl]; rfl
  have fb : (turnsL (turnP a p) g && suitsL g md (backL a)) = true := by rw [turns_turn hN1 hN4 hN ht ha, grp_suits hN hb]; rfl
  have eP : turnP (backL a) (turnP a p) = p := by rw [turnP_comp hN1 hN4 hNt hok ha hb, hpi]; exact turnP_id hN1 hN4 hi hNt hok
  have hlb : (backL a).length = N := by rw [backL_len, hla]
  -- back
  refine ⟨PrmR, fun t => ⟨[(7, .pointer (some ⟨L, 0, none⟩)), (8, .pointer (some ⟨L + 1, 0, none⟩)), (10, .pointer (some ⟨L + 2, 0, none⟩)), (11, .pointer (some ⟨L + 3, 0, none⟩)), (12, .pointer (some ⟨L + 4, 0, none⟩)), (13, .pointer (some ⟨L + 5, 0, none⟩)), (15, .slice qa a.length ca), (17, .slice t.2.1 t.1.length t.2.2), (18, i64 0)], []⟩, fun t Z => Bk w vs p g md ss s m x o va L Z ∧ SlR Go.Sei.intE Z qa a ∧ t.1 = backL a ∧ SlR Go.Sei.intE Z t.2.1 t.1, ?_, ?_⟩
  · refine Calls.mono (Back_c sa sma) ?_
    rintro e Z ⟨k, rfl, hk, hk1, hk2, hbZ⟩
    exact ⟨(backL a, some ⟨k, 0, none⟩, a.length), ⟨.cons rfl (.cons rfl (.cons rfl (.cons rfl (.cons rfl (.cons rfl (.cons rfl (.cons (by rw [backL_len]; rfl) (.cons rfl .nil)))))))), rfl⟩, hX.below hbZ, sa.below hbZ, rfl, SlR.of_cells hk2 hk⟩
  clear hX sa
  rintro ⟨b, qb, cb⟩ X ⟨hX, sa, hbk, sb⟩
  dsimp only at hbk sb ⊢
  rw [← hbk] at hb hpi fb eP hlb
  -- the world turned
  refine ⟨Nat, fun t => ⟨[(7, .pointer (some ⟨L, 0, none⟩)), (8, .pointer (some ⟨L + 1, 0, none⟩)), (10, .pointer (some ⟨L + 2, 0, none⟩)), (11, .pointer (some ⟨L + 3, 0, none⟩)), (12, .pointer (some ⟨L + 4, 0, none⟩)), (13, .pointer (some ⟨L + 5, 0, none⟩)), (15, .slice qa a.length ca), (17, .slice qb b.length cb), (18, i64 0), (19, .pointer (some ⟨t, 0, none⟩)), (20, i64 0)], []⟩, fun t Z => Bk w vs p g md ss s m x o va L Z ∧ Below X.heap.size X Z ∧ Wt md g t (turnP a p) Z, ?_, ?_⟩
  · refine ⟨vs, hw.len, cells_block hX.c, hlt hX.c, ?_⟩
    refine Calls.mono (World_c hX.b.size hX.v hX.T h1 sa (fit a ha)) ?_
    rintro e V ⟨v1, rfl, hv1, ho1, hbV⟩
    refine store_new (X := V) (v := .agg v1.toArray) (ttOk.get 44 _ rfl) hv1.len (by kernel_rfl) ho1 fun Y hbY fY sY => ?_
    exact ⟨V.heap.size, ⟨.cons rfl (.cons rfl (.cons rfl (.cons rfl (.cons rfl (.cons rfl (.cons rfl (.cons rfl (.cons rfl (.cons rfl (.cons rfl (.nil))))))))))), rfl⟩, (hX.below hbV).below hbY, hbV.trans (hbY.mono hbV.size), v1, V.heap.size, hbY.size, fY, hv1.below hbY, ho1⟩
  rintro b1 Z ⟨hX2, hbZ, w1⟩
  clear hX 
  have hX := hX2
  clear hX2
  replace sa := sa.below hbZ
  replace sb := sb.below hbZ
  clear hbZ X
  obtain ⟨X, rfl⟩ : ∃ Y, Y = Z := ⟨_, rfl⟩
  -- it fits
  refine ⟨Unit, fun t => ⟨[(7, .pointer (some ⟨L, 0, none⟩)), (8, .pointer (some ⟨L + 1, 0, none⟩)), (10, .pointer (some ⟨L + 2, 0, none⟩)), (11, .pointer (some ⟨L + 3, 0, none⟩)), (12, .pointer (some ⟨L + 4, 0, none⟩)), (13, .pointer (some ⟨L + 5, 0, none⟩)), (15, .slice qa a.length ca), (17, .slice qb b.length cb), (19, .pointer (some ⟨b1, 0, none⟩))], []⟩, fun t Z => Bk w vs p g md ss s m x o va L Z ∧ Below X.heap.size X Z, ?_, ?_⟩
  · refine brF ?_
    refine brF ?_
    obtain ⟨v1, B1, hB1, g1, hv1, ho1⟩ := w1
    refine ⟨v1, hv1.len, cells_block g1, hlt g1, ?_⟩
    refine Calls.mono (FitsT_c hB1 hv1 hX.T ho1 sb (by omega)) ?_
    rintro e V ⟨rfl, hbV⟩
    rw [fb]
    refine brF ?_
    exact ⟨(), ⟨.cons rfl (.cons rfl (.cons rfl (.cons rfl (.cons rfl (.cons rfl (.cons rfl (.cons rfl (.cons rfl (.nil))))))))), rfl⟩, hX.below hbV, hbV⟩
  rintro _ Z ⟨hX2, hbZ⟩
  clear hX 
  have hX := hX2
  clear hX2
  replace sa := sa.below hbZ
  replace sb := sb.below hbZ
  replace w1 := w1.below hbZ
  clear hbZ X
  obtain ⟨X, rfl⟩ : ∃ Y, Y = Z := ⟨_, rfl⟩
  -- the world turned back
  refine ⟨Nat, fun t => ⟨[(7, .pointer (some ⟨L, 0, none⟩)), (8, .pointer (some ⟨L + 1, 0, none⟩)), (10, .pointer (some ⟨L + 2, 0, none⟩)), (11, .pointer (some ⟨L + 3, 0, none⟩)), (12, .pointer (some ⟨L + 4, 0, none⟩)), (13, .pointer (some ⟨L + 5, 0, none⟩)), (15, .slice qa a.length ca), (17, .slice qb b.length cb), (19, .pointer (some ⟨b1, 0, none⟩)), (21, .pointer (some ⟨t, 0, none⟩))], []⟩, fun t Z => Bk w vs p g md ss s m x o va L Z ∧ Below X.heap.size X Z ∧ Wt md g t p Z, ?_, ?_⟩
  · obtain ⟨v1, B1, hB1, g1, hv1, ho1⟩ := w1
    refine ⟨v1, hv1.len, cells_block g1, hlt g1, ?_⟩
    refine Calls.mono (World_c hB1 hv1 hX.T ho1 sb fb) ?_
    rintro e V ⟨v2, rfl, hv2, ho2, hbV⟩
    rw [eP] at hv2
    refine store_new (X := V) (v := .agg v2.toArray) (ttOk.get 44 _ rfl) hv2.len (by kernel_rfl) ho2 fun Y hbY fY sY => ?_
    exact ⟨V.heap.size, ⟨.cons rfl (.cons rfl (.cons rfl (.cons rfl (.cons rfl (.cons rfl (.cons rfl (.cons rfl (.cons rfl (.cons rfl (.nil)))))))))), rfl⟩, (hX.below hbV).below hbY, hbV.trans (hbY.mono hbV.size), v2, V.heap.size, hbY.size, fY, hv2.below hbY, ho2⟩
  rintro b2 Z ⟨hX2, hbZ, w2⟩
  clear hX 
  have hX := hX2
  clear hX2
  replace sa := sa.below hbZ
  replace sb := sb.below hbZ
  replace w1 := w1.below hbZ
  clear hbZ X
  obtain ⟨X, rfl⟩ : ∃ Y, Y = Z := ⟨_, rfl⟩
  have em : turnM b.length (toN b b.length) (turnM a.length (toN a a.length) m) = m := by
    rw [hla, hlb, turnM_comp hN1 hN4 ha hb, hpi]; exact turnM_id hN1 hN4 hi m
  have ex : turnSt b.length (toN b b.length) (turnSt a.length (toN a a.length) x) = x := by
    rw [hla, hlb, turnSt_comp hN1 hN4 ha hb, hpi]; exact turnSt_id hN1 hN4 hi x
  have eo : turnPf b.length (toN b b.length) (turnPf a.length (toN a a.length) o) = o := by
    rw [hla, hlb, turnPf_comp hN1 hN4 ha hb, hpi]; exact turnPf_id hN1 hN4 hi o
  have ev : turnV b.length (decide (md = 3)) (toN b b.length) kd (turnV a.length (decide (md = 3)) (toN a a.length) kd mk) = mk := by
    rw [hla, hlb, turnV_comp hN1 hN4 ha hb rfl kd hm64, hpi]; exact turnV_id hN1 hN4 hi rfl kd hm64
  have hm64a : turnV a.length (decide (md = 3)) (toN a a.length) kd mk < 2 ^ 64 := turnV_lt (fun k => toN_rng (by omega) rfl k) hm64
  obtain ⟨mb, hmb⟩ : ∃ z, z = turnV a.length (decide (md = 3)) (toN a a.length) kd mk := ⟨_, rfl⟩
  obtain ⟨m1, hm1⟩ : ∃ z, z = turnM a.length (toN a a.length) m := ⟨_, rfl⟩
  obtain ⟨x1, hx1⟩ : ∃ z, z = turnSt a.length (toN a a.length) x := ⟨_, rfl⟩
  obtain ⟨o1, ho1⟩ : ∃ z, z = turnPf a.length (toN a a.length) o := ⟨_, rfl⟩
  rw [← hm1] at em
  rw [← hx1] at ex
  rw [← ho1] at eo
  rw [← hmb] at ev hm64a
  -- m1
  refine ⟨Nat, fun t => ⟨[(7, .pointer (some ⟨L, 0, none⟩)), (8, .pointer (some ⟨L + 1, 0, none⟩)), (10, .pointer (some ⟨L + 2, 0, none⟩)), (11, .pointer (some ⟨L + 3, 0, none⟩)), (12, .pointer (some ⟨L + 4, 0, none⟩)), (13, .pointer (some ⟨L + 5, 0, none⟩)), (15, .slice qa a.length ca), (17, .slice qb b.length cb), (19, .pointer (some ⟨b1, 0, none⟩)), (21, .pointer (some ⟨b2, 0, none⟩)), (23, .pointer (some ⟨t, 0, none⟩))], []⟩, fun t Z => Bk w vs p g md ss s m x o va L Z ∧ Below X.heap.size X Z ∧ Z.heap[t]? = some (.cells (m1.enc).toArray 60 (0, 0)), ?_, ?_⟩
  · refine ⟨vs, hw.len, cells_block hX.c, hlt hX.c, ?_⟩
    refine ⟨m.enc, rfl, cells_block hX.m, hlt hX.m, ?_⟩
    have hcall := Msg_c (m := m) (cap := ca) hX.b.size hX.v hX.T h1 sa (fit a ha)
    rw [← hm1] at hcall
    refine Calls.mono hcall ?_
    rintro e V ⟨rfl, hbV⟩
    refine store_new (X := V) (v := .agg (m1.enc).toArray) (ttOk.get 60 _ rfl) rfl rfl rfl fun Y hbY fY sY => ?_
    exact ⟨V.heap.size, ⟨.cons rfl (.cons rfl (.cons rfl (.cons rfl (.cons rfl (.cons rfl (.cons rfl (.cons rfl (.cons rfl (.cons rfl (.cons rfl (.nil))))))))))), rfl⟩, (hX.below hbV).below hbY, hbV.trans (hbY.mono hbV.size), fY⟩
  rintro bm1 Z ⟨hX2, hbZ, fm1⟩
  clear hX 
  have hX := hX2
  clear hX2
  replace sa := sa.below hbZ
  replace sb := sb.below hbZ
  replace w1 := w1.below hbZ
  replace w2 := w2.below hbZ
  clear hbZ X
  obtain ⟨X, rfl⟩ : ∃ Y, Y = Z := ⟨_, rfl⟩
  -- m2
  refine ⟨Nat, fun t => ⟨[(7, .pointer (some ⟨L, 0, none⟩)), (8, .pointer (some ⟨L + 1, 0, none⟩)), (10, .pointer (some ⟨L + 2, 0, none⟩)), (11, .pointer (some ⟨L + 3, 0, none⟩)), (12, .pointer (some ⟨L + 4, 0, none⟩)), (13, .pointer (some ⟨L + 5, 0, none⟩)), (15, .slice qa a.length ca), (17, .slice qb b.length cb), (19, .pointer (some ⟨b1, 0, none⟩)), (21, .pointer (some ⟨b2, 0, none⟩)), (23, .pointer (some ⟨bm1, 0, none⟩)), (25, .pointer (some ⟨t, 0, none⟩))], []⟩, fun t Z => Bk w vs p g md ss s m x o va L Z ∧ Below X.heap.size X Z ∧ Z.heap[t]? = some (.cells (m.enc).toArray 60 (0, 0)), ?_, ?_⟩
  · obtain ⟨u1, B1, hB1, g1, hv1, hu1⟩ := w1
    refine ⟨u1, hv1.len, cells_block g1, hlt g1, ?_⟩
    refine ⟨m1.enc, rfl, cells_block fm1, hlt fm1, ?_⟩
    have hcall := Msg_c (m := m1) (cap := cb) hB1 hv1 hX.T hu1 sb fb
    rw [em] at hcall
    refine Calls.mono hcall ?_
    rintro e V ⟨rfl, hbV⟩
    refine store_new (X := V) (v := .agg (m.enc).toArray) (ttOk.get 60 _ rfl) rfl rfl rfl fun Y hbY fY sY => ?_
    exact ⟨V.heap.size, ⟨.cons rfl (.cons rfl (.cons rfl (.cons rfl (.cons rfl (.cons rfl (.cons rfl (.cons rfl (.cons rfl (.cons rfl (.cons rfl (.cons rfl (.nil)))))))))))), rfl⟩, (hX.below hbV).below hbY, hbV.trans (hbY.mono hbV.size), fY⟩
  rintro bm2 Z ⟨hX2, hbZ, fm2⟩
  clear hX 
  have hX := hX2
  clear hX2
  replace sa := sa.below hbZ
  replace sb := sb.below hbZ
  replace w1 := w1.below hbZ
  replace w2 := w2.below hbZ
  replace fm1 := block_below hbZ fm1
  clear hbZ X
  obtain ⟨X, rfl⟩ : ∃ Y, Y = Z := ⟨_, rfl⟩
  clear fm1
  -- x1
  refine ⟨Nat, fun t => ⟨[(7, .pointer (some ⟨L, 0, none⟩)), (8, .pointer (some ⟨L + 1, 0, none⟩)), (10, .pointer (some ⟨L + 2, 0, none⟩)), (11, .pointer (some ⟨L + 3, 0, none⟩)), (12, .pointer (some ⟨L + 4, 0, none⟩)), (13, .pointer (some ⟨L + 5, 0, none⟩)), (15, .slice qa a.length ca), (17, .slice qb b.length cb), (19, .pointer (some ⟨b1, 0, none⟩)), (21, .pointer (some ⟨b2, 0, none⟩)), (25, .pointer (some ⟨bm2, 0, none⟩)), (27, .pointer (some ⟨t, 0, none⟩))], []⟩, fun t Z => Bk w vs p g md ss s m x o va L Z ∧ Below X.heap.size X Z ∧ Z.heap[t]? = some (.cells (x1.enc).toArray 62 (0, 0)), ?_, ?_⟩
  · refine ⟨vs, hw.len, cells_block hX.c, hlt hX.c, ?_⟩
    refine ⟨x.enc, rfl, cells_block hX.x, hlt hX.x, ?_⟩
    have hcall := Step_c (x := x) (cap := ca) hX.b.size hX.v hX.T h1 sa (fit a ha)
    rw [← hx1] at hcall
    refine Calls.mono hcall ?_
    rintro e V ⟨rfl, hbV⟩
    refine store_new (X := V) (v := .agg (x1.enc).toArray) (ttOk.get 62 _ rfl) rfl rfl rfl fun Y hbY fY sY => ?_
    exact ⟨V.heap.size, ⟨.cons rfl (.cons rfl (.cons rfl (.cons rfl (.cons rfl (.cons rfl (.cons rfl (.cons rfl (.cons rfl (.cons rfl (.cons rfl (.cons rfl (.nil)))))))))))), rfl⟩, (hX.below hbV).below hbY, hbV.trans (hbY.mono hbV.size), fY⟩
  rintro bx1 Z ⟨hX2, hbZ, fx1⟩
  clear hX 
  have hX := hX2
  clear hX2
  replace sa := sa.below hbZ
  replace sb := sb.below hbZ
  replace w1 := w1.below hbZ
  replace w2 := w2.below hbZ
  replace fm2 := block_below hbZ fm2
  clear hbZ X
  obtain ⟨X, rfl⟩ : ∃ Y, Y = Z := ⟨_, rfl⟩
  -- x2
  refine ⟨Nat, fun t => ⟨[(7, .pointer (some ⟨L, 0, none⟩)), (8, .pointer (some ⟨L + 1, 0, none⟩)), (10, .pointer (some ⟨L + 2, 0, none⟩)), (11, .pointer (some ⟨L + 3, 0, none⟩)), (12, .pointer (some ⟨L + 4, 0, none⟩)), (13, .pointer (some ⟨L + 5, 0, none⟩)), (15, .slice qa a.length ca), (17, .slice qb b.length cb), (19, .pointer (some ⟨b1, 0, none⟩)), (21, .pointer (some ⟨b2, 0, none⟩)), (25, .pointer (some ⟨bm2, 0, none⟩)), (27, .pointer (some ⟨bx1, 0, none⟩)), (29, .pointer (some ⟨t, 0, none⟩))], []⟩, fun t Z => Bk w vs p g md ss s m x o va L Z ∧ Below X.heap.size X Z ∧ Z.heap[t]? = some (.cells (x.enc).toArray 62 (0, 0)), ?_, ?_⟩
  · obtain ⟨u1, B1, hB1, g1, hv1, hu1⟩ := w1
    refine ⟨u1, hv1.len, cells_block g1, hlt g1, ?_⟩
    refine ⟨x1.enc, rfl, cells_block fx1, hlt fx1, ?_⟩
    have hcall := Step_c (x := x1) (cap := cb) hB1 hv1 hX.T hu1 sb fb
    rw [ex] at hcall
    refine Calls.mono hcall ?_
    rintro e V ⟨rfl, hbV⟩
    refine store_new (X := V) (v := .agg (x.enc).toArray) (ttOk.get 62 _ rfl) rfl rfl rfl fun Y hbY fY sY => ?_
    exact ⟨V.heap.size, ⟨.cons rfl (.cons rfl (.cons rfl (.cons rfl (.cons rfl (.cons rfl (.cons rfl (.cons rfl (.cons rfl (.cons rfl (.cons rfl (.cons rfl (.cons rfl (.nil))))))))))))), rfl⟩, (hX.below hbV).below hbY, hbV.trans (hbY.mono hbV.size), fY⟩
  rintro bx2 Z ⟨hX2, hbZ, fx2⟩
  clear hX 
  have hX := hX2
  clear hX2
  replace sa := sa.below hbZ
  replace sb := sb.below hbZ
  replace w1 := w1.below hbZ
  replace w2 := w2.below hbZ
  replace fm2 := block_below hbZ fm2
  replace fx1 := block_below hbZ fx1
  clear hbZ X
  obtain ⟨X, rfl⟩ : ∃ Y, Y = Z := ⟨_, rfl⟩
  clear fx1
  -- o1
  refine ⟨Nat, fun t => ⟨[(7, .pointer (some ⟨L, 0, none⟩)), (8, .pointer (some ⟨L + 1, 0, none⟩)), (10, .pointer (some ⟨L + 2, 0, none⟩)), (11, .pointer (some ⟨L + 3, 0, none⟩)), (12, .pointer (some ⟨L + 4, 0, none⟩)), (13, .pointer (some ⟨L + 5, 0, none⟩)), (15, .slice qa a.length ca), (17, .slice qb b.length cb), (19, .pointer (some ⟨b1, 0, none⟩)), (21, .pointer (some ⟨b2, 0, none⟩)), (25, .pointer (some ⟨bm2, 0, none⟩)), (29, .pointer (some ⟨bx2, 0, none⟩)), (31, .pointer (some ⟨t, 0, none⟩))], []⟩, fun t Z => Bk w vs p g md ss s m x o va L Z ∧ Below X.heap.size X Z ∧ Z.heap[t]? = some (.cells (o1.enc).toArray 66 (0, 0)), ?_, ?_⟩
  · refine ⟨vs, hw.len, cells_block hX.c, hlt hX.c, ?_⟩
    refine ⟨o.enc, rfl, cells_block hX.o, hlt hX.o, ?_⟩
    have hcall := Perf_c (x := o) (cap := ca) hX.b.size hX.v hX.T h1 sa (fit a ha)
    rw [← ho1] at hcall
    refine Calls.mono hcall ?_
    rintro e V ⟨rfl, hbV⟩
    refine store_new (X := V) (v := .agg (o1.enc).toArray) (ttOk.get 66 _ rfl) rfl rfl rfl fun Y hbY fY sY => ?_
    exact ⟨V.heap.size, ⟨.cons rfl (.cons rfl (.cons rfl (.cons rfl (.cons rfl (.cons rfl (.cons rfl (.cons rfl (.cons rfl (.cons rfl (.cons rfl (.cons rfl (.cons rfl (.nil))))))))))))), rfl⟩, (hX.below hbV).below hbY, hbV.trans (hbY.mono hbV.size), fY⟩
  rintro bo1 Z ⟨hX2, hbZ, fo1⟩
  clear hX 
  have hX := hX2
  clear hX2
  replace sa := sa.below hbZ
  replace sb := sb.below hbZ
  replace w1 := w1.below hbZ
  replace w2 := w2.below hbZ
  replace fm2 := block_below hbZ fm2
  replace fx2 := block_below hbZ fx2
  clear hbZ X
  obtain ⟨X, rfl⟩ : ∃ Y, Y = Z := ⟨_, rfl⟩
  -- o2
  refine ⟨Nat, fun t => ⟨[(7, .pointer (some ⟨L, 0, none⟩)), (8, .pointer (some ⟨L + 1, 0, none⟩)), (10, .pointer (some ⟨L + 2, 0, none⟩)), (11, .pointer (some ⟨L + 3, 0, none⟩)), (12, .pointer (some ⟨L + 4, 0, none⟩)), (13, .pointer (some ⟨L + 5, 0, none⟩)), (15, .slice qa a.length ca), (17, .slice qb b.length cb), (19, .pointer (some ⟨b1, 0, none⟩)), (21, .pointer (some ⟨b2, 0, none⟩)), (25, .pointer (some ⟨bm2, 0, none⟩)), (29, .pointer (some ⟨bx2, 0, none⟩)), (31, .pointer (some ⟨bo1, 0, none⟩)), (33, .pointer (some ⟨t, 0, none⟩))], []⟩, fun t Z => Bk w vs p g md ss s m x o va L Z ∧ Below X.heap.size X Z ∧ Z.heap[t]? = some (.cells (o.enc).toArray 66 (0, 0)), ?_, ?_⟩
  · obtain ⟨u1, B1, hB1, g1, hv1, hu1⟩ := w1
    refine ⟨u1, hv1.len, cells_block g1, hlt g1, ?_⟩
    refine ⟨o1.enc, rfl, cells_block fo1, hlt fo1, ?_⟩
    have hcall := Perf_c (x := o1) (cap := cb) hB1 hv1 hX.T hu1 sb fb
    rw [eo] at hcall
    refine Calls.mono hcall ?_
    rintro e V ⟨rfl, hbV⟩
    refine store_new (X := V) (v := .agg (o.enc).toArray) (ttOk.get 66 _ rfl) rfl rfl rfl fun Y hbY fY sY => ?_
    exact ⟨V.heap.size, ⟨.cons rfl (.cons rfl (.cons rfl (.cons rfl (.cons rfl (.cons rfl (.cons rfl (.cons rfl (.cons rfl (.cons rfl (.cons rfl (.cons rfl (.cons rfl (.cons rfl (.nil)))))))))))))), rfl⟩, (hX.below hbV).below hbY, hbV.trans (hbY.mono hbV.size), fY⟩
  rintro bo2 Z ⟨hX2, hbZ, fo2⟩
  clear hX 
  have hX := hX2
  clear hX2
  replace sa := sa.below hbZ
  replace sb := sb.below hbZ
  replace w1 := w1.below hbZ
  replace w2 := w2.below hbZ
  replace fm2 := block_below hbZ fm2
  replace fx2 := block_below hbZ fx2
  replace fo1 := block_below hbZ fo1
  clear hbZ X
  obtain ⟨X, rfl⟩ : ∃ Y, Y = Z := ⟨_, rfl⟩
  clear fo1
  -- v1
  refine ⟨Nat, fun t => ⟨[(7, .pointer (some ⟨L, 0, none⟩)), (8, .pointer (some ⟨L + 1, 0, none⟩)), (10, .pointer (some ⟨L + 2, 0, none⟩)), (11, .pointer (some ⟨L + 3, 0, none⟩)), (12, .pointer (some ⟨L + 4, 0, none⟩)), (13, .pointer (some ⟨L + 5, 0, none⟩)), (15, .slice qa a.length ca), (17, .slice qb b.length cb), (19, .pointer (some ⟨b1, 0, none⟩)), (21, .pointer (some ⟨b2, 0, none⟩)), (25, .pointer (some ⟨bm2, 0, none⟩)), (29, .pointer (some ⟨bx2, 0, none⟩)), (33, .pointer (some ⟨bo2, 0, none⟩)), (35, .pointer (some ⟨t, 0, none⟩))], []⟩, fun t Z => Bk w vs p g md ss s m x o va L Z ∧ Below X.heap.size X Z ∧ Z.heap[t]? = some (.cells (viewC kd mb al).toArray 50 (0, 0)), ?_, ?_⟩
  · refine ⟨vs, hw.len, cells_block hX.c, hlt hX.c, ?_⟩
    refine ⟨va, hva3, cells_block hX.e, hlt hX.e, ?_⟩
    have hcall := ViewG_c (kd := kd) (s := mk) (all := al) (cap := ca) hX.b.size hX.v hX.T h1 sa hm64 (fit a ha)
    rw [← hva, ← hmb] at hcall
    refine Calls.mono hcall ?_
    rintro e V ⟨rfl, hbV⟩
    refine store_new (X := V) (v := .agg (viewC kd mb al).toArray) (ttOk.get 50 _ rfl) rfl rfl rfl fun Y hbY fY sY => ?_
    exact ⟨V.heap.size, ⟨.cons rfl (.cons rfl (.cons rfl (.cons rfl (.cons rfl (.cons rfl (.cons rfl (.cons rfl (.cons rfl (.cons rfl (.cons rfl (.cons rfl (.cons rfl (.cons rfl (.nil)))))))))))))), rfl⟩, (hX.below hbV).below hbY, hbV.trans (hbY.mono hbV.size), fY⟩
  rintro bv1 Z ⟨hX2, hbZ, fv1⟩
  clear hX 
  have hX := hX2
  clear hX2
  replace sa := sa.below hbZ
  replace sb := sb.below hbZ
  replace w1 := w1.below hbZ
  replace w2 := w2.below hbZ
  replace fm2 := block_below hbZ fm2
  replace fx2 := block_below hbZ fx2
  replace fo2 := block_below hbZ fo2
  clear hbZ X
  obtain ⟨X, rfl⟩ : ∃ Y, Y = Z := ⟨_, rfl⟩
  -- v2
  refine ⟨Nat, fun t => ⟨[(7, .pointer (some ⟨L, 0, none⟩)), (8, .pointer (some ⟨L + 1, 0, none⟩)), (10, .pointer (some ⟨L + 2, 0, none⟩)), (11, .pointer (some ⟨L + 3, 0, none⟩)), (12, .pointer (some ⟨L + 4, 0, none⟩)), (13, .pointer (some ⟨L + 5, 0, none⟩)), (15, .slice qa a.length ca), (17, .slice qb b.length cb), (19, .pointer (some ⟨b1, 0, none⟩)), (21, .pointer (some ⟨b2, 0, none⟩)), (25, .pointer (some ⟨bm2, 0, none⟩)), (29, .pointer (some ⟨bx2, 0, none⟩)), (33, .pointer (some ⟨bo2, 0, none⟩)), (35, .pointer (some ⟨bv1, 0, none⟩)), (37, .pointer (some ⟨t, 0, none⟩))], []⟩, fun t Z => Bk w vs p g md ss s m x o va L Z ∧ Below X.heap.size X Z ∧ Z.heap[t]? = some (.cells (va).toArray 50 (0, 0)), ?_, ?_⟩
  · obtain ⟨u1, B1, hB1, g1, hv1, hu1⟩ := w1
    refine ⟨u1, hv1.len, cells_block g1, hlt g1, ?_⟩
    refine ⟨viewC kd mb al, rfl, cells_block fv1, hlt fv1, ?_⟩
    have hcall := ViewG_c (kd := kd) (s := mb) (all := al) (cap := cb) hB1 hv1 hX.T hu1 sb hm64a fb
    rw [ev, ← hva] at hcall
    refine Calls.mono hcall ?_
    rintro e V ⟨rfl, hbV⟩
    refine store_new (X := V) (v := .agg (va).toArray) (ttOk.get 50 _ rfl) hva3 rfl (by rw [hva]; rfl) fun Y hbY fY sY => ?_
    exact ⟨V.heap.size, ⟨.cons rfl (.cons rfl (.cons rfl (.cons rfl (.cons rfl (.cons rfl (.cons rfl (.cons rfl (.cons rfl (.cons rfl (.cons rfl (.cons rfl (.cons rfl (.cons rfl (.cons rfl (.nil))))))))))))))), rfl⟩, (hX.below hbV).below hbY, hbV.trans (hbY.mono hbV.size), fY⟩
  rintro bv2 Z ⟨hX2, hbZ, fv2⟩
  clear hX 
  have hX := hX2
  clear hX2
  replace sa := sa.below hbZ
  replace sb := sb.below hbZ
  replace w1 := w1.below hbZ
  replace w2 := w2.below hbZ
  replace fm2 := block_below hbZ fm2
  replace fx2 := block_below hbZ fx2
  replace fo2 := block_below hbZ fo2
  replace fv1 := block_below hbZ fv1
  clear hbZ X
  obtain ⟨X, rfl⟩ : ∃ Y, Y = Z := ⟨_, rfl⟩
  clear fv1
  -- the condition
  refine ⟨Unit, fun _ => ⟨[(7, .pointer (some ⟨L, 0, none⟩)), (8, .pointer (some ⟨L + 1, 0, none⟩)), (15, .slice qa a.length ca), (17, .slice qb b.length cb), (19, .pointer (some ⟨b1, 0, none⟩))], []⟩, fun _ Z => Bk w vs p g md ss s m x o va L Z ∧ Below X.heap.size X Z, ?_, ?_⟩
  · obtain ⟨v2, B2, hB2, g2, hv2, ho2⟩ := w2
    obtain ⟨pc2, r2, e2, hp2, k2, l2⟩ := hv2
    obtain ⟨pc3, r3, e3, hp3, k3, l3⟩ := hX.v
    have c2 := cells_block g2
    have c3 := cells_block hX.c
    rw [e2] at c2
    rw [e3] at c3
    refine ⟨pc2, hp2.size, (cells_app.1 c2).1, hlt g2, ?_⟩
    refine ⟨pc3, hp3.size, (cells_app.1 c3).1, hlt hX.c, ?_⟩
    refine Calls.mono (progsT_c (hp2.mono hB2) (hp3.mono hX.b.size)) ?_
    rintro e U ⟨rfl, hbU⟩
    refine brF ?_
    have hU := hX.below hbU
    have fm2' := block_below hbU fm2
    have fx2' := block_below hbU fx2
    have fo2' := block_below hbU fo2
    have fv2' := block_below hbU fv2
    refine ⟨_, rfl, cells_block fm2', hlt fm2', ?_⟩
    refine ⟨_, rfl, cells_block hU.m, hlt hU.m, ?_⟩
    refine ⟨_, fun w => neq_msg _ _ m m w, ?_⟩
    rw [show decide (m = m) = true from decide_eq_true rfl]
    refine brF ?_
    refine ⟨_, rfl, cells_block fx2', hlt fx2', ?_⟩
    refine ⟨_, rfl, cells_block hU.x, hlt hU.x, ?_⟩
    refine ⟨_, fun w => neq_step _ _ x w, ?_⟩
    refine brF ?_
    refine ⟨_, rfl, cells_block fo2', hlt fo2', ?_⟩
    refine ⟨_, rfl, cells_block hU.o, hlt hU.o, ?_⟩
    refine ⟨_, fun w => neq_perf _ _ o w, ?_⟩
    refine brF ?_
    refine ⟨_, hva3, cells_block fv2', hlt fv2', ?_⟩
    refine ⟨_, hva3, cells_block hU.e, hlt hU.e, ?_⟩
    refine ⟨.bool false, fun w => by rw [hva]; exact neq_view _ _ kd _ al w, ?_⟩
    refine brF ?_
    exact ⟨(), ⟨.cons rfl (.cons rfl (.cons rfl (.cons rfl (.cons rfl (.nil))))), rfl⟩, hU, hbU⟩
  clear w2 fm2 fx2 fo2 fv2
  rintro _ Z ⟨hX2, hbZ⟩
  clear hX 
  have hX := hX2
  clear hX2
  replace sa := sa.below hbZ
  replace sb := sb.below hbZ
  replace w1 := w1.below hbZ
  clear hbZ X
  obtain ⟨X, rfl⟩ : ∃ Y, Y = Z := ⟨_, rfl⟩
  obtain ⟨y1, hy1⟩ : ∃ y, y = if fitsB g s = true then turnS a.length (decide (md = 3)) (toN a a.length) a s else eSy := ⟨_, rfl⟩
  obtain ⟨y2, hy2⟩ : ∃ y, y = if fitsB g y1 = true then turnS b.length (decide (md = 3)) (toN b b.length) b y1 else eSy := ⟨_, rfl⟩
  -- s1
  refine ⟨Nat, fun t => ⟨[(7, .pointer (some ⟨L, 0, none⟩)), (8, .pointer (some ⟨L + 1, 0, none⟩)), (15, .slice qa a.length ca), (17, .slice qb b.length cb), (19, .pointer (some ⟨b1, 0, none⟩)), (39, .pointer (some ⟨t, 0, none⟩)), (40, i64 (if fitsB g s = true then 0 else 2))], []⟩, fun t Z => Bk w vs p g md ss s m x o va L Z ∧ Below X.heap.size X Z ∧ St t y1 Z, ?_, ?_⟩
  · refine ⟨vs, hw.len, cells_block hX.c, hlt hX.c, ?_⟩
    refine ⟨ss, hS.len, cells_block hX.s, hlt hX.s, ?_⟩
    refine Calls.mono (Sys_c (hX.v.mono hX.b.size) ((hS.below hX.b).mono hX.b.size) hX.T h1 sa (fit a ha)) ?_
    rintro e V ⟨hbV, ⟨hno, rfl⟩ | ⟨hno, ts2, rfl, hts⟩⟩
    · refine store_new (X := V) (v := .agg eSysC.toArray) (ttOk.get 58 _ rfl) rfl (by kernel_rfl) rfl fun Y hbY fY sY => ?_
      refine ⟨V.heap.size, ⟨.cons rfl (.cons rfl (.cons rfl (.cons rfl (.cons rfl (.cons rfl (.cons (by rw [hno]; rfl) .nil)))))), rfl⟩, (hX.below hbV).below hbY, hbV.trans (hbY.mono hbV.size), eSysC, fY, ?_⟩
      rw [hy1, if_neg (by rw [hno]; decide)]
      exact eSys_v _ _
    · refine store_new (X := V) (v := .agg ts2.toArray) (ttOk.get 58 _ rfl) hts.len (by kernel_rfl) hts.one fun Y hbY fY sY => ?_
      refine ⟨V.heap.size, ⟨.cons rfl (.cons rfl (.cons rfl (.cons rfl (.cons rfl (.cons rfl (.cons (by rw [hno]; rfl) .nil)))))), rfl⟩, (hX.below hbV).below hbY, hbV.trans (hbY.mono hbV.size), ts2, fY, ?_⟩
      rw [hy1, if_pos hno]
      exact (hts.below hbY).mono hbY.size
  rintro bs1 Z ⟨hX2, hbZ, st1⟩
  clear hX 
  have hX := hX2
  clear hX2
  replace sa := sa.below hbZ
  replace sb := sb.below hbZ
  replace w1 := w1.below hbZ
  clear hbZ X
  obtain ⟨X, rfl⟩ : ∃ Y, Y = Z := ⟨_, rfl⟩
  -- s2
  refine ⟨Nat, fun t => ⟨[(7, .pointer (some ⟨L, 0, none⟩)), (8, .pointer (some ⟨L + 1, 0, none⟩)), (15, .slice qa a.length ca), (17, .slice qb b.length cb), (19, .pointer (some ⟨b1, 0, none⟩)), (39, .pointer (some ⟨bs1, 0, none⟩)), (40, i64 (if fitsB g s = true then 0 else 2)), (41, .pointer (some ⟨t, 0, none⟩)), (42, i64 (if fitsB g y1 = true then 0 else 2))], []⟩, fun t Z => Bk w vs p g md ss s m x o va L Z ∧ Below X.heap.size X Z ∧ St t y2 Z, ?_, ?_⟩
  · obtain ⟨u1, B1, hB1, g1, hv1, hu1⟩ := w1
    refine ⟨u1, hv1.len, cells_block g1, hlt g1, ?_⟩
    obtain ⟨ts, f1, hs1⟩ := st1
    refine ⟨ts, hs1.len, cells_block f1, hlt f1, ?_⟩
    refine Calls.mono (Sys_c (hv1.mono hB1) hs1 hX.T hu1 sb fb) ?_
    rintro e V ⟨hbV, ⟨hno, rfl⟩ | ⟨hno, ts2, rfl, hts⟩⟩
    · refine store_new (X := V) (v := .agg eSysC.toArray) (ttOk.get 58 _ rfl) rfl (by kernel_rfl) rfl fun Y hbY fY sY => ?_
      refine ⟨V.heap.size, ⟨.cons rfl (.cons rfl (.cons rfl (.cons rfl (.cons rfl (.cons rfl (.cons rfl (.cons rfl (.cons (by rw [hno]; rfl) .nil)))))))), rfl⟩, (hX.below hbV).below hbY, hbV.trans (hbY.mono hbV.size), eSysC, fY, ?_⟩
      rw [hy2, if_neg (by rw [hno]; decide)]
      exact eSys_v _ _
    · refine store_new (X := V) (v := .agg ts2.toArray) (ttOk.get 58 _ rfl) hts.len (by kernel_rfl) hts.one fun Y hbY fY sY => ?_
      refine ⟨V.heap.size, ⟨.cons rfl (.cons rfl (.cons rfl (.cons rfl (.cons rfl (.cons rfl (.cons rfl (.cons rfl (.cons (by rw [hno]; rfl) .nil)))))))), rfl⟩, (hX.below hbV).below hbY, hbV.trans (hbY.mono hbV.size), ts2, fY, ?_⟩
      rw [hy2, if_pos hno]
      exact (hts.below hbY).mono hbY.size
  rintro bs2 Z ⟨hX2, hbZ, st2⟩
  clear hX 
  have hX := hX2
  clear hX2
  replace sa := sa.below hbZ
  replace sb := sb.below hbZ
  replace w1 := w1.below hbZ
  replace st1 := st1.below hbZ
  clear hbZ X
  obtain ⟨X, rfl⟩ : ∃ Y, Y = Z := ⟨_, rfl⟩
  -- the end
  have hgeo := wld_geo hX.v
  refine ⟨vs, hw.len, cells_block hX.c, hlt hX.c, ?_⟩
  refine ⟨ss, hS.len, cells_block hX.s, hlt hX.s, ?_⟩
  refine Calls.mono (FitsG_c hgeo ((hS.below hX.b).mono hX.b.size) hX.T.M) ?_
  rintro e V ⟨rfl, hbV⟩
  have hV := hX.below hbV
  cases hfs : fitsB g s with
  | false =>
    refine brT ?_
    refine brT ?_
    refine Calls.mono (awake_c hV.T) ?_
    rintro e Z ⟨rfl, hbZ⟩
    exact ⟨rfl, (hV.below hbZ).b⟩
  | true =>
    have e1 : y1 = turnS N (decide (md = 3)) (toN a N) a s := by rw [hy1, if_pos hfs, hla]
    have hf1 : fitsB g y1 = true := by rw [e1]; exact fits_turn hN1 hN4 hN ha hfs
    have e2 : y2 = s := by
      rw [hy2, if_pos hf1, e1, hlb, turnS_comp hN1 hN4 ha hb rfl s, hpi]
      exact turnS_id hN1 hN4 hi rfl hN hfs
    rw [e2] at st2
    rw [hf1]
    refine brF ?_
    refine brT ?_
    refine brT ?_
    obtain ⟨t2, g2, k2⟩ := st2.below hbV
    refine ⟨t2, k2.len, cells_block g2, hlt g2, ?_⟩
    refine ⟨ss, hS.len, cells_block hV.s, hlt hV.s, ?_⟩
    have hq := fits_t hfs
    refine Calls.mono (SameSys_c k2 ((hS.below hV.b).mono hV.b.size) hq.cores hq.caches hq.net hq.buf) ?_
    rintro e U ⟨rfl, hbU⟩
    rw [show decide (s = s) = true from decide_eq_true rfl]
    have hU := hV.below hbU
    refine brT ?_
    refine Calls.mono (awake_c hU.T) ?_
    rintro e Z ⟨rfl, hbZ⟩
    exact ⟨rfl, (hU.below hbZ).b⟩
end
end Go.Proofs.YthmddpoodknclaaGreatDoor
namespace Go.Proofs.YthmddpoodknclaaGreatDoor
open Go.Vc Go.RowKit Go.Sei
open Go.ChangeShapes Go.WideShapes Go.ChangeAt
set_option linter.unusedVariables false

section
variable {H : Type} {enc : TypeId × Value → H} {P : Program} {w : World} {base : Nat} {spare : Nat → Bool} {held : Bool} {fuel : Nat} {t : TypeId} {cs : List Value} {x : DataW H × List MemPlace}
theorem open_u8 (ht : P.underlying t = some (.int .u8)) (h : DataW.trod enc P w base spare held fuel t cs = some x) : ∃ b : UInt8, cs = [u8 b] ∧ x.1 = .lit (.int .u8 b.toNat) := by
  obtain ⟨n, rfl, rfl, hw⟩ := DataW.trod_int ht h
  have hb := bounds_u8 hw
  have e : ((UInt8.ofNat n.toNat).toNat : Int) = n := by
    rw [UInt8.toNat_ofNat']; omega
  exact ⟨UInt8.ofNat n.toNat, by rw [u8, e], by rw [e]⟩

theorem open_u8s {n : Nat} {e : TypeId} (ht : P.underlying t = some (.array n e)) (he : P.underlying e = some (.int .u8)) (hc : P.cellsOf e = 1) (hn : P.cellsOf t = n)
    (h : DataW.trod enc P w base spare held fuel t cs = some x) : ∃ bs : List UInt8, bs.length = n ∧ cs = bs.map u8 ∧ x.1 = .agg (bs.map fun b => .lit (.int .u8 b.toNat)) := by
  obtain ⟨xs, m, rfl, rfl, hl, hx, hel⟩ := DataW.trod_array ht h
  rw [hn] at hl
  have each : ∀ i (h : i < n), ∃ b : UInt8, cs[i]? = some (u8 b) ∧ xs[i]?.map (·.1) = some (.lit (.int .u8 b.toNat)) := fun i hi => by
    have h1 := hel i hi
    rw [hc, List.getElem?_eq_getElem (by omega)] at h1
    obtain ⟨b, h2, h3⟩ := open_u8 he h1
    refine ⟨b, ?_, by rw [List.getElem?_eq_getElem (by omega), Option.map_some, h3]⟩
    have : ((cs.drop (i * 1)).take 1)[0]? = some (u8 b) := by rw [h2]; rfl
    simpa using this
  have : ∀ k, k ≤ n → ∃ bs : List UInt8, bs.length = k ∧ cs.take k = bs.map u8 ∧ (xs.take k).map (·.1) = bs.map fun b => .lit (.int .u8 b.toNat) := by
    intro k
    induction k with
    | zero => exact fun _ => ⟨[], rfl, by simp, by simp⟩
    | succ k ih =>
      intro hk
      obtain ⟨bs, h1, h2, h3⟩ := ih (by omega)
      obtain ⟨b, h4, h5⟩ := each k (by omega)
      have hk1 : k < cs.length := by omega
      have hk2 : k < xs.length := by omega
      rw [List.getElem?_eq_getElem hk1] at h4
      rw [List.getElem?_eq_getElem hk2] at h5
      refine ⟨bs ++ [b], by simp [h1], ?_, ?_⟩
      · rw [List.take_succ_eq_append_getElem hk1, h2, Option.some.inj h4]; simp
      · rw [List.take_succ_eq_append_getElem hk2, List.map_append, h3]
        simp at h5
        simp [h5]
  obtain ⟨bs, h1, h2, h3⟩ := this n (Nat.le_refl _)
  rw [List.take_of_length_le (by omega)] at h2 h3
  exact ⟨bs, h1, h2, by rw [← h3]⟩

theorem open_i (ht : P.underlying t = some (.int .i64)) (h : DataW.trod enc P w base spare held fuel t cs = some x) : ∃ b : Int, cs = [i64 b] ∧ x.1 = .lit (.int .i64 b) := by
  obtain ⟨n, rfl, rfl, _⟩ := DataW.trod_int ht h
  exact ⟨n, rfl, rfl⟩
theorem open_is {n : Nat} {e : TypeId} (ht : P.underlying t = some (.array n e)) (he : P.underlying e = some (.int .i64)) (hc : P.cellsOf e = 1) (hn : P.cellsOf t = n)
    (h : DataW.trod enc P w base spare held fuel t cs = some x) : ∃ bs : List Int, bs.length = n ∧ cs = bs.map i64 ∧ x.1 = .agg (bs.map fun b => .lit (.int .i64 b)) := by
  obtain ⟨xs, m, rfl, rfl, hl, hx, hel⟩ := DataW.trod_array ht h
  rw [hn] at hl
  have each : ∀ i (h : i < n), ∃ b : Int, cs[i]? = some (i64 b) ∧ xs[i]?.map (·.1) = some (.lit (.int .i64 b)) := fun i hi => by
    have h1 := hel i hi
    rw [hc, List.getElem?_eq_getElem (by omega)] at h1
    obtain ⟨b, h2, h3⟩ := open_i he h1
    refine ⟨b, ?_, by rw [List.getElem?_eq_getElem (by omega), Option.map_some, h3]⟩
    have : ((cs.drop (i * 1)).take 1)[0]? = some (i64 b) := by rw [h2]; rfl
    simpa using this
  have : ∀ k, k ≤ n → ∃ bs : List Int, bs.length = k ∧ cs.take k = bs.map i64 ∧ (xs.take k).map (·.1) = bs.map fun b => .lit (.int .i64 b) := by
    intro k
    induction k with
    | zero => exact fun _ => ⟨[], rfl, by simp, by simp⟩
    | succ k ih =>
      intro hk
      obtain ⟨bs, h1, h2, h3⟩ := ih (by omega)
      obtain ⟨b, h4, h5⟩ := each k (by omega)
      have hk1 : k < cs.length := by omega
      have hk2 : k < xs.length := by omega
      rw [List.getElem?_eq_getElem hk1] at h4
      rw [List.getElem?_eq_getElem hk2] at h5
      refine ⟨bs ++ [b], by simp [h1], ?_, ?_⟩
      · rw [List.take_succ_eq_append_getElem hk1, h2, Option.some.inj h4]; simp
      · rw [List.take_succ_eq_append_getElem hk2, List.map_append, h3]
        simp at h5
        simp [h5]
  obtain ⟨bs, h1, h2, h3⟩ := this n (Nat.le_refl _)
  rw [List.take_of_length_le (by omega)] at h2 h3
  exact ⟨bs, h1, h2, by rw [← h3]⟩

end
theorem cells5 : Tryz.prog.cellsOf 5 = 1 := by kernel_rfl
theorem cells4 : Tryz.prog.cellsOf 4 = 1 := by kernel_rfl
theorem add_none (b o i : Nat) : (⟨b, o, none⟩ : Addr).add i = ⟨b, o + i, none⟩ := by
  unfold Addr.add
  by_cases h : i = 0
  · simp [h]
  · simp [h]

section
variable {w : World} {base : Nat} {cs : List Value}
theorem cells_of_run {a : Addr} {n : Nat} (hn : 0 < n) (h : w.cells? base a n = some cs) : a.spot = none ∧ a.block < w.heap.size ∧ Cells w ⟨a.block, a.off, none⟩ cs := by
  obtain ⟨_, hl, hc⟩ := World.cells?_some h
  have h0 := hc 0 hn
  rw [List.getElem?_eq_getElem (by omega)] at h0
  have hs : a.spot = none := by simpa [Addr.add] using World.cell?_spot h0
  obtain ⟨b, o, s⟩ := a
  dsimp only at hs
  subst hs
  refine ⟨rfl, World.block_lt_of_cell? _ _ h0, cells_mk fun i v hv => ?_⟩
  have hi : i < n := by have := (List.getElem?_eq_some_iff.1 hv).1; omega
  have := (hc i hi).trans hv
  rw [add_none] at this
  exact this

end
theorem ok_slice {P : Program} {w : World} {r : Reach} {base : Nat} {t e : TypeId} {v : Value} (ht : P.underlying t = some (.slice e)) (h : Value.okWide P w r base t v) :
    ∃ a len cap, v = .slice a len cap ∧ len ≤ cap ∧ (a = none → cap = 0) := by
  simp only [Value.okWide, ht, Cell.okWide] at h
  cases v with
  | slice a len cap =>
    cases a with
    | none =>
      refine ⟨none, len, cap, rfl, ?_⟩
      unfold Cell.ok at h
      rw [ht] at h
      split at h <;> simp_all
    | some a =>
      refine ⟨some a, len, cap, rfl, ?_, fun h => by cases h⟩
      unfold Cell.ok at h
      rw [ht] at h
      split at h <;> simp_all
  | _ => simp_all [Cell.ok]

theorem seat_own : ownKnob Tryz.prog.godebug = none := by kernel_rfl
theorem seat_laidOut : laidOutB Tryz.prog = true := by kernel_rfl
section
variable {H : Type} {enc : TypeId × Value → H} {P : Program} {w : World} {base : Nat} {spare : Nat → Bool} {held : Bool} {fuel : Nat} {t e : TypeId} {cs : List Value} {x : DataW H × List MemPlace}
/-- What every reading of a type's cells comes to. -/
def Opens (enc : TypeId × Value → H) (P : Program) (w : World) (base : Nat) (spare : Nat → Bool) (held : Bool) (t : TypeId) (R : List Value → Prop) : Prop :=
  ∀ fuel cs x, DataW.trod enc P w base spare held fuel t cs = some x → R cs
theorem Opens.field {fs : Array Field} {R : List Value → Prop} {i : Nat} {f : Field} {n : Nat} {xs : List (DataW H × List MemPlace)} {m : Nat} (hel : ∀ (i : Nat) (f : Field), fs[i]? = some f → DataW.trod enc P w base spare held m f.type ((cs.drop f.offset).take (P.cellsOf f.type)) = xs[i]?)
    (hl : xs.length = fs.size) (hi : fs[i]? = some f) {o : Nat} (hoo : f.offset = o) (hn : P.cellsOf f.type = n) (ho : Opens enc P w base spare held f.type R) : R ((cs.drop o).take n) := by
  subst hoo
  have h1 := hel i f hi
  have : i < fs.size := (Array.getElem?_eq_some_iff.1 hi).1
  rw [List.getElem?_eq_getElem (by omega), hn] at h1
  exact ho _ _ _ h1
theorem opens_u8 (ht : P.underlying t = some (.int .u8)) : Opens enc P w base spare held t fun cs => ∃ b : UInt8, cs = [u8 b] := fun fuel cs x h => by
  obtain ⟨b, h, _⟩ := open_u8 ht h
  exact ⟨b, h⟩
theorem opens_bool (ht : P.underlying t = some .bool) : Opens enc P w base spare held t fun cs => ∃ b : Bool, cs = [.bool b] := fun fuel cs x h => by
  obtain ⟨b, h, _⟩ := DataW.trod_bool ht h
  exact ⟨b, h⟩
theorem opens_int (ht : P.underlying t = some (.int .i64)) : Opens enc P w base spare held t fun cs => ∃ b : Int, cs = [.int .i64 b] := fun fuel cs x h => by
  obtain ⟨n, h, _, _⟩ := DataW.trod_int ht h
  exact ⟨n, h⟩
theorem opens_u64 (ht : P.underlying t = some (.int .u64)) : Opens enc P w base spare held t fun cs => ∃ n : Nat, n < 18446744073709551616 ∧ cs = [.int .u64 (n : Int)] := fun fuel cs x h => by
  obtain ⟨n, rfl, _, hw⟩ := DataW.trod_int ht h
  have hb : 0 ≤ n ∧ n ≤ 18446744073709551615 := by
    simp only [Lit.wf, decide_eq_true_eq, Bool.and_eq_true] at hw
    first
      | exact ⟨by simpa [IntKind.min, IntKind.signed, IntKind.bits] using hw.1, by simpa [IntKind.max, IntKind.signed, IntKind.bits] using hw.2⟩
      | (simp [IntKind.min, IntKind.max, IntKind.signed, IntKind.bits] at hw; omega)
  exact ⟨n.toNat, by omega, by congr 2; omega⟩
theorem opens_u8s {n : Nat} (ht : P.underlying t = some (.array n e)) (he : P.underlying e = some (.int .u8)) (hc : P.cellsOf e = 1) (hn : P.cellsOf t = n) : Opens enc P w base spare held t fun cs => ∃ bs : List UInt8, bs.length = n ∧ cs = bs.map u8 := fun fuel cs x h => by
  obtain ⟨bs, h1, h2, _⟩ := open_u8s ht he hc hn h
  exact ⟨bs, h1, h2⟩

theorem list_of {β : Type} {n : Nat} (i0 : β) {Q : Nat → β → Prop} (h : ∀ i, i < n → ∃ b, Q i b) : ∃ bs : List β, bs.length = n ∧ ∀ i (hi : i < bs.length), Q i bs[i] := by
  have h2 : ∀ i, ∃ b, i < n → Q i b := fun i => by
    by_cases hi : i < n
    · obtain ⟨b, hb⟩ := h i hi; exact ⟨b, fun _ => hb⟩
    · exact ⟨i0, fun h => absurd h hi⟩
  obtain ⟨g, hg⟩ := Classical.axiomOfChoice h2
  refine ⟨(List.range n).map g, by simp, fun i hi => ?_⟩
  simp only [List.getElem_map, List.getElem_range]
  exact hg i (by simpa using hi)
theorem flat_of {β : Type} {f : β → List Value} {sz : Nat} : ∀ (bs : List β) (cs : List Value), cs.length = bs.length * sz → (∀ i (h : i < bs.length), (cs.drop (i * sz)).take sz = f bs[i]) → cs = bs.flatMap f
  | [], cs, hl, _ => by simpa using hl
  | b :: r, cs, hl, h => by
    have h0 := h 0 (by simp)
    simp only [Nat.zero_mul, List.drop_zero, List.getElem_cons_zero] at h0
    rw [List.flatMap_cons, ← h0]
    conv => lhs; rw [← List.take_append_drop sz cs]
    congr 1
    refine flat_of (sz := sz) r (cs.drop sz) (by rw [List.length_drop, hl, List.length_cons, Nat.add_mul]; omega) fun i hi => ?_
    have h1 := h (i + 1) (by simpa using hi)
    rw [List.drop_drop]
    simpa [Nat.add_mul, Nat.add_comm] using h1
theorem opens_arr {β : Type} (i0 : β) {f : β → List Value} {Q : β → Prop} {n sz : Nat} (ht : P.underlying t = some (.array n e)) (hc : P.cellsOf e = sz) (hn : P.cellsOf t = n * sz) (ho : Opens enc P w base spare held e fun cs => ∃ b, Q b ∧ cs = f b) :
    Opens enc P w base spare held t fun cs => ∃ bs : List β, bs.length = n ∧ (∀ b ∈ bs, Q b) ∧ cs = bs.flatMap f := fun fuel cs x h => by
  obtain ⟨xs, m, rfl, rfl, hl, hx, hel⟩ := DataW.trod_array ht h
  rw [hn] at hl
  have each : ∀ i, i < n → ∃ b : β, Q b ∧ (cs.drop (i * sz)).take sz = f b := fun i hi => by
    have h1 := hel i hi
    rw [hc, List.getElem?_eq_getElem (by omega)] at h1
    exact ho _ _ _ h1
  obtain ⟨bs, h1, h2⟩ := list_of i0 each
  refine ⟨bs, h1, fun b hb => ?_, flat_of bs cs (by rw [hl, h1]) fun i hi => (h2 i hi).2⟩
  obtain ⟨i, hi, rfl⟩ := List.getElem_of_mem hb
  exact (h2 i hi).1
theorem opens_sl {β : Type} (i0 : β) {f : β → List Value} {Q : β → Prop} {sz : Nat} (hp : 0 < sz) (ht : P.underlying t = some (.slice e)) (hc : P.cellsOf e = sz) (ho : Opens enc P w base spare held e fun cs => ∃ b, Q b ∧ cs = f b) :
    Opens enc P w base spare held t fun cs => ∃ (p : Option Addr) (cap : Nat) (l : List β), cs = [.slice p l.length cap] ∧ l.length ≤ 9223372036854775807 ∧ (p = none → cap = 0) ∧ (∀ b ∈ l, Q b) ∧ ∃ b o, (l.length = 0 ∨ p = some ⟨b, o, none⟩) ∧ ∀ i (hi : i < l.length), b < w.heap.size ∧ Cells w ⟨b, o + i * sz, none⟩ (f l[i]) := fun fuel cs x h => by
  rcases DataW.trod_slice ht h with ⟨rfl, _⟩ | ⟨a, len, cap, elems, rest, n, _, rfl, _, _, hlc, hcm, hlen, hel, _, _⟩
  · exact ⟨none, 0, [], rfl, by simp, fun _ => rfl, by simp, 0, 0, .inl rfl, fun i hi => by simp at hi⟩
  · have each : ∀ i, i < len → ∃ m : β, Q m ∧ (a.add (i * sz)).spot = none ∧ (a.add (i * sz)).block < w.heap.size ∧ Cells w ⟨(a.add (i * sz)).block, (a.add (i * sz)).off, none⟩ (f m) := fun i hi => by
      have h1 := hel i hi
      rw [hc, List.getElem?_eq_getElem (by omega), Option.bind_eq_some_iff] at h1
      obtain ⟨cs, h2, h3⟩ := h1
      obtain ⟨m, hq, rfl⟩ := ho _ _ _ h3
      exact ⟨m, hq, cells_of_run hp h2⟩
    obtain ⟨l, h1, h2⟩ := list_of i0 each
    have hm : maxLen = 9223372036854775807 := rfl
    refine ⟨some a, cap, l, by rw [h1], by omega, (fun h => by cases h), fun b hb => ?_, a.block, a.off, ?_, fun i hi => ?_⟩
    · obtain ⟨i, hi, rfl⟩ := List.getElem_of_mem hb
      exact (h2 i hi).1
    · by_cases h00 : l.length = 0
      · exact .inl h00
      · right
        have hsp : a.spot = none := by
          have := (h2 0 (by omega)).2.1
          simpa [Addr.add] using this
        obtain ⟨b, o, s⟩ := a
        dsimp only at hsp
        subst hsp
        rfl
    · have hsp : a.spot = none := by
        have := (h2 0 (by omega)).2.1
        simpa [Addr.add] using this
      obtain ⟨b, o, s⟩ := a
      dsimp only at hsp
      subst hsp
      have := (h2 i hi).2.2
      rw [add_none] at this
      exact this
theorem cut (cs : List Value) (o n o' : Nat) (h : o + n = o') : cs.drop o = (cs.drop o).take n ++ cs.drop o' := by
  rw [← h, ← List.drop_drop, List.take_append_drop]
end
theorem cC (t n : Nat) (h : Tryz.prog.cellsOf t = n) : Tryz.prog.cellsOf t = n := h
theorem returns_and_sized {H : Type} {enc : TypeId × Value → H} {a : Assume} {C : Checked} {os : Os} {f : FuncId} {fn : Func} {s : ChangeSpec} {conds : List PathCond} {apart fresh handsOn again : Bool} {X : World → Array Value → Prop}
    (hX : ∀ (w w' : World) (args : Array Value), w.heap = w'.heap → X w args → X w' args)
    (own : ownKnob C.prog.godebug = none) (started : os.Started) (noInit : C.prog.inits.idxOf? f = none) (hfn : C.prog.funcs[f]? = some fn)
    (witness : ∃ (w : World) (tape : Tape) (i : Input), w.os = os ∧ (w.forCall tape i).Shaped C.prog ∧ i.vars = [] ∧ Input.okWide C.prog (w.forCall tape i) .any w.heap.size f i ∧
      ((s.pre enc C.prog fn conds apart (w.forCall tape i).memory i.args ∧ X (w.forCall tape i).memory i.args) ∧ sizedMet enc C.prog fn (OpenSpec.ofChange s) apart (w.forCall tape i).memory i.args) ∧ a.holds C.prog (lone (Frame.enter C.prog f i.args .normal) [] (w.forCall tape i)))
    (contract : ∀ (W : World) (base : Nat) (args : Array Value) (ds gs : List (DataW H)) (before : List MemPlace),
      (∀ (j : Nat) t v, fn.params[j]? = some t → args[j]? = some v → Value.okWide C.prog W .any base t v) →
      DataW.Whole enc C.prog fn.params.toList s.vars apart W args.toList ds gs before → X W args → W.ShapedOpen C.prog →
      (∃ ds gs before, DataW.Whole enc C.prog fn.params.toList (OpenSpec.ofChange s).vars apart W args.toList ds gs before ∧ ∀ n ∈ DataW.weightsEach C.prog (fn.params.toList ++ (OpenSpec.ofChange s).bare.plain.varTypes C.prog) (ds ++ gs), n ≤ reachBytes) →
      Calls C.prog f args W fun e W' => ∃ v, e = .returned v ∧ s.post enc C.prog fn apart fresh handsOn again W args v W') :
    ReturnsInHanded a C os f .any (fun w args => (s.pre enc C.prog fn conds apart w args ∧ X w args) ∧ sizedMet enc C.prog fn (OpenSpec.ofChange s) apart w args) (s.post enc C.prog fn apart fresh handsOn again) := by
  refine returnsInHanded_of_calls own started noInit witness ?_
  intro w tape i _ hsh _ hok hpre hholds
  obtain ⟨_, _, _, fn', hfn', _, _, _, _, hval⟩ := hok
  have e : fn' = fn := Option.some.inj (hfn'.symm.trans hfn)
  subst e
  obtain ⟨⟨⟨ds, gs, before, hw, hc⟩, hx⟩, hz⟩ := hpre
  have hw' := DataW.Whole.of_heap (w' := w.forCall tape i) (by rfl) hw
  obtain ⟨_, ds2, gs2, before2, hw2, hall⟩ := hz
  refine (contract (w.forCall tape i) w.heap.size i.args ds gs before hval hw' (hX _ _ _ (by rfl) hx) hsh ⟨ds2, gs2, before2, DataW.Whole.of_heap (w' := w.forCall tape i) (by rfl) hw2, fun n hn => of_decide_eq_true (List.all_eq_true.1 hall n hn)⟩).mono fun e W' ⟨v, he, hp⟩ => ?_
  subst he
  exact ChangeSpec.post_blind hp

section
variable {H : Type} {enc : TypeId × Value → H} {P : Program} {w : World} {base : Nat} {spare : Nat → Bool} {held : Bool} {fuel : Nat} {t : TypeId} {cs : List Value} {x : DataW H × List MemPlace}
/-- All weights of a reading lie within the reach. -/
def Wgt (P : Program) (t : TypeId) (d : DataW H) : Prop := ∀ n ∈ d.weights P t, n ≤ reachBytes
theorem wgt_mem {ds : List (DataW H)} {e : TypeId} (h : ∀ n ∈ DataW.weightsAll P e ds, n ≤ reachBytes) : ∀ d ∈ ds, Wgt P e d := by
  induction ds with
  | nil => intro d hd; cases hd
  | cons a r ih =>
    intro d hd
    simp only [DataW.weightsAll, List.mem_append] at h
    rcases List.mem_cons.1 hd with rfl | hd
    · exact fun n hn => h n (.inl hn)
    · exact ih (fun n hn => h n (.inr hn)) d hd
theorem wgt_slice {e : TypeId} (ht : P.underlying t = some (.slice e)) {a : Option Addr} {len cap : Nat} (h : DataW.trod enc P w base spare held fuel t [.slice a len cap] = some x) (hw : Wgt P t x.1) (hb : Nat.ble 1 (P.bytesOf e) = true) :
    len ≤ reachBytes ∧ ∀ i, i < len → ∃ aa cs n y, a = some aa ∧ w.cells? base (aa.add (i * P.cellsOf e)) (P.cellsOf e) = some cs ∧ DataW.trod enc P w base spare held n e cs = some y ∧ Wgt P e y.1 := by
  rcases DataW.trod_slice ht h with ⟨hcs, hx⟩ | ⟨aa, l, c, elems, rest, n, _, hcs, hx, _, _, _, hlen, hel, _, _⟩
  · simp only [List.cons.injEq, Value.slice.injEq, and_true] at hcs
    obtain ⟨rfl, rfl, rfl⟩ := hcs
    exact ⟨Nat.zero_le _, fun i hi => absurd hi (Nat.not_lt_zero _)⟩
  · simp only [List.cons.injEq, Value.slice.injEq, and_true] at hcs
    obtain ⟨rfl, rfl, rfl⟩ := hcs
    subst hx
    have hw' : ∀ m, m ∈ ((elems.map (·.1)).length + (rest.map (·.1)).length) * P.bytesOf e :: (DataW.weightsAll P e (elems.map (·.1)) ++ DataW.weightsAll P e (rest.map (·.1))) → m ≤ reachBytes := fun m hm => by
      refine hw m ?_
      simp only [DataW.weights, ht]
      exact hm
    have hb := Nat.le_of_ble_eq_true hb
    constructor
    · have h1 := hw' _ List.mem_cons_self
      simp only [List.length_map] at h1
      have : elems.length * 1 ≤ (elems.length + rest.length) * P.bytesOf e := Nat.mul_le_mul (Nat.le_add_right _ _) hb
      omega
    · intro i hi
      have h1 := hel i hi
      rw [List.getElem?_eq_getElem (by omega), Option.bind_eq_some_iff] at h1
      obtain ⟨cs, h2, h3⟩ := h1
      refine ⟨aa, cs, n, _, rfl, h2, h3, ?_⟩
      refine wgt_mem (ds := elems.map (·.1)) (fun m hm => hw' m (List.mem_cons_of_mem _ (List.mem_append_left _ hm))) _ ?_
      exact List.mem_map_of_mem (List.getElem_mem _)
theorem wgt_field {fs : Array Field} (ht : P.underlying t = some (.struct fs)) (h : DataW.trod enc P w base spare held fuel t cs = some x) (hw : Wgt P t x.1) {i : Nat} {f : Field} (hf : fs[i]? = some f) {T o k : Nat} {vs : List Value} (hT : f.type = T) (hO : f.offset = o) (hk : P.cellsOf T = k) (hv : (cs.drop o).take k = vs) :
    ∃ n y, DataW.trod enc P w base spare held n T vs = some y ∧ Wgt P T y.1 := by
  subst hT hO hk hv
  obtain ⟨xs, n, rfl, rfl, hl, hx, hel⟩ := DataW.trod_struct ht h
  have h1 := hel i f hf
  have hi : i < xs.length := by rw [hx]; exact (Array.getElem?_eq_some_iff.1 hf).1
  rw [List.getElem?_eq_getElem hi] at h1
  refine ⟨n, _, h1, fun m hm => hw m ?_⟩
  simp only [DataW.weights, ht]
  refine DataW.weights_mem_each (j := i) (t := f.type) (d := xs[i].1) ?_ ?_ m hm
  · rw [List.getElem?_map]
    have : fs.toList[i]? = some f := by simpa using hf
    rw [this]; rfl
  · rw [List.getElem?_map, List.getElem?_eq_getElem hi]; rfl
end

end Go.Proofs.YthmddpoodknclaaGreatDoor
namespace Go.Proofs.YthmddpoodknclaaGreatDoor
open Go.Vc Go.RowKit Go.Sei
open Go.ChangeShapes Go.WideShapes Go.ChangeAt
set_option linter.unusedVariables false

theorem cell_one {P : Program} {w : World} {r : Reach} {base : Nat} {u : TypeId} {v : Value} (h : Cell.okWide P w r base u v) : v.oneCell' = true := by
  cases v with
  | agg cs =>
    exfalso
    unfold Cell.okWide at h
    split at h <;> rename_i h1 <;> first | cases h1 | skip
    all_goals
      unfold Cell.ok at h
      split at h <;> rename_i h2 <;> first | cases h2 | exact h
  | tuple cs =>
    exfalso
    unfold Cell.okWide at h
    split at h <;> rename_i h1 <;> first | cases h1 | skip
    all_goals
      unfold Cell.ok at h
      split at h <;> rename_i h2 <;> first | cases h2 | exact h
  | _ => rfl
theorem okWide_one {P : Program} {w : World} {r : Reach} {base : Nat} {t : TypeId} {a : Array Value} {fs : Array Field} (ht : P.underlying t = some (.struct fs)) (h : Value.okWide P w r base t (.agg a)) : a.toList.all Value.oneCell' = true := by
  unfold Value.okWide at h
  rw [ht] at h
  obtain ⟨cs, h0, _, ts, _, _, h1⟩ := h
  simp only [Value.agg.injEq] at h0
  subst h0
  rw [List.all_eq_true]
  intro v hv
  obtain ⟨i, hi, rfl⟩ := List.getElem_of_mem hv
  obtain ⟨u, _, h2⟩ := h1 i a.toList[i] (by simp)
  exact cell_one h2

section
variable {H : Type} {enc : TypeId × Value → H} {P : Program} {w : World} {base : Nat} {spare : Nat → Bool} {held : Bool} {fuel F : Nat} {t e : TypeId} {cs : List Value} {x : DataW H × List MemPlace}
/-- What every small enough reading of a type's cells comes to. -/
def OpensW (enc : TypeId × Value → H) (P : Program) (w : World) (base : Nat) (spare : Nat → Bool) (held : Bool) (F : Nat) (t : TypeId) (R : List Value → Prop) : Prop :=
  ∀ n, n < F → ∀ cs x, DataW.trod enc P w base spare held n t cs = some x → Wgt P t x.1 → R cs
theorem opensW_of {R : List Value → Prop} (h : Opens enc P w base spare held t R) : OpensW enc P w base spare held F t R := fun n _ cs x h1 _ => h n cs x h1
theorem OpensW.field {fs : Array Field} {R : List Value → Prop} (ht : P.underlying t = some (.struct fs)) (h : DataW.trod enc P w base spare held fuel t cs = some x) (hw : Wgt P t x.1) (hF : fuel ≤ F) {i : Nat} {f : Field} (hf : fs[i]? = some f) {T o k : Nat} (hT : f.type = T) (hO : f.offset = o) (hk : P.cellsOf T = k)
    (ho : OpensW enc P w base spare held F T R) : R ((cs.drop o).take k) := by
  subst hT hO hk
  obtain ⟨xs, n, rfl, rfl, hl, hx, hel⟩ := DataW.trod_struct ht h
  have h1 := hel i f hf
  have hi : i < xs.length := by rw [hx]; exact (Array.getElem?_eq_some_iff.1 hf).1
  rw [List.getElem?_eq_getElem hi] at h1
  refine ho n (by omega) _ _ h1 fun m hm => hw m ?_
  simp only [DataW.weights, ht]
  refine DataW.weights_mem_each (j := i) (t := f.type) (d := xs[i].1) ?_ ?_ m hm
  · rw [List.getElem?_map]
    have : fs.toList[i]? = some f := by simpa using hf
    rw [this]; rfl
  · rw [List.getElem?_map, List.getElem?_eq_getElem hi]; rfl
theorem opensW_str (ht : P.underlying t = some .string) : OpensW enc P w base spare held F t fun cs => ∃ s : List UInt8, s.length ≤ 140737488351232 ∧ cs = [strV s] := fun n _ cs x h hw => by
  obtain ⟨s, rfl, rfl, _⟩ := DataW.trod_string ht h
  refine ⟨s.data.toList, hw _ (by simp [DataW.weights]), ?_⟩
  unfold strV bs
  rw [Array.toArray_toList]
theorem opensW_sl {β : Type} (i0 : β) {f : β → List Value} {Q : β → Prop} {sz : Nat} (hp : 0 < sz) (ht : P.underlying t = some (.slice e)) (hc : P.cellsOf e = sz) (hb : Nat.ble 1 (P.bytesOf e) = true) (ho : OpensW enc P w base spare held F e fun cs => ∃ b, Q b ∧ cs = f b) :
    OpensW enc P w base spare held (F + 1) t fun cs => ∃ (p : Option Addr) (cap : Nat) (l : List β), cs = [.slice p l.length cap] ∧ (l.length ≤ 140737488351232 ∧ l.length * P.bytesOf e ≤ 140737488351232) ∧ l.length ≤ cap ∧ (∀ b ∈ l, Q b) ∧ ∃ b o, (l.length = 0 ∨ p = some ⟨b, o, none⟩) ∧ ∀ i (hi : i < l.length), b < w.heap.size ∧ Cells w ⟨b, o + i * sz, none⟩ (f l[i]) := fun n hn cs x h hw => by
  rcases DataW.trod_slice ht h with ⟨rfl, _⟩ | ⟨a, len, cap, elems, rest, n, rfl, rfl, hx, _, hlc, hcm, hlen, hel, _, _⟩
  · exact ⟨none, 0, [], rfl, ⟨by simp, by simp⟩, by simp, by simp, 0, 0, .inl rfl, fun i hi => by simp at hi⟩
  · subst hx
    have hw' : ∀ m, m ∈ ((elems.map (·.1)).length + (rest.map (·.1)).length) * P.bytesOf e :: (DataW.weightsAll P e (elems.map (·.1)) ++ DataW.weightsAll P e (rest.map (·.1))) → m ≤ reachBytes := fun m hm => by
      refine hw m ?_
      simp only [DataW.weights, ht]
      exact hm
    have hb := Nat.le_of_ble_eq_true hb
    have hlb : len ≤ 140737488351232 ∧ len * P.bytesOf e ≤ 140737488351232 := by
      have h1 := hw' _ List.mem_cons_self
      simp only [List.length_map] at h1
      have : elems.length * 1 ≤ (elems.length + rest.length) * P.bytesOf e := Nat.mul_le_mul (Nat.le_add_right _ _) hb
      have h2 : elems.length * P.bytesOf e ≤ (elems.length + rest.length) * P.bytesOf e := Nat.mul_le_mul (Nat.le_add_right _ _) (Nat.le_refl _)
      have hr : reachBytes = 140737488351232 := rfl
      rw [← hlen]
      omega
    have each : ∀ i, i < len → ∃ m : β, Q m ∧ (a.add (i * sz)).spot = none ∧ (a.add (i * sz)).block < w.heap.size ∧ Cells w ⟨(a.add (i * sz)).block, (a.add (i * sz)).off, none⟩ (f m) := fun i hi => by
      have h1 := hel i hi
      rw [hc, List.getElem?_eq_getElem (by omega), Option.bind_eq_some_iff] at h1
      obtain ⟨cs, h2, h3⟩ := h1
      obtain ⟨m, hq, rfl⟩ := ho n (by omega) _ _ h3 (wgt_mem (ds := elems.map (·.1)) (fun m hm => hw' m (List.mem_cons_of_mem _ (List.mem_append_left _ hm))) _ (List.mem_map_of_mem (List.getElem_mem _)))
      exact ⟨m, hq, cells_of_run hp h2⟩
    obtain ⟨l, h1, h2⟩ := list_of i0 each
    refine ⟨some a, cap, l, by rw [h1], by rw [h1]; exact hlb, by omega, fun b hb => ?_, a.block, a.off, ?_, fun i hi => ?_⟩
    · obtain ⟨i, hi, rfl⟩ := List.getElem_of_mem hb
      exact (h2 i hi).1
    · by_cases h00 : l.length = 0
      · exact .inl h00
      · right
        have hsp : a.spot = none := by
          have := (h2 0 (by omega)).2.1
          simpa [Addr.add] using this
        obtain ⟨b, o, s⟩ := a
        dsimp only at hsp
        subst hsp
        rfl
    · have hsp : a.spot = none := by
        have := (h2 0 (by omega)).2.1
        simpa [Addr.add] using this
      obtain ⟨b, o, s⟩ := a
      dsimp only at hsp
      subst hsp
      have := (h2 i hi).2.2
      rw [add_none] at this
      exact this
theorem row_of {α : Type} {E : Enc α} {p : Option Addr} {l : List α} (h : ∃ b o, (l.length = 0 ∨ p = some ⟨b, o, none⟩) ∧ ∀ i (hi : i < l.length), b < w.heap.size ∧ Cells w ⟨b, o + i * E.sz, none⟩ (E.enc l[i])) : RowB E w.heap.size w p l := by
  obtain ⟨b, o, hp, hc⟩ := h
  by_cases h0 : l = []
  · exact .inl h0
  · have hl0 : 0 < l.length := List.length_pos_iff.2 h0
    rcases hp with hp | rfl
    · omega
    · exact RowB.of_slr (.inr ⟨b, o, rfl, (hc 0 hl0).1, fun i hi => (hc i hi).2⟩)
end
section
variable {H : Type} {enc : TypeId × Value → H} {w : World} {base : Nat} {spare : Nat → Bool} {held : Bool} {F : Nat}
theorem opens_arg : Opens enc Tryz.prog w base spare held 118 fun cs => ∃ (r : Bool) (n : UInt8), cs = [.bool r, u8 n] := fun fuel cs x h => by
  obtain ⟨xs, m, rfl, rfl, hl, hx, hel⟩ := DataW.trod_struct Tryz.underlying118 h
  rw [cC 118 2 (by kernel_rfl)] at hl
  obtain ⟨b0, e0⟩ := Opens.field (o := 0) (i := 0) hel hx rfl rfl cells4 (opens_bool Tryz.underlying4)
  obtain ⟨b1, e1⟩ := Opens.field (o := 1) (i := 1) hel hx rfl rfl cells5 (opens_u8 Tryz.underlying5)
  refine ⟨b0, b1, ?_⟩
  have h0 : cs = cs.drop 0 := rfl
  have h9 : cs.drop 2 = [] := List.drop_of_length_le (by omega)
  rw [h0, cut cs 0 1 1 rfl, cut cs 1 1 2 rfl, e0, e1, h9]
  rfl
theorem opens_ins : Opens enc Tryz.prog w base spare held 120 fun cs => ∃ x : InsD, True ∧ cs = insE.enc x := fun fuel cs x h => by
  obtain ⟨xs, m, rfl, rfl, hl, hx, hel⟩ := DataW.trod_struct Tryz.underlying120 h
  rw [cC 120 10 (by kernel_rfl)] at hl
  obtain ⟨b0, e0⟩ := Opens.field (o := 0) (i := 0) hel hx rfl rfl cells5 (opens_u8 Tryz.underlying5)
  obtain ⟨b1, e1⟩ := Opens.field (o := 1) (i := 1) hel hx rfl rfl cells5 (opens_u8 Tryz.underlying5)
  obtain ⟨b2, e2⟩ := Opens.field (o := 2) (i := 2) hel hx rfl rfl cells5 (opens_u8 Tryz.underlying5)
  obtain ⟨r3, n3, e3⟩ := Opens.field (o := 3) (i := 3) hel hx rfl rfl (cC 118 2 (by kernel_rfl)) opens_arg
  obtain ⟨r4, n4, e4⟩ := Opens.field (o := 5) (i := 4) hel hx rfl rfl (cC 118 2 (by kernel_rfl)) opens_arg
  obtain ⟨b5, e5⟩ := Opens.field (o := 7) (i := 5) hel hx rfl rfl cells5 (opens_u8 Tryz.underlying5)
  obtain ⟨b6, e6⟩ := Opens.field (o := 8) (i := 6) hel hx rfl rfl cells5 (opens_u8 Tryz.underlying5)
  obtain ⟨b7, e7⟩ := Opens.field (o := 9) (i := 7) hel hx rfl rfl cells5 (opens_u8 Tryz.underlying5)
  refine ⟨⟨b0, b1, b2, r3, n3, r4, n4, b5, b6, b7⟩, trivial, ?_⟩
  have h0 : cs = cs.drop 0 := rfl
  have h9 : cs.drop 10 = [] := List.drop_of_length_le (by omega)
  rw [h0, cut cs 0 1 1 rfl, cut cs 1 1 2 rfl, cut cs 2 1 3 rfl, cut cs 3 2 5 rfl, cut cs 5 2 7 rfl, cut cs 7 1 8 rfl, cut cs 8 1 9 rfl, cut cs 9 1 10 rfl, e0, e1, e2, e3, e4, e5, e6, e7, h9]
  rfl
theorem opensW_thr : OpensW enc Tryz.prog w base spare held F 116 fun cs => ∃ x : ThrR, (x.1.length ≤ 140737488351232 ∧ RowB insE w.heap.size w x.2.1 x.1) ∧ cs = thrE.enc x := fun n hn cs x h hw => by
  obtain ⟨p, cap, l, h1, h2, _, _, h3⟩ := opensW_sl (F := n) (⟨0, 0, 0, false, 0, false, 0, 0, 0, 0⟩ : InsD) (f := insE.enc) (Q := fun _ => True) (sz := 10) (by decide) Tryz.underlying116 (by kernel_rfl) (by kernel_rfl) (opensW_of opens_ins) n (Nat.lt_succ_self n) cs x h hw
  exact ⟨(l, p, cap), ⟨h2.1, row_of h3⟩, h1⟩
/-- A condition's reading, of any depth. -/
theorem opensW_cnd : ∀ F, OpensW enc Tryz.prog w base spare held F 27 fun cs => ∃ x : Cnd × Option Addr × Nat, KidsV w.heap.size w x.2.1 x.1.kids ∧ cs = cndCells x.1 x.2.1 x.2.2
  | 0 => fun n hn => absurd hn (Nat.not_lt_zero _)
  | F + 1 => fun n hn cs x h hw => by
    have ih := opensW_cnd F
    have hF : n ≤ F + 1 := by omega
    have hl : cs.length = 5 := by
      obtain ⟨xs, m, _, _, hl, _, _⟩ := DataW.trod_struct Tryz.underlying27 h
      rw [cC 27 5 (by kernel_rfl)] at hl
      exact hl
    obtain ⟨b0, e0⟩ := OpensW.field (F := F + 1) (o := 0) (i := 0) Tryz.underlying27 h hw hF rfl rfl rfl cells5 (opensW_of (opens_u8 Tryz.underlying5))
    obtain ⟨b1, e1⟩ := OpensW.field (F := F + 1) (o := 1) (i := 1) Tryz.underlying27 h hw hF rfl rfl rfl cells5 (opensW_of (opens_u8 Tryz.underlying5))
    obtain ⟨b2, e2⟩ := OpensW.field (F := F + 1) (o := 2) (i := 2) Tryz.underlying27 h hw hF rfl rfl rfl cells5 (opensW_of (opens_u8 Tryz.underlying5))
    obtain ⟨b3, e3⟩ := OpensW.field (F := F + 1) (o := 3) (i := 3) Tryz.underlying27 h hw hF rfl rfl rfl cells5 (opensW_of (opens_u8 Tryz.underlying5))
    obtain ⟨p, cap, l, e4, hll, _, hQ, b, o, hp, hc⟩ := OpensW.field (F := F + 1) (o := 4) (i := 4) Tryz.underlying27 h hw hF rfl rfl rfl (cC 25 1 (by kernel_rfl))
      (opensW_sl (F := F) ((.mk 0 0 0 0 [], none, 0) : Cnd × Option Addr × Nat) (f := fun x => cndCells x.1 x.2.1 x.2.2) (Q := fun x => KidsV w.heap.size w x.2.1 x.1.kids) (sz := 5) (by decide) Tryz.underlying25 (by kernel_rfl) (by kernel_rfl) ih)
    refine ⟨(.mk b0 b1 b2 b3 (l.map (·.1)), p, cap), ?_, ?_⟩
    · refine .mk p (l.map (·.1)) (by rw [List.length_map]; have := hll.2; rw [show Tryz.prog.bytesOf 27 = 32 by kernel_rfl] at this; exact this) b o (by rw [List.length_map]; exact hp) (fun i => (l.getD i (.mk 0 0 0 0 [], none, 0)).2.1) (fun i => (l.getD i (.mk 0 0 0 0 [], none, 0)).2.2) (fun i hi => ?_) (fun i hi => ?_)
      · have hi' : i < l.length := by rw [List.length_map] at hi; exact hi
        have e : l.getD i (.mk 0 0 0 0 [], none, 0) = l[i] := by rw [List.getD_eq_getElem?_getD, List.getElem?_eq_getElem hi']; rfl
        rw [e, List.getElem_map]
        exact hc i hi'
      · have hi' : i < l.length := by rw [List.length_map] at hi; exact hi
        have e : l.getD i (.mk 0 0 0 0 [], none, 0) = l[i] := by rw [List.getD_eq_getElem?_getD, List.getElem?_eq_getElem hi']; rfl
        rw [e, List.getElem_map]
        exact hQ _ (List.getElem_mem hi')
    · have h0 : cs = cs.drop 0 := rfl
      have h9 : cs.drop 5 = [] := List.drop_of_length_le (by omega)
      rw [h0, cut cs 0 1 1 rfl, cut cs 1 1 2 rfl, cut cs 2 1 3 rfl, cut cs 3 1 4 rfl, cut cs 4 1 5 rfl, e0, e1, e2, e3, e4, h9]
      simp [cndCells, Cnd.kind, Cnd.thread, Cnd.n, Cnd.val, Cnd.kids]
theorem opensW_prg : OpensW enc Tryz.prog w base spare held F 29 fun cs => ∃ p : Prg, PrgV w.heap.size w cs p := fun n hn cs x h hw => by
  have hF : n ≤ n + 1 := Nat.le_succ n
  have hl : cs.length = 10 := by
    obtain ⟨xs, m, _, _, hl, _, _⟩ := DataW.trod_struct Tryz.underlying29 h
    rw [cC 29 10 (by kernel_rfl)] at hl
    exact hl
  obtain ⟨nm, k0, e0⟩ := OpensW.field (F := n + 1) (o := 0) (i := 0) Tryz.underlying29 h hw hF rfl rfl rfl (cC 9 1 (by kernel_rfl)) (opensW_str Tryz.underlying9)
  obtain ⟨p1, c1, l1, e1, k1, kc1, q1, r1⟩ := OpensW.field (F := n + 1) (o := 1) (i := 1) Tryz.underlying29 h hw hF rfl rfl rfl (cC 22 1 (by kernel_rfl))
    (opensW_sl (F := n) ([] : List UInt8) (f := namE.enc) (Q := fun s => s.length ≤ 140737488351232) (sz := 1) (by decide) Tryz.underlying22 (by kernel_rfl) (by kernel_rfl) (opensW_str Tryz.underlying9))
  obtain ⟨p2, c2, l2, e2, k2, kc2, q2, r2⟩ := OpensW.field (F := n + 1) (o := 2) (i := 2) Tryz.underlying29 h hw hF rfl rfl rfl (cC 23 1 (by kernel_rfl))
    (opensW_sl (F := n) (0 : UInt8) (f := byteE.enc) (Q := fun _ => True) (sz := 1) (by decide) Tryz.underlying23 cells5 (by kernel_rfl) (opensW_of (fun fuel cs x h => by
      obtain ⟨b, hb⟩ := opens_u8 Tryz.underlying5 fuel cs x h
      exact ⟨b, trivial, hb⟩)))
  obtain ⟨p3, c3, l3, e3, k3, kc3, q3, r3⟩ := OpensW.field (F := n + 1) (o := 3) (i := 3) Tryz.underlying29 h hw hF rfl rfl rfl (cC 24 1 (by kernel_rfl))
    (opensW_sl (F := n) (([], none, 0) : ThrR) (f := thrE.enc) (Q := fun x => x.1.length ≤ 140737488351232 ∧ RowB insE w.heap.size w x.2.1 x.1) (sz := 1) (by decide) Tryz.underlying24 (by kernel_rfl) (by kernel_rfl) opensW_thr)
  obtain ⟨b4, e4⟩ := OpensW.field (F := n + 1) (o := 4) (i := 4) Tryz.underlying29 h hw hF rfl rfl rfl cells5 (opensW_of (opens_u8 Tryz.underlying5))
  obtain ⟨⟨c, p4, c4⟩, hk, e5⟩ := OpensW.field (F := n + 1) (o := 5) (i := 5) Tryz.underlying29 h hw hF rfl rfl rfl (cC 27 5 (by kernel_rfl)) (opensW_cnd (n + 1))
  refine ⟨⟨nm, l1, l2, l3.map (·.1), b4, c⟩, ⟨k0, k1.1, q1, k2.1, by rw [List.length_map]; exact k3.1, fun l hl => ?_⟩, p1, c1, p2, c2, p3, c3, p4, c4, ?_, row_of r1, row_of r2, ⟨l3, rfl, row_of r3, fun x hx => (q3 x hx).2⟩, hk, kc1⟩
  · obtain ⟨x, hx, rfl⟩ := List.mem_map.1 hl
    exact (q3 x hx).1
  · have h0 : cs = cs.drop 0 := rfl
    have h9 : cs.drop 10 = [] := List.drop_of_length_le (by omega)
    rw [h0, cut cs 0 1 1 rfl, cut cs 1 1 2 rfl, cut cs 2 1 3 rfl, cut cs 3 1 4 rfl, cut cs 4 1 5 rfl, cut cs 5 5 10 rfl, e0, e1, e2, e3, e4, e5, h9]
    simp [prgCells, cndCells]
theorem opens_geo : Opens enc Tryz.prog w base spare held 31 fun cs => ∃ g : Geo, cs = g.enc := fun fuel cs x h => by
  obtain ⟨xs, m, rfl, rfl, hl, hx, hel⟩ := DataW.trod_struct Tryz.underlying31 h
  rw [cC 31 5 (by kernel_rfl)] at hl
  obtain ⟨b0, e0⟩ := Opens.field (o := 0) (i := 0) hel hx rfl rfl (cC 3 1 (by kernel_rfl)) (opens_int Tryz.underlying3)
  obtain ⟨b1, e1⟩ := Opens.field (o := 1) (i := 1) hel hx rfl rfl (cC 3 1 (by kernel_rfl)) (opens_int Tryz.underlying3)
  obtain ⟨b2, e2⟩ := Opens.field (o := 2) (i := 2) hel hx rfl rfl (cC 3 1 (by kernel_rfl)) (opens_int Tryz.underlying3)
  obtain ⟨b3, e3⟩ := Opens.field (o := 3) (i := 3) hel hx rfl rfl (cC 3 1 (by kernel_rfl)) (opens_int Tryz.underlying3)
  obtain ⟨b4, e4⟩ := Opens.field (o := 4) (i := 4) hel hx rfl rfl (cC 3 1 (by kernel_rfl)) (opens_int Tryz.underlying3)
  refine ⟨⟨b0, b1, b2, b3, b4⟩, ?_⟩
  have h0 : cs = cs.drop 0 := rfl
  have h9 : cs.drop 5 = [] := List.drop_of_length_le (by omega)
  rw [h0, cut cs 0 1 1 rfl, cut cs 1 1 2 rfl, cut cs 2 1 3 rfl, cut cs 3 1 4 rfl, cut cs 4 1 5 rfl, e0, e1, e2, e3, e4, h9]
  rfl
theorem opens_rules : Opens enc Tryz.prog w base spare held 33 fun cs => ∃ m v : UInt8, cs[0]? = some (u8 m) ∧ cs[1]? = some (u8 v) := fun fuel cs x h => by
  obtain ⟨xs, m, rfl, rfl, hl, hx, hel⟩ := DataW.trod_struct Tryz.underlying33 h
  obtain ⟨b0, e0⟩ := Opens.field (o := 0) (i := 0) hel hx rfl rfl cells5 (opens_u8 Tryz.underlying5)
  obtain ⟨b1, e1⟩ := Opens.field (o := 1) (i := 1) hel hx rfl rfl cells5 (opens_u8 Tryz.underlying5)
  refine ⟨b0, b1, ?_, ?_⟩
  · have := congrArg (fun l => l[0]?) e0
    simpa using this
  · have := congrArg (fun l => l[0]?) e1
    simpa using this
theorem opensW_wld : OpensW enc Tryz.prog w base spare held F 44 fun cs => ∃ (p : Prg) (g : Geo) (md : UInt8), WldV w.heap.size w cs p g md := fun n hn cs x h hw => by
  have hF : n ≤ n + 1 := Nat.le_succ n
  have hl : cs.length = 585 := by
    obtain ⟨xs, m, _, _, hl, _, _⟩ := DataW.trod_struct Tryz.underlying44 h
    rw [cC 44 585 (by kernel_rfl)] at hl
    exact hl
  obtain ⟨p, hp⟩ := OpensW.field (F := n + 1) (o := 0) (i := 0) Tryz.underlying44 h hw hF rfl rfl rfl (cC 29 10 (by kernel_rfl)) opensW_prg
  obtain ⟨g, e1⟩ := OpensW.field (F := n + 1) (o := 10) (i := 1) Tryz.underlying44 h hw hF rfl rfl rfl (cC 31 5 (by kernel_rfl)) (opensW_of opens_geo)
  obtain ⟨mode, v, _, e2⟩ := OpensW.field (F := n + 1) (o := 15) (i := 2) Tryz.underlying44 h hw hF rfl rfl rfl (cC 33 5 (by kernel_rfl)) (opensW_of opens_rules)
  refine ⟨p, g, v, (cs.drop 0).take 10, cs.drop 15, ?_, hp, ?_, by rw [List.length_drop]; omega⟩
  · rw [← e1, ← cut cs 10 5 15 rfl, ← cut cs 0 10 10 rfl]; rfl
  · rw [List.getElem?_take, if_pos (by decide)] at e2
    exact e2
theorem open_wldv {a : Array Value} {d : DataW H} {p : List MemPlace} (h : DataW.Trod enc Tryz.prog w base spare held 44 (.agg a) d p) (hw : Wgt Tryz.prog 44 d) : ∃ (p : Prg) (g : Geo) (md : UInt8), WldV w.heap.size w a.toList p g md := by
  obtain ⟨fuel, h⟩ := h
  exact opensW_wld (F := fuel + 1) fuel (Nat.lt_succ_self _) _ _ h hw
end
end Go.Proofs.YthmddpoodknclaaGreatDoor
namespace Go.Proofs.YthmddpoodknclaaGreatDoor
open Go.Vc Go.RowKit Go.Sei
open Go.ChangeShapes Go.WideShapes Go.ChangeAt
set_option linter.unusedVariables false

theorem open_byte {P : Program} {w : World} {r : Reach} {base : Nat} {t : TypeId} {v : Value} (ht : P.underlying t = some (.int .u8)) (h : Value.okWide P w r base t v) : ∃ b : UInt8, v = u8 b := by
  unfold Value.okWide at h
  rw [ht] at h
  cases v with
  | int k n =>
    have h1 : k = .u8 ∧ IntKind.has .u8 n := by
      simp only [Cell.okWide, Cell.ok, ht] at h
      obtain ⟨rfl, h⟩ := h
      exact ⟨rfl, h⟩
    obtain ⟨rfl, h2⟩ := h1
    have h3 : 0 ≤ n ∧ n ≤ 255 := ⟨by have := h2.1; simpa [IntKind.min, IntKind.signed, IntKind.bits] using this, by have := h2.2; simpa [IntKind.max, IntKind.signed, IntKind.bits] using this⟩
    have e : ((UInt8.ofNat n.toNat).toNat : Int) = n := by
      rw [UInt8.toNat_ofNat']; omega
    exact ⟨UInt8.ofNat n.toNat, by rw [u8, e]⟩
  | _ => simp_all [Cell.okWide, Cell.ok]
abbrev seatLaid : List (String × DataW Unit) := [("seisin/geo.bounds", Rows.laid_seisin_geo_bounds), ("seisin/check.needs", Rows.laid_seisin_check_needs)]
theorem globt_of_laid {W : World} (h : laidMetH Tryz.prog seatLaid W) (hsh : W.ShapedOpen Tryz.prog) : GlobT W := by
  have h0 : laidMet Tryz.prog seatLaid W := h
  have h1 := h0.tail
  have bnd : Cells W ⟨1, 0, none⟩ (bndL.map i64) := by
    obtain ⟨ps, ⟨g', t', cs, fuel, p, q, hg', ht', hv, hd, _, _⟩, _⟩ := h0
    obtain rfl := Option.some.inj ((show Tryz.prog.globalNamed "seisin/geo.bounds" = some 1 by kernel_rfl).symm.trans hg')
    obtain rfl := Option.some.inj ((show (Tryz.prog.globals[1]?).map (·.type) = some 158 by kernel_rfl).symm.trans ht')
    obtain ⟨bs, h1, h2, h3⟩ := open_is Tryz.underlying158 Tryz.underlying3 (by kernel_rfl) (by kernel_rfl) hd
    have hbs : bs = bndL := by
      match bs, h1 with
      | [b0, b1, b2, b3, b4], _ =>
        simp only [Rows.laid_seisin_geo_bounds, List.map_cons, List.map_nil, DataW.agg.injEq, List.cons.injEq, DataW.lit.injEq, Lit.int.injEq, true_and, and_true] at h3
        simp only [bndL, List.cons.injEq, and_true]
        obtain ⟨a0, a1, a2, a3, a4⟩ := h3
        exact ⟨a0.symm, a1.symm, a2.symm, a3.symm, a4.symm⟩
    subst hbs
    refine cells_mk fun i v hvv => ?_
    have hc := World.var?_cell hg' hv i
    rw [← hvv, ← h2]
    simpa using hc
  have cls : Cells W ⟨0, 0, none⟩ (needL.map u8) := by
    obtain ⟨ps, ⟨g', t', cs, fuel, p, q, hg', ht', hv, hd, _, _⟩, _⟩ := h1
    obtain rfl := Option.some.inj ((show Tryz.prog.globalNamed "seisin/check.needs" = some 0 by kernel_rfl).symm.trans hg')
    obtain rfl := Option.some.inj ((show (Tryz.prog.globals[0]?).map (·.type) = some 149 by kernel_rfl).symm.trans ht')
    obtain ⟨bs, h1, h2, h3⟩ := open_u8s Tryz.underlying149 Tryz.underlying5 (by kernel_rfl) (by kernel_rfl) hd
    have hbs : bs = needL := by
      match bs, h1 with
      | [b0, b1, b2, b3, b4, b5, b6, b7, b8], _ =>
        simp only [Rows.laid_seisin_check_needs, List.map_cons, List.map_nil, DataW.agg.injEq, List.cons.injEq, DataW.lit.injEq, Lit.int.injEq, true_and, and_true] at h3
        simp only [needL, List.cons.injEq, and_true]
        obtain ⟨a0, a1, a2, a3, a4, a5, a6, a7, a8⟩ := h3
        refine ⟨?_, ?_, ?_, ?_, ?_, ?_, ?_, ?_, ?_⟩ <;> (apply UInt8.toNat_inj.1; simp; omega)
    subst hbs
    refine cells_mk fun i v hvv => ?_
    have hc := World.var?_cell hg' hv i
    rw [← hvv, ← h2]
    simpa using hc
  exact ⟨cls, bnd⟩

def lit1 : DataW Unit → List Value
  | .lit (.int k n) => [.int k n]
  | .lit (.string s) => [.string ⟨s.toArray⟩]
  | _ => []
def lit2 : DataW Unit → List Value
  | .agg ps => ps.flatMap lit1
  | x => lit1 x
def lit3 : DataW Unit → List Value
  | .agg ps => ps.flatMap lit2
  | x => lit1 x
def setG (h : Array Obj) (g : Nat) (cs : List Value) : Array Obj := h.modify g fun
  | .cells _ t frozen => .cells cs.toArray t frozen
  | o => o
def layH (h : Array Obj) : Array Obj :=
  let h1 := setG h 1 (lit3 Rows.laid_seisin_geo_bounds)
  setG h1 0 (lit3 Rows.laid_seisin_check_needs)
noncomputable def laidWorld (os : Os) : World :=
  { World.holding Tryz.prog os ⟨#[], #[], []⟩ with heap := layH (World.holding Tryz.prog os ⟨#[], #[], []⟩).heap }
theorem laidWorld_met (os : Os) (args : Array Value) : laidMetH Tryz.prog seatLaid ((laidWorld os).forCall (fun _ _ => 0) ⟨#[], args, []⟩).memory := by
  show laidMet Tryz.prog seatLaid _
  exact laidMet_of_run' 8 (by kernel_rfl) (by kernel_rfl)
end Go.Proofs.YthmddpoodknclaaGreatDoor
namespace Go.Proofs.YthmddpoodknclaaGreatDoor
open Go.Vc Go.RowKit Go.Sei
open Go.ChangeShapes Go.WideShapes Go.ChangeAt
set_option linter.unusedVariables false

theorem flat_flat {α β : Type} (f : α → List β) : ∀ l : List (List α), l.flatMap (fun x => x.flatMap f) = l.flatten.flatMap f
  | [] => rfl
  | a :: r => by rw [List.flatMap_cons, flat_flat f r, List.flatten_cons, List.flatMap_append]
def zeroCor : Cor := ⟨0, 0, 0, 0, 0, 0, 0, 0, 0, [], false, false⟩
def zeroLin : Lin := ⟨0, 0, 0, false, 0, 0, 0, 0⟩
def zeroNte : Nte := ⟨0, 0, 0, 0, 0, 0, 0⟩
def zeroCac : Cac := ⟨[], [], 0, 0, 0, 0⟩
def zeroH : Hom := eHom
theorem cells28 : Tryz.prog.cellsOf 52 = 4 := by kernel_rfl
theorem cells30 : Tryz.prog.cellsOf 60 = 11 := by kernel_rfl
section
variable {H : Type} {enc : TypeId × Value → H} {P : Program} {w : World} {base : Nat} {spare : Nat → Bool} {held : Bool} {fuel : Nat} {t e : TypeId} {cs : List Value} {x : DataW H × List MemPlace}
theorem opens_i8 (ht : P.underlying t = some (.int .i8)) : Opens enc P w base spare held t fun cs => ∃ b : UInt8, cs = [.int .i8 (s8 b)] := fun fuel cs x h => by
  obtain ⟨n, rfl, _, hw⟩ := DataW.trod_int ht h
  have hb : -128 ≤ n ∧ n ≤ 127 := by
    simp only [Lit.wf, decide_eq_true_eq, Bool.and_eq_true] at hw
    first
      | exact ⟨by simpa [IntKind.min, IntKind.signed, IntKind.bits] using hw.1, by simpa [IntKind.max, IntKind.signed, IntKind.bits] using hw.2⟩
      | (simp [IntKind.min, IntKind.max, IntKind.signed, IntKind.bits] at hw; omega)
  refine ⟨UInt8.ofNat (n % 256).toNat, ?_⟩
  have e : ((UInt8.ofNat (n % 256).toNat).toNat : Int) = n % 256 := by rw [UInt8.toNat_ofNat']; omega
  unfold s8
  split <;> (congr 2; omega)
end
section
variable {H : Type} {enc : TypeId × Value → H} {w : World} {base : Nat} {spare : Nat → Bool} {held : Bool} {fuel : Nat} {cs : List Value} {x : DataW H × List MemPlace}
set_option maxRecDepth 100000 in
theorem open_msg (h : DataW.trod enc Tryz.prog w base spare held fuel 60 cs = some x) : ∃ m : Msg, cs = m.enc := by
  obtain ⟨xs, n, rfl, rfl, hl, hx, hel⟩ := DataW.trod_struct Tryz.underlying60 h
  rw [cells30] at hl
  have hx : xs.length = 8 := hx
  have e0 : DataW.trod enc Tryz.prog w base spare held n 5 ((cs.drop 0).take (Tryz.prog.cellsOf 5)) = xs[0]? := hel 0 _ rfl
  have e1 : DataW.trod enc Tryz.prog w base spare held n 5 ((cs.drop 1).take (Tryz.prog.cellsOf 5)) = xs[1]? := hel 1 _ rfl
  have e2 : DataW.trod enc Tryz.prog w base spare held n 5 ((cs.drop 2).take (Tryz.prog.cellsOf 5)) = xs[2]? := hel 2 _ rfl
  have e3 : DataW.trod enc Tryz.prog w base spare held n 5 ((cs.drop 3).take (Tryz.prog.cellsOf 5)) = xs[3]? := hel 3 _ rfl
  have e4 : DataW.trod enc Tryz.prog w base spare held n 5 ((cs.drop 4).take (Tryz.prog.cellsOf 5)) = xs[4]? := hel 4 _ rfl
  have e5 : DataW.trod enc Tryz.prog w base spare held n 5 ((cs.drop 5).take (Tryz.prog.cellsOf 5)) = xs[5]? := hel 5 _ rfl
  have e6 : DataW.trod enc Tryz.prog w base spare held n 4 ((cs.drop 6).take (Tryz.prog.cellsOf 4)) = xs[6]? := hel 6 _ rfl
  have e7 : DataW.trod enc Tryz.prog w base spare held n 52 ((cs.drop 7).take (Tryz.prog.cellsOf 52)) = xs[7]? := hel 7 _ rfl
  rw [List.getElem?_eq_getElem (by omega)] at e0 e1 e2 e3 e4 e5 e6 e7
  rw [cells5] at e0 e1 e2 e3 e4 e5
  rw [cells4] at e6
  rw [cells28] at e7
  obtain ⟨b0, e0, _⟩ := open_u8 Tryz.underlying5 e0
  obtain ⟨b1, e1, _⟩ := open_u8 Tryz.underlying5 e1
  obtain ⟨b2, e2, _⟩ := open_u8 Tryz.underlying5 e2
  obtain ⟨b3, e3, _⟩ := open_u8 Tryz.underlying5 e3
  obtain ⟨b4, e4, _⟩ := open_u8 Tryz.underlying5 e4
  obtain ⟨b5, e5, _⟩ := open_u8 Tryz.underlying5 e5
  obtain ⟨b6, e6, _⟩ := DataW.trod_bool Tryz.underlying4 e6
  obtain ⟨bs, h7, e7, _⟩ := open_u8s Tryz.underlying52 Tryz.underlying5 cells5 cells28 e7
  match cs, hl with
  | [c0, c1, c2, c3, c4, c5, c6, c7, c8, c9, c10], _ =>
    match bs, h7 with
    | [d0, d1, d2, d3], _ =>
      simp at e0 e1 e2 e3 e4 e5 e6 e7
      obtain ⟨rfl, rfl, rfl, rfl⟩ := e7
      subst e0 e1 e2 e3 e4 e5 e6
      exact ⟨⟨b0, b1, b2, b3, b4, b5, b6, d0, d1, d2, d3⟩, rfl⟩

theorem open_msgv {a : Array Value} {d : DataW H} {p : List MemPlace} (h : DataW.Trod enc Tryz.prog w base spare held 60 (.agg a) d p) : ∃ m : Msg, Value.agg a = m.val := by
  obtain ⟨fuel, h⟩ := h
  obtain ⟨m, hm⟩ := open_msg h
  have : a.toList = m.enc := hm
  exact ⟨m, by unfold Msg.val; rw [← this]⟩
theorem open_bytes {v : Value} {p : List MemPlace} {d : DataW H} {a0 : Option Addr} {len0 cap0 : Nat} (hv : v = .slice a0 len0 cap0)
    (h : DataW.Trod enc Tryz.prog w base spare held 23 v d p) : ∃ l : List UInt8, l.length = len0 ∧ SlR byteE w a0 l := by
  subst hv
  obtain ⟨fuel, h⟩ := h
  rcases DataW.trod_slice Tryz.underlying23 h with ⟨hcs, _⟩ | ⟨a, len, cap, elems, rest, n, _, hcs, _, _, _, _, hlen, hel, _, _⟩
  · simp [Value.cells] at hcs
    obtain ⟨rfl, rfl, rfl⟩ := hcs
    exact ⟨[], rfl, .nil⟩
  · simp [Value.cells] at hcs
    obtain ⟨rfl, rfl, rfl⟩ := hcs
    have each : ∀ i, i < len0 → ∃ m : UInt8, (a.add (i * 1)).spot = none ∧ (a.add (i * 1)).block < w.heap.size ∧ Cells w ⟨(a.add (i * 1)).block, (a.add (i * 1)).off, none⟩ (byteE.enc m) := fun i hi => by
      have h1 := hel i hi
      rw [cells5, List.getElem?_eq_getElem (by omega), Option.bind_eq_some_iff] at h1
      obtain ⟨cs, h2, h3⟩ := h1
      obtain ⟨m, rfl, _⟩ := open_u8 Tryz.underlying5 h3
      exact ⟨m, cells_of_run (by decide) h2⟩
    by_cases h00 : len0 = 0
    · exact ⟨[], h00.symm, .nil⟩
    have hsp : a.spot = none := by
      obtain ⟨m, h3, _⟩ := each 0 (by omega)
      simpa [Addr.add] using h3
    obtain ⟨b, o, s⟩ := a
    dsimp only at hsp
    subst hsp
    have each : ∀ i, i < len0 → ∃ m : UInt8, b < w.heap.size ∧ Cells w ⟨b, o + i * 1, none⟩ (byteE.enc m) := fun i hi => by
      obtain ⟨m, _, h4, h5⟩ := each i hi
      rw [add_none] at h4 h5
      exact ⟨m, h4, h5⟩
    have all : ∀ k, k ≤ len0 → ∃ l : List UInt8, l.length = k ∧ ∀ i (h : i < l.length), Cells w ⟨b, o + i * 1, none⟩ (byteE.enc l[i]) := by
      intro k
      induction k with
      | zero => exact fun _ => ⟨[], rfl, fun i h => absurd h (by simp)⟩
      | succ k ih =>
        intro hk
        obtain ⟨l, h1, h2⟩ := ih (by omega)
        obtain ⟨m, _, h3⟩ := each k (by omega)
        refine ⟨l ++ [m], by simp [h1], fun i hi => ?_⟩
        by_cases hik : i < l.length
        · rw [List.getElem_append_left hik]; exact h2 i hik
        · have : i = k := by simp [h1] at hi; omega
          subst this
          rw [List.getElem_append_right (by omega)]
          simpa [h1] using h3
    obtain ⟨l, h1, h2⟩ := all len0 (Nat.le_refl _)
    refine ⟨l, h1, ?_⟩
    obtain ⟨m, h4, _⟩ := each 0 (by omega)
    exact .inr ⟨b, o, rfl, h4, h2⟩
theorem open_ints {v : Value} {p : List MemPlace} {d : DataW H} {a0 : Option Addr} {len0 cap0 : Nat} (hv : v = .slice a0 len0 cap0)
    (h : DataW.Trod enc Tryz.prog w base spare held 67 v d p) : ∃ l : List Int, l.length = len0 ∧ SlR Go.Sei.intE w a0 l := by
  subst hv
  obtain ⟨fuel, h⟩ := h
  rcases DataW.trod_slice Tryz.underlying67 h with ⟨hcs, _⟩ | ⟨a, len, cap, elems, rest, n, _, hcs, _, _, _, _, hlen, hel, _, _⟩
  · simp [Value.cells] at hcs
    obtain ⟨rfl, rfl, rfl⟩ := hcs
    exact ⟨[], rfl, .nil⟩
  · simp [Value.cells] at hcs
    obtain ⟨rfl, rfl, rfl⟩ := hcs
    have each : ∀ i, i < len0 → ∃ m : Int, (a.add (i * 1)).spot = none ∧ (a.add (i * 1)).block < w.heap.size ∧ Cells w ⟨(a.add (i * 1)).block, (a.add (i * 1)).off, none⟩ (Go.Sei.intE.enc m) := fun i hi => by
      have h1 := hel i hi
      rw [cC 3 1 (by kernel_rfl), List.getElem?_eq_getElem (by omega), Option.bind_eq_some_iff] at h1
      obtain ⟨cs, h2, h3⟩ := h1
      obtain ⟨m, rfl, _⟩ := open_i Tryz.underlying3 h3
      exact ⟨m, cells_of_run (by decide) h2⟩
    by_cases h00 : len0 = 0
    · exact ⟨[], h00.symm, .nil⟩
    have hsp : a.spot = none := by
      obtain ⟨m, h3, _⟩ := each 0 (by omega)
      simpa [Addr.add] using h3
    obtain ⟨b, o, s⟩ := a
    dsimp only at hsp
    subst hsp
    have each : ∀ i, i < len0 → ∃ m : Int, b < w.heap.size ∧ Cells w ⟨b, o + i * 1, none⟩ (Go.Sei.intE.enc m) := fun i hi => by
      obtain ⟨m, _, h4, h5⟩ := each i hi
      rw [add_none] at h4 h5
      exact ⟨m, h4, h5⟩
    have all : ∀ k, k ≤ len0 → ∃ l : List Int, l.length = k ∧ ∀ i (h : i < l.length), Cells w ⟨b, o + i * 1, none⟩ (Go.Sei.intE.enc l[i]) := by
      intro k
      induction k with
      | zero => exact fun _ => ⟨[], rfl, fun i h => absurd h (by simp)⟩
      | succ k ih =>
        intro hk
        obtain ⟨l, h1, h2⟩ := ih (by omega)
        obtain ⟨m, _, h3⟩ := each k (by omega)
        refine ⟨l ++ [m], by simp [h1], fun i hi => ?_⟩
        by_cases hik : i < l.length
        · rw [List.getElem_append_left hik]; exact h2 i hik
        · have : i = k := by simp [h1] at hi; omega
          subst this
          rw [List.getElem_append_right (by omega)]
          simpa [h1] using h3
    obtain ⟨l, h1, h2⟩ := all len0 (Nat.le_refl _)
    refine ⟨l, h1, ?_⟩
    obtain ⟨m, h4, _⟩ := each 0 (by omega)
    exact .inr ⟨b, o, rfl, h4, h2⟩
end
section
variable {H : Type} {enc : TypeId × Value → H} {w : World} {base : Nat} {spare : Nat → Bool} {held : Bool}
theorem opens_sto : Opens enc Tryz.prog w base spare held 125 fun cs => ∃ x : Sto, True ∧ cs = stoE.enc x := fun fuel cs x h => by
  obtain ⟨xs, m, rfl, rfl, hl, hx, hel⟩ := DataW.trod_struct Tryz.underlying125 h
  rw [cC 125 2 (by kernel_rfl)] at hl
  obtain ⟨b0, e0⟩ := Opens.field (o := 0) (i := 0) hel hx rfl rfl cells5 (opens_u8 Tryz.underlying5)
  obtain ⟨b1, e1⟩ := Opens.field (o := 1) (i := 1) hel hx rfl rfl cells5 (opens_u8 Tryz.underlying5)
  refine ⟨⟨b0, b1⟩, trivial, ?_⟩
  have h0 : cs = cs.drop 0 := rfl
  have h9 : cs.drop 2 = [] := List.drop_of_length_le (by omega)
  rw [h0, cut cs 0 1 1 rfl, cut cs 1 1 2 rfl, e0, e1, h9]
  rfl
theorem opens_lin : Opens enc Tryz.prog w base spare held 129 fun cs => ∃ x : Lin, True ∧ cs = linE.enc x := fun fuel cs x h => by
  obtain ⟨xs, m, rfl, rfl, hl, hx, hel⟩ := DataW.trod_struct Tryz.underlying129 h
  rw [cC 129 8 (by kernel_rfl)] at hl
  obtain ⟨b0, e0⟩ := Opens.field (o := 0) (i := 0) hel hx rfl rfl cells5 (opens_u8 Tryz.underlying5)
  obtain ⟨b1, e1⟩ := Opens.field (o := 1) (i := 1) hel hx rfl rfl cells5 (opens_u8 Tryz.underlying5)
  obtain ⟨b2, e2⟩ := Opens.field (o := 2) (i := 2) hel hx rfl rfl (cC 127 1 (by kernel_rfl)) (opens_i8 Tryz.underlying127)
  obtain ⟨b3, e3⟩ := Opens.field (o := 3) (i := 3) hel hx rfl rfl cells4 (opens_bool Tryz.underlying4)
  obtain ⟨bs, h4, e4⟩ := Opens.field (o := 4) (i := 4) hel hx rfl rfl cells28 (opens_u8s Tryz.underlying52 Tryz.underlying5 cells5 cells28)
  match bs, h4 with
  | [d0, d1, d2, d3], _ =>
  refine ⟨⟨b0, b1, b2, b3, d0, d1, d2, d3⟩, trivial, ?_⟩
  have h0 : cs = cs.drop 0 := rfl
  have h9 : cs.drop 8 = [] := List.drop_of_length_le (by omega)
  rw [h0, cut cs 0 1 1 rfl, cut cs 1 1 2 rfl, cut cs 2 1 3 rfl, cut cs 3 1 4 rfl, cut cs 4 4 8 rfl, e0, e1, e2, e3, e4, h9]
  rfl
theorem opens_nte : Opens enc Tryz.prog w base spare held 133 fun cs => ∃ x : Nte, True ∧ cs = nteE.enc x := fun fuel cs x h => by
  obtain ⟨xs, m, rfl, rfl, hl, hx, hel⟩ := DataW.trod_struct Tryz.underlying133 h
  rw [cC 133 7 (by kernel_rfl)] at hl
  obtain ⟨b0, e0⟩ := Opens.field (o := 0) (i := 0) hel hx rfl rfl cells5 (opens_u8 Tryz.underlying5)
  obtain ⟨b1, e1⟩ := Opens.field (o := 1) (i := 1) hel hx rfl rfl (cC 3 1 (by kernel_rfl)) (opens_int Tryz.underlying3)
  obtain ⟨bs, h4, e2⟩ := Opens.field (o := 2) (i := 2) hel hx rfl rfl (cC 51 4 (by kernel_rfl)) (opens_u8s Tryz.underlying51 Tryz.underlying5 cells5 (cC 51 4 (by kernel_rfl)))
  obtain ⟨b3, e3⟩ := Opens.field (o := 6) (i := 3) hel hx rfl rfl cells5 (opens_u8 Tryz.underlying5)
  match bs, h4 with
  | [d0, d1, d2, d3], _ =>
  refine ⟨⟨b0, b1, d0, d1, d2, d3, b3⟩, trivial, ?_⟩
  have h0 : cs = cs.drop 0 := rfl
  have h9 : cs.drop 7 = [] := List.drop_of_length_le (by omega)
  rw [h0, cut cs 0 1 1 rfl, cut cs 1 1 2 rfl, cut cs 2 4 6 rfl, cut cs 6 1 7 rfl, e0, e1, e2, e3, h9]
  rfl
theorem opens_op : Opens enc Tryz.prog w base spare held 64 fun cs => ∃ k l a b : UInt8, cs = [u8 k, u8 l, u8 a, u8 b] := fun fuel cs x h => by
  obtain ⟨xs, m, rfl, rfl, hl, hx, hel⟩ := DataW.trod_struct Tryz.underlying64 h
  rw [cC 64 4 (by kernel_rfl)] at hl
  obtain ⟨b0, e0⟩ := Opens.field (o := 0) (i := 0) hel hx rfl rfl cells5 (opens_u8 Tryz.underlying5)
  obtain ⟨b1, e1⟩ := Opens.field (o := 1) (i := 1) hel hx rfl rfl cells5 (opens_u8 Tryz.underlying5)
  obtain ⟨b2, e2⟩ := Opens.field (o := 2) (i := 2) hel hx rfl rfl cells5 (opens_u8 Tryz.underlying5)
  obtain ⟨b3, e3⟩ := Opens.field (o := 3) (i := 3) hel hx rfl rfl cells5 (opens_u8 Tryz.underlying5)
  refine ⟨b0, b1, b2, b3, ?_⟩
  have h0 : cs = cs.drop 0 := rfl
  have h9 : cs.drop 4 = [] := List.drop_of_length_le (by omega)
  rw [h0, cut cs 0 1 1 rfl, cut cs 1 1 2 rfl, cut cs 2 1 3 rfl, cut cs 3 1 4 rfl, e0, e1, e2, e3, h9]
  rfl
theorem opens_cac : Opens enc Tryz.prog w base spare held 136 fun cs => ∃ x : Cac, (x.ways.length = 16 ∧ x.notes.length = 4) ∧ cs = cacCells x := fun fuel cs x h => by
  obtain ⟨xs, m, rfl, rfl, hl, hx, hel⟩ := DataW.trod_struct Tryz.underlying136 h
  rw [cC 136 160 (by kernel_rfl)] at hl
  have row : Opens enc Tryz.prog w base spare held 130 fun cs => ∃ bs : List Lin, bs.length = 4 ∧ (∀ b ∈ bs, True) ∧ cs = bs.flatMap linE.enc := opens_arr zeroLin (sz := 8) Tryz.underlying130 (by kernel_rfl) (by kernel_rfl) opens_lin
  have ways := opens_arr (enc := enc) (w := w) (base := base) (spare := spare) (held := held) (β := List Lin) [] (f := fun bs => bs.flatMap linE.enc) (Q := fun bs => bs.length = 4) (n := 4) (sz := 32) Tryz.underlying131 (by kernel_rfl) (by kernel_rfl) (fun fuel cs x h => by
    obtain ⟨bs, h1, _, h2⟩ := row fuel cs x h
    exact ⟨bs, h1, h2⟩)
  obtain ⟨wss, w1, w2, e0⟩ := Opens.field (o := 0) (i := 0) hel hx rfl rfl (cC 131 128 (by kernel_rfl)) ways
  obtain ⟨ns, n1, _, e1⟩ := Opens.field (o := 128) (i := 1) hel hx rfl rfl (cC 134 28 (by kernel_rfl)) (opens_arr zeroNte (sz := 7) Tryz.underlying134 (by kernel_rfl) (by kernel_rfl) opens_nte)
  obtain ⟨k, l, a, b, e2⟩ := Opens.field (o := 156) (i := 2) hel hx rfl rfl (cC 64 4 (by kernel_rfl)) opens_op
  have hfl : wss.flatten.length = 16 := by
    match wss, w1 with
    | [a, b, c, d], _ =>
      have := w2 a (by simp); have := w2 b (by simp); have := w2 c (by simp); have := w2 d (by simp)
      simp only [List.flatten_cons, List.flatten_nil, List.length_append, List.length_nil]; omega
  refine ⟨⟨wss.flatten, ns, k, l, a, b⟩, ⟨hfl, n1⟩, ?_⟩
  have h0 : cs = cs.drop 0 := rfl
  have h9 : cs.drop 160 = [] := List.drop_of_length_le (by omega)
  rw [h0, cut cs 0 128 128 rfl, cut cs 128 28 156 rfl, cut cs 156 4 160 rfl, e0, e1, e2, h9, flat_flat]
  simp [cacCells, opCells]
theorem opens_view : Opens enc Tryz.prog w base spare held 50 fun cs => ∃ (k : UInt8) (n : Nat) (b : Bool), n < 18446744073709551616 ∧ cs = [u8 k, .int .u64 (n : Int), .bool b] := fun fuel cs x h => by
  obtain ⟨xs, m, rfl, rfl, hl, hx, hel⟩ := DataW.trod_struct Tryz.underlying50 h
  rw [cC 50 3 (by kernel_rfl)] at hl
  obtain ⟨b0, e0⟩ := Opens.field (o := 0) (i := 0) hel hx rfl rfl cells5 (opens_u8 Tryz.underlying5)
  obtain ⟨n, hn, e1⟩ := Opens.field (o := 1) (i := 1) hel hx rfl rfl (cC 48 1 (by kernel_rfl)) (opens_u64 Tryz.underlying48)
  obtain ⟨b2, e2⟩ := Opens.field (o := 2) (i := 2) hel hx rfl rfl cells4 (opens_bool Tryz.underlying4)
  refine ⟨b0, n, b2, hn, ?_⟩
  have h0 : cs = cs.drop 0 := rfl
  have h9 : cs.drop 3 = [] := List.drop_of_length_le (by omega)
  rw [h0, cut cs 0 1 1 rfl, cut cs 1 1 2 rfl, cut cs 2 1 3 rfl, e0, e1, e2, h9]
  rfl
theorem opens_hom : Opens enc Tryz.prog w base spare held 54 fun cs => ∃ x : Hom, True ∧ cs = homE.enc x := fun fuel cs x h => by
  obtain ⟨xs, m, rfl, rfl, hl, hx, hel⟩ := DataW.trod_struct Tryz.underlying54 h
  rw [cC 54 11 (by kernel_rfl)] at hl
  obtain ⟨b0, e0⟩ := Opens.field (o := 0) (i := 0) hel hx rfl rfl cells5 (opens_u8 Tryz.underlying5)
  obtain ⟨b1, e1⟩ := Opens.field (o := 1) (i := 1) hel hx rfl rfl cells5 (opens_u8 Tryz.underlying5)
  obtain ⟨k, n, al, hn, e2⟩ := Opens.field (o := 2) (i := 2) hel hx rfl rfl (cC 50 3 (by kernel_rfl)) opens_view
  obtain ⟨b3, e3⟩ := Opens.field (o := 5) (i := 3) hel hx rfl rfl cells5 (opens_u8 Tryz.underlying5)
  obtain ⟨b4, e4⟩ := Opens.field (o := 6) (i := 4) hel hx rfl rfl cells5 (opens_u8 Tryz.underlying5)
  obtain ⟨bs, h4, e5⟩ := Opens.field (o := 7) (i := 5) hel hx rfl rfl cells28 (opens_u8s Tryz.underlying52 Tryz.underlying5 cells5 cells28)
  match bs, h4 with
  | [d0, d1, d2, d3], _ =>
  have by8 : ∀ k : Nat, (UInt8.ofNat (k % 256)).toNat = k % 256 := fun k => by rw [UInt8.toNat_ofNat']; omega
  refine ⟨⟨b0, b1, k, UInt8.ofNat (n % 256), UInt8.ofNat (n / 256 % 256), UInt8.ofNat (n / 65536 % 256), UInt8.ofNat (n / 16777216 % 256), UInt8.ofNat (n / 4294967296 % 256), UInt8.ofNat (n / 1099511627776 % 256), UInt8.ofNat (n / 281474976710656 % 256), UInt8.ofNat (n / 72057594037927936 % 256), al, b3, b4, d0, d1, d2, d3⟩, trivial, ?_⟩
  have h0 : cs = cs.drop 0 := rfl
  have h9 : cs.drop 11 = [] := List.drop_of_length_le (by omega)
  rw [h0, cut cs 0 1 1 rfl, cut cs 1 1 2 rfl, cut cs 2 3 5 rfl, cut cs 5 1 6 rfl, cut cs 6 1 7 rfl, cut cs 7 4 11 rfl, e0, e1, e2, e3, e4, e5, h9]
  have e : leM ⟨b0, b1, k, UInt8.ofNat (n % 256), UInt8.ofNat (n / 256 % 256), UInt8.ofNat (n / 65536 % 256), UInt8.ofNat (n / 16777216 % 256), UInt8.ofNat (n / 4294967296 % 256), UInt8.ofNat (n / 1099511627776 % 256), UInt8.ofNat (n / 281474976710656 % 256), UInt8.ofNat (n / 72057594037927936 % 256), al, b3, b4, d0, d1, d2, d3⟩ = n := by
    unfold leM
    simp only [by8]
    omega
  simp only [homE, e]
  rfl
theorem opens_core : Opens enc Tryz.prog w base spare held 99 fun cs => ∃ x : Cor × Option Addr × Nat, (x.1.buf.length ≤ 9223372036854775807 ∧ RowB stoE w.heap.size w x.2.1 x.1.buf) ∧ cs = corCells x.1 (.slice x.2.1 x.1.buf.length x.2.2) := fun fuel cs x h => by
  obtain ⟨xs, m, rfl, rfl, hl, hx, hel⟩ := DataW.trod_struct Tryz.underlying99 h
  rw [cC 99 12 (by kernel_rfl)] at hl
  obtain ⟨b0, e0⟩ := Opens.field (o := 0) (i := 0) hel hx rfl rfl cells5 (opens_u8 Tryz.underlying5)
  obtain ⟨bs, h8, e1⟩ := Opens.field (o := 1) (i := 1) hel hx rfl rfl (cC 96 8 (by kernel_rfl)) (opens_u8s Tryz.underlying96 Tryz.underlying5 cells5 (cC 96 8 (by kernel_rfl)))
  obtain ⟨p, cap, l, e2, hlen, _, _, b, o, hp, hc⟩ := Opens.field (o := 9) (i := 2) hel hx rfl rfl (cC 97 1 (by kernel_rfl)) (opens_sl (⟨0, 0⟩ : Sto) (sz := 2) (by decide) Tryz.underlying97 (by kernel_rfl) opens_sto)
  obtain ⟨b3, e3⟩ := Opens.field (o := 10) (i := 3) hel hx rfl rfl cells4 (opens_bool Tryz.underlying4)
  obtain ⟨b4, e4⟩ := Opens.field (o := 11) (i := 4) hel hx rfl rfl cells4 (opens_bool Tryz.underlying4)
  match bs, h8 with
  | [r0, r1, r2, r3, r4, r5, r6, r7], _ =>
  refine ⟨(⟨b0, r0, r1, r2, r3, r4, r5, r6, r7, l, b3, b4⟩, p, cap), ⟨hlen, ?_⟩, ?_⟩
  · rcases hp with hp | rfl
    · exact .inl (List.eq_nil_of_length_eq_zero hp)
    · by_cases h0 : l = []
      · exact .inl h0
      · have hl0 : 0 < l.length := List.length_pos_iff.2 h0
        have hlt := (hc 0 hl0).1
        exact RowB.of_slr (.inr ⟨b, o, rfl, hlt, fun i hi => (hc i hi).2⟩)
  · have h0 : cs = cs.drop 0 := rfl
    have h9 : cs.drop 12 = [] := List.drop_of_length_le (by omega)
    rw [h0, cut cs 0 1 1 rfl, cut cs 1 8 9 rfl, cut cs 9 1 10 rfl, cut cs 10 1 11 rfl, cut cs 11 1 12 rfl, e0, e1, e2, e3, e4, h9]
    rfl
/-- The bounds of what was read. -/
structure LensOk (s : Sy) : Prop where
  c : s.cores.length ≤ 9223372036854775807
theorem opens_sys : Opens enc Tryz.prog w base spare held 58 fun cs => ∃ s : Sy, SysV w.heap.size w cs s ∧ LensOk s := fun fuel cs x h => by
  obtain ⟨xs, m, rfl, rfl, hl, hx, hel⟩ := DataW.trod_struct Tryz.underlying58 h
  rw [cC 58 69 (by kernel_rfl)] at hl
  obtain ⟨p0, c0, l0, e0, k0, _, q0, b0, o0, hp0, hc0⟩ := Opens.field (o := 0) (i := 0) hel hx rfl rfl (cC 45 1 (by kernel_rfl)) (opens_sl ((zeroCor, none, 0) : Cor × Option Addr × Nat) (f := fun x => corCells x.1 (.slice x.2.1 x.1.buf.length x.2.2)) (sz := 12) (by decide) Tryz.underlying45 (by kernel_rfl) opens_core)
  obtain ⟨p1, c1, l1, e1, k1, _, q1, b1, o1, hp1, hc1⟩ := Opens.field (o := 1) (i := 1) hel hx rfl rfl (cC 46 1 (by kernel_rfl)) (opens_sl zeroCac (sz := 160) (by decide) Tryz.underlying46 (by kernel_rfl) opens_cac)
  obtain ⟨hs, h6, _, e2⟩ := Opens.field (o := 2) (i := 2) hel hx rfl rfl (cC 55 66 (by kernel_rfl)) (opens_arr zeroH (sz := 11) Tryz.underlying55 (by kernel_rfl) (by kernel_rfl) opens_hom)
  obtain ⟨p3, c3, l3, e3, k3, hn3, q3, b3, o3, hp3, hc3⟩ := Opens.field (o := 68) (i := 3) hel hx rfl rfl (cC 56 1 (by kernel_rfl)) (opens_sl (⟨0, 0, 0, 0, 0, 0, false, 0, 0, 0, 0⟩ : Msg) (f := Msg.enc) (Q := fun _ => True) (sz := 11) (by decide) Tryz.underlying56 (by kernel_rfl) (fun fuel cs x h => by
    obtain ⟨m, hm⟩ := open_msg h
    exact ⟨m, trivial, hm⟩))
  refine ⟨⟨l0.map (·.1), l1, hs, l3⟩, ⟨⟨p0, c0, p1, c1, p3, c3, ?_, ⟨b0, o0, by simpa using hp0, fun i hi => ?_⟩, ⟨b1, o1, hp1, fun i hi => ?_⟩, ?_, hn3⟩, h6⟩, ⟨by simpa using k0⟩⟩
  · have h0 : cs = cs.drop 0 := rfl
    have h9 : cs.drop 69 = [] := List.drop_of_length_le (by omega)
    rw [h0, cut cs 0 1 1 rfl, cut cs 1 1 2 rfl, cut cs 2 66 68 rfl, cut cs 68 1 69 rfl, e0, e1, e2, e3, h9]
    simp
  · simp only [List.length_map] at hi
    obtain ⟨g1, g2⟩ := hc0 i hi
    obtain ⟨_, g3⟩ := q0 _ (List.getElem_mem hi)
    simp only [List.getElem_map]
    exact ⟨l0[i].2.1, l0[i].2.2, g1, g2, g3⟩
  · obtain ⟨g1, g2⟩ := hc1 i hi
    obtain ⟨g3, g4⟩ := q1 _ (List.getElem_mem hi)
    exact ⟨g1, g2, g3, g4⟩
  · rcases hp3 with hp | rfl
    · exact .inl (List.eq_nil_of_length_eq_zero hp)
    · by_cases h0 : l3 = []
      · exact .inl h0
      · have hl0 : 0 < l3.length := List.length_pos_iff.2 h0
        have hlt := (hc3 0 hl0).1
        exact RowB.of_slr (E := Msg.E) (.inr ⟨b3, o3, rfl, hlt, fun i hi => (hc3 i hi).2⟩)
theorem open_sysv {a : Array Value} {d : DataW H} {p : List MemPlace} (h : DataW.Trod enc Tryz.prog w base spare held 58 (.agg a) d p) : ∃ s : Sy, SysV w.heap.size w a.toList s ∧ LensOk s := by
  obtain ⟨fuel, h⟩ := h
  exact opens_sys _ _ _ h
theorem lens_sys {a : Array Value} {d : DataW H} {p : List MemPlace} {s : Sy} (h : DataW.Trod enc Tryz.prog w base spare held 58 (.agg a) d p) (hw : Wgt Tryz.prog 58 d) (hS : SysV w.heap.size w a.toList s) : Lens s := by
  obtain ⟨fuel, h⟩ := h
  obtain ⟨⟨p1, c1, p2, c2, p3, c3, hvs, hco, hca, hne, hnil⟩, h6⟩ := hS
  have hH : (s.homes.flatMap homE.enc).length = 66 := by rw [flat_len, h6]; rfl
  have hcs : (Value.agg a).cells.toList = a.toList := rfl
  rw [hcs, hvs] at h
  have k3 : List.take 1 (List.drop 68 (Value.slice p1 s.cores.length c1 :: .slice p2 s.caches.length c2 :: (s.homes.flatMap homE.enc ++ [.slice p3 s.net.length c3]))) = [.slice p3 s.net.length c3] := by
    show List.take 1 (List.drop 66 (s.homes.flatMap homE.enc ++ [.slice p3 s.net.length c3])) = _
    rw [List.drop_append, List.drop_of_length_le (by omega), hH]; rfl
  obtain ⟨n0, y0, e0, w0⟩ := wgt_field (i := 0) (vs := [.slice p1 s.cores.length c1]) Tryz.underlying58 h hw rfl rfl rfl (cC 45 1 (by kernel_rfl)) rfl
  obtain ⟨n1, y1, e1, w1⟩ := wgt_field (i := 1) (vs := [.slice p2 s.caches.length c2]) Tryz.underlying58 h hw rfl rfl rfl (cC 46 1 (by kernel_rfl)) rfl
  obtain ⟨n3, y3, e3, w3⟩ := wgt_field (i := 3) Tryz.underlying58 h hw rfl rfl rfl (cC 56 1 (by kernel_rfl)) k3
  obtain ⟨l0, el0⟩ := wgt_slice Tryz.underlying45 e0 w0 (by kernel_rfl)
  obtain ⟨l1, _⟩ := wgt_slice Tryz.underlying46 e1 w1 (by kernel_rfl)
  obtain ⟨l3, _⟩ := wgt_slice Tryz.underlying56 e3 w3 (by kernel_rfl)
  refine ⟨l0, l1, l3, fun c hc => ?_⟩
  obtain ⟨i, hi, rfl⟩ := List.getElem_of_mem hc
  obtain ⟨aa, cs, n, y, rfl, hcr, htr, hwt⟩ := el0 i hi
  obtain ⟨b, o, hp, hat⟩ := hco
  obtain ⟨q, qc, _, hcb, _⟩ := hat i hi
  rcases hp with hp | hp
  · omega
  simp only [Option.some.injEq] at hp
  subst hp
  rw [cC 99 12 (by kernel_rfl), add_none] at hcr
  obtain ⟨_, _, hcc⟩ := cells_of_run (by decide) hcr
  obtain ⟨_, hcl, _⟩ := World.cells?_some hcr
  have h9 : 9 < cs.length := by omega
  have e9 : cs[9] = .slice q s.cores[i].buf.length qc := by
    have g1 := cells_at hcc (i := 9) (List.getElem?_eq_getElem h9)
    have g2 := cells_at hcb (i := 9) (v := .slice q s.cores[i].buf.length qc) rfl
    exact Option.some.inj (g1.symm.trans g2)
  have k4 : List.take 1 (List.drop 9 cs) = [.slice q s.cores[i].buf.length qc] := by
    rw [List.drop_eq_getElem_cons h9, e9]; rfl
  obtain ⟨n4, y4, e4, w4⟩ := wgt_field (i := 2) Tryz.underlying99 htr hwt rfl rfl rfl (cC 97 1 (by kernel_rfl)) k4
  exact (wgt_slice Tryz.underlying97 e4 w4 (by kernel_rfl)).1
end
end Go.Proofs.YthmddpoodknclaaGreatDoor
namespace Go.Proofs.YthmddpoodknclaaGreatDoor
open Go.Vc Go.RowKit Go.Sei
open Go.ChangeShapes Go.WideShapes Go.ChangeAt
set_option linter.unusedVariables false

section
variable {H : Type} {enc : TypeId × Value → H} {w : World} {base : Nat} {spare : Nat → Bool} {held : Bool}
theorem open_viewv {a : Array Value} {d : DataW H} {p : List MemPlace} (h : DataW.Trod enc Tryz.prog w base spare held 50 (.agg a) d p) : ∃ (kd : UInt8) (mk : Nat) (al : Bool), mk < 2 ^ 64 ∧ Value.agg a = .agg (viewC kd mk al).toArray := by
  obtain ⟨fuel, h⟩ := h
  obtain ⟨k, n, b, hn, hc⟩ := opens_view _ _ _ h
  have : a.toList = [u8 k, .int .u64 (n : Int), .bool b] := hc
  exact ⟨k, n, b, hn, by unfold viewC; rw [← this]⟩
end
end Go.Proofs.YthmddpoodknclaaGreatDoor
namespace Go.Proofs.YthmddpoodknclaaGreatDoor
open Go.Vc Go.RowKit Go.Sei
open Go.ChangeShapes Go.WideShapes Go.ChangeAt
set_option linter.unusedVariables false

section
variable {H : Type} {enc : TypeId × Value → H} {w : World} {base : Nat} {spare : Nat → Bool} {held : Bool}
theorem opens_perf : Opens enc Tryz.prog w base spare held 66 fun cs => ∃ x : PfD, cs = x.enc := fun fuel cs x h => by
  obtain ⟨xs, m, rfl, rfl, hl, hx, hel⟩ := DataW.trod_struct Tryz.underlying66 h
  rw [cC 66 7 (by kernel_rfl)] at hl
  obtain ⟨b0, e0⟩ := Opens.field (o := 0) (i := 0) hel hx rfl rfl cells5 (opens_u8 Tryz.underlying5)
  obtain ⟨k, l, a1, b1, e1⟩ := Opens.field (o := 1) (i := 1) hel hx rfl rfl (cC 64 4 (by kernel_rfl)) opens_op
  obtain ⟨b2, e2⟩ := Opens.field (o := 5) (i := 2) hel hx rfl rfl cells5 (opens_u8 Tryz.underlying5)
  obtain ⟨b3, e3⟩ := Opens.field (o := 6) (i := 3) hel hx rfl rfl cells5 (opens_u8 Tryz.underlying5)
  refine ⟨⟨b0, k, l, a1, b1, b2, b3⟩, ?_⟩
  have h0 : cs = cs.drop 0 := rfl
  have h9 : cs.drop 7 = [] := List.drop_of_length_le (by omega)
  rw [h0, cut cs 0 1 1 rfl, cut cs 1 4 5 rfl, cut cs 5 1 6 rfl, cut cs 6 1 7 rfl, e0, e1, e2, e3, h9]
  rfl
theorem open_perfv {a : Array Value} {d : DataW H} {p : List MemPlace} (h : DataW.Trod enc Tryz.prog w base spare held 66 (.agg a) d p) : ∃ x : PfD, Value.agg a = .agg x.enc.toArray := by
  obtain ⟨fuel, h⟩ := h
  obtain ⟨x, hc⟩ := opens_perf _ _ _ h
  have : a.toList = x.enc := hc
  exact ⟨x, by rw [← this]⟩
end
end Go.Proofs.YthmddpoodknclaaGreatDoor
namespace Go.Proofs.YthmddpoodknclaaGreatDoor
open Go.Vc Go.RowKit Go.Sei
open Go.ChangeShapes Go.WideShapes Go.ChangeAt
set_option linter.unusedVariables false

section
variable {H : Type} {enc : TypeId × Value → H} {w : World} {base : Nat} {spare : Nat → Bool} {held : Bool}
theorem opens_msgE : Opens enc Tryz.prog w base spare held 60 fun cs => ∃ m : Msg, cs = m.enc := fun fuel cs x h => open_msg h
theorem opens_step : Opens enc Tryz.prog w base spare held 62 fun cs => ∃ x : StD, cs = x.enc := fun fuel cs x h => by
  obtain ⟨xs, m, rfl, rfl, hl, hx, hel⟩ := DataW.trod_struct Tryz.underlying62 h
  rw [cC 62 14 (by kernel_rfl)] at hl
  obtain ⟨b0, e0⟩ := Opens.field (o := 0) (i := 0) hel hx rfl rfl cells5 (opens_u8 Tryz.underlying5)
  obtain ⟨b1, e1⟩ := Opens.field (o := 1) (i := 1) hel hx rfl rfl cells5 (opens_u8 Tryz.underlying5)
  obtain ⟨b2, e2⟩ := Opens.field (o := 2) (i := 2) hel hx rfl rfl cells5 (opens_u8 Tryz.underlying5)
  obtain ⟨m1, e3⟩ := Opens.field (o := 3) (i := 3) hel hx rfl rfl cells30 opens_msgE
  refine ⟨⟨b0, b1, b2, m1⟩, ?_⟩
  have h0 : cs = cs.drop 0 := rfl
  have h9 : cs.drop 14 = [] := List.drop_of_length_le (by omega)
  rw [h0, cut cs 0 1 1 rfl, cut cs 1 1 2 rfl, cut cs 2 1 3 rfl, cut cs 3 11 14 rfl, e0, e1, e2, e3, h9, List.append_nil]
  rfl
theorem open_stepv {a : Array Value} {d : DataW H} {p : List MemPlace} (h : DataW.Trod enc Tryz.prog w base spare held 62 (.agg a) d p) : ∃ x : StD, Value.agg a = .agg x.enc.toArray := by
  obtain ⟨fuel, h⟩ := h
  obtain ⟨x, hc⟩ := opens_step _ _ _ h
  have : a.toList = x.enc := hc
  exact ⟨x, by rw [← this]⟩
end
end Go.Proofs.YthmddpoodknclaaGreatDoor
