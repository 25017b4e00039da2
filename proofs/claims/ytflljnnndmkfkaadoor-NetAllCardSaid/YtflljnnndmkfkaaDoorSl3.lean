/- Contracts: Send, Take, Pick, Count at messages. -/
import Derived.Test.YtflljnnndmkfkaaDoorSl2
namespace Go.Proofs.YtflljnnndmkfkaaDoor
open Go.Vc Go.RowKit Go.Sei

theorem own_weaken {B B' cap : Nat} {w : World} {p : Option Addr} {l : List Msg} (h : OwnS Msg.E 30 B w p cap l) (hB : B' ≤ B) : OwnS Msg.E 30 B' w p cap l := by
  obtain ⟨h1, h2⟩ := h
  refine ⟨h1, h2.imp id ?_⟩
  rintro ⟨g, c, cur, e1, e2, rest⟩
  exact ⟨g, c, cur, e1, by omega, rest⟩

theorem Send_c (p1 p2 : Option Addr) (cap1 cap2 : Nat) (l1 l2 : List Msg) (w : World) (h1 : SlR Msg.E w p1 l1) (h2 : SlR Msg.E w p2 l2) (k1 : p1 = none → cap1 = 0) (k2 : p2 = none → cap2 = 0) (hn : l1.length + l2.length ≤ 1000000000) :
    Calls Tryd.prog 14 #[.slice p1 l1.length cap1, .slice p2 l2.length cap2] w fun e w' => ∃ p cap, e = .returned (.slice p (l1 ++ l2).length cap) ∧ OwnS Msg.E 30 w.heap.size w' p cap (l1 ++ l2) ∧ Below w.heap.size w w' := by
  refine calls_of_E (S := sg 9) (sgOk _) (args := [.slice p1 l1.length cap1, .slice p2 l2.length cap2]) Tryd.func14 rfl rfl (Nat.le_of_ble_eq_true rfl) rfl ?_
  refine ⟨⟨by decide, by decide, rfl⟩, [.slice p1 l1.length cap1, .slice p2 l2.length cap2], rfl, ?_⟩
  have hb : Below w.heap.size w (w.alloc (.cells #[.slice p1 l1.length cap1, .slice p2 l2.length cap2] 22)) := (Below.refl _ _).alloc (Nat.le_refl _) _
  have ht : total [⟨p1, cap1, l1⟩, ⟨p2, cap2, l2⟩] = l1 ++ l2 := by simp [total]
  refine Calls.mono (Concat_c (some ⟨w.heap.size, 0, none⟩) 2 [⟨p1, cap1, l1⟩, ⟨p2, cap2, l2⟩] _ (SlR.of_cells (by simp) cells_new) (fun q hq => ?_) (by rw [ht]; simpa using hn) (by simp)) ?_
  · simp only [List.mem_cons, List.not_mem_nil, or_false] at hq
    rcases hq with rfl | rfl
    · exact ⟨h1.below hb, k1⟩
    · exact ⟨h2.below hb, k2⟩
  · rintro e w' ⟨p, cap, rfl, ho, hb2⟩
    rw [ht] at ho ⊢
    exact ⟨p, cap, rfl, by
      obtain ⟨h1, h2⟩ := ho
      refine ⟨h1, h2.imp id ?_⟩
      rintro ⟨g, c, cur, e1, e2, rest⟩
      exact ⟨g, c, cur, e1, by simp at e2; omega, rest⟩, hb.trans (hb2.mono hb.size)⟩

theorem Pick_c (x : Int) (n : Nat) (hn : 0 < n) (hn2 : n ≤ 1000000000) (w : World) :
    Calls Tryd.prog 15 #[.int .i64 x, .int .i64 n] w fun e w' => ∃ k : Nat, k < n ∧ e = .returned (.int .i64 k) ∧ w' = w := by
  refine calls_of_E (S := sg 16) (sgOk _) (args := [.int .i64 x, .int .i64 n]) Tryd.func15 rfl rfl (Nat.le_of_ble_eq_true rfl) rfl ?_
  refine And.intro (fun h => ?_) (fun _ => ?_)
  · have := of_decide_eq_true h
    omega
  have hb : (x.tmod n).natAbs < n := by
    rw [Int.natAbs_tmod]; exact Nat.mod_lt _ (by omega)
  refine And.intro (by omega) ⟨_, rfl, ?_⟩
  refine And.intro (fun h => ?_) (fun h => ?_)
  · have h : x.tmod n < 0 := of_decide_eq_true h
    refine ⟨((x.tmod n + n).toNat : Nat), (wrap_i64 (by omega)).trans (by omega), ?_⟩
    exact ⟨(x.tmod n + n).toNat, by omega, rfl, rfl⟩
  · have h : ¬ x.tmod n < 0 := of_decide_eq_false h
    exact ⟨(x.tmod n).toNat, by omega, by
      have e : ((x.tmod n).toNat : Int) = x.tmod n := by omega
      rw [e]; rfl, rfl⟩

theorem take_ok_c (p : Option Addr) (cap : Nat) (l : List Msg) (k : Nat) (hk : k < l.length) (w : World) (hl : SlR Msg.E w p l) (hc : l.length ≤ cap) (hn : l.length ≤ 1000000000) :
    Calls Tryd.prog 13 #[.slice p l.length cap, .int .i64 k] w fun e w' => ∃ p' cap', e = .returned (.tuple #[.slice p' (l.eraseIdx k).length cap', l[k].val, .int .i64 0]) ∧ OwnS Msg.E 30 w.heap.size w' p' cap' (l.eraseIdx k) ∧ Below w.heap.size w w' := by
  refine calls_of_E (S := sg 29) (sgOk _) (args := [.slice p l.length cap, .int .i64 k]) Tryd.func13 rfl rfl (Nat.le_of_ble_eq_true rfl) rfl ?_
  refine And.intro (fun h => ?_) (fun _ => ?_)
  · have := of_decide_eq_true h
    omega
  refine And.intro (fun h => ?_) (fun _ => ?_)
  · have := of_decide_eq_true h
    omega
  refine DrawE.ord [14] [0, 1, 2, 3, 4, 5, 6, 9, 10, 11, 12, 7, 8, 13, 14, 15] (by kernel_rfl) ?_
  refine ⟨k, rfl, by omega, ?_⟩
  refine ⟨(k + 1 : Nat), (wrap_i64 (by omega)).trans (by omega), ?_⟩
  refine ⟨k + 1, rfl, by omega, ?_⟩
  have hb0 : Below w.heap.size w (w.alloc (.cells #[.int .u8 0, .int .u8 0, .int .u8 0, .int .u8 0, .int .u8 0, .int .u8 0, .bool false, .int .u8 0, .int .u8 0, .int .u8 0, .int .u8 0] 30)) := (Below.refl _ _).alloc (Nat.le_refl _) _
  obtain ⟨b, o, e, hb, hcl⟩ := (hl.below hb0.drew).at hk
  subst e
  refine ⟨k, rfl, hk, ?_⟩
  refine ⟨l[k].enc, rfl, hcl k hk, hb, ?_⟩
  obtain ⟨W1, hW1⟩ : ∃ W1, W1 = (w.alloc (.cells #[.int .u8 0, .int .u8 0, .int .u8 0, .int .u8 0, .int .u8 0, .int .u8 0, .bool false, .int .u8 0, .int .u8 0, .int .u8 0, .int .u8 0] 30)).drew := ⟨_, rfl⟩
  have hbW : Below w.heap.size w W1 := hW1 ▸ hb0.drew
  have hbox : W1.heap[w.heap.size]? = some (.cells #[.int .u8 0, .int .u8 0, .int .u8 0, .int .u8 0, .int .u8 0, .int .u8 0, .bool false, .int .u8 0, .int .u8 0, .int .u8 0, .int .u8 0] 30 (0, 0)) := by
    rw [hW1]; exact hdr (hnew w _)
  have hlW := hl.below hbW
  rw [← hW1]
  obtain ⟨q1, hq1⟩ : ∃ q1 : Part, q1 = ⟨cutBase (some ⟨b, o, none⟩) cap 0 11, cap - 0, (l.drop 0).take (k - 0)⟩ := ⟨_, rfl⟩
  obtain ⟨q2, hq2⟩ : ∃ q2 : Part, q2 = ⟨cutBase (some ⟨b, o, none⟩) cap (k + 1) 11, cap - (k + 1), (l.drop (k + 1)).take (l.length - (k + 1))⟩ := ⟨_, rfl⟩
  have hv1 : q1.val = .slice (cutBase (some ⟨b, o, none⟩) cap 0 11) (k - 0) (cap - 0) := by
    rw [hq1]; simp only [Part.val, List.length_take, List.length_drop]; congr 1; omega
  have hv2 : q2.val = .slice (cutBase (some ⟨b, o, none⟩) cap (k + 1) 11) (l.length - (k + 1)) (cap - (k + 1)) := by
    rw [hq2]; simp only [Part.val, List.length_take, List.length_drop]; congr 1; omega
  have hcut : ∀ n, cutBase (some ⟨b, o, none⟩) cap n 11 ≠ none := fun n => by unfold cutBase; split <;> simp
  have hok1 : q1.ok W1 := by rw [hq1]; exact ⟨hlW.sub (Nat.zero_le _) (by omega) hc, fun e => absurd e (hcut _)⟩
  have hok2 : q2.ok W1 := by rw [hq2]; exact ⟨hlW.sub (by omega) (Nat.le_refl _) hc, fun e => absurd e (hcut _)⟩
  have ht : total [q1, q2] = l.eraseIdx k := by
    rw [hq1, hq2, List.eraseIdx_eq_take_drop_succ]; simp [total, List.take_of_length_le]
  have hbS : Below W1.heap.size W1 (W1.alloc (.cells #[q1.val, q2.val] 22)) := (Below.refl _ _).alloc (Nat.le_refl _) _
  refine ⟨⟨by decide, by decide, rfl⟩, [q1.val, q2.val], by rw [hv1, hv2]; rfl, ?_⟩
  refine ⟨hbS, ?_⟩
  refine Calls.mono (Concat_c (some ⟨W1.heap.size, 0, none⟩) 2 [q1, q2] _ (SlR.of_cells (by simp) cells_new) (fun q hq => ?_) (by rw [ht, List.length_eraseIdx]; split <;> omega) (by simp)) ?_
  · simp only [List.mem_cons, List.not_mem_nil, or_false] at hq
    rcases hq with rfl | rfl
    · exact hok1.below hbS
    · exact hok2.below hbS
  rintro e W3 ⟨p', cap', rfl, ho, hb3⟩
  rw [ht] at ho ⊢
  refine ⟨hb3, ?_⟩
  have hb13 : Below W1.heap.size W1 W3 := hbS.trans (hb3.mono hbS.size)
  refine store_box (ttOk.get 30 _ rfl) (block_below hb13 hbox) (by rfl) rfl (by rfl) ?_
  have hb1s := hbW.size
  have hbSs := hbS.size
  have hwx : w.heap.size < W1.heap.size := hlt hbox
  refine ⟨l[k].enc, rfl, cells_block (setRow_new (block_below hb13 hbox)), ?_⟩
  refine ⟨p', cap', rfl, own_weaken (ho.same fun a ha => setRow_old ?_) (by omega), below_setRow (hbW.trans (hb13.mono hb1s)) (Nat.le_refl _) _⟩
  rcases ho.inv with ⟨h1, _⟩ | ⟨g', _, h1, h2, _⟩
  · rw [h1] at ha; cases ha
  · rw [h1] at ha; cases ha; dsimp only; omega
end Go.Proofs.YtflljnnndmkfkaaDoor
