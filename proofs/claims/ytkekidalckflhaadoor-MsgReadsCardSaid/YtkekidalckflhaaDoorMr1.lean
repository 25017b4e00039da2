/- Law17: msg.Read. -/
import Derived.Test.YtkekidalckflhaaDoorMg7
import Derived.Laws.CopyRow
import Derived.Test.YtkekidalckflhaaDoorVcJ
namespace Go.Proofs.YtkekidalckflhaaDoor
open Go.Vc Go.RowKit Go.Sei

def readL : List UInt8 → Msg × Bool
  | [b0, b1, b2, b3, b4, b5, b6, b7, b8, b9, b10] => if b6.toNat ≤ 1 then (⟨b0, b1, b2, b3, b4, b5, decide (b6 = 1), b7, b8, b9, b10⟩, true) else (zeroM, false)
  | _ => (zeroM, false)
theorem readL_len {l : List UInt8} (h : l.length ≠ 11) : readL l = (zeroM, false) := by
  unfold readL
  split
  · simp at h
  · rfl

theorem Read_c (p : Option Addr) (cap : Nat) (l : List UInt8) (w : World) (hl : SlR byteE w p l) (hc : l.length ≤ cap) :
    Calls Tryd.prog 13 #[.slice p l.length cap] w fun e w' => e = .returned (.tuple #[(readL l).1.val, .bool (readL l).2]) ∧ Below w.heap.size w w' := by
  refine calls_of_E (S := sg 44) (sgOk _) (args := [.slice p l.length cap]) Tryd.func13 rfl rfl (Nat.le_of_ble_eq_true rfl) rfl ?_
  have hb0 : Below w.heap.size w (w.alloc (.cells zeroM.val.cells 30)) := (Below.refl _ _).alloc (Nat.le_refl _) _
  have f0 := hnew w (.cells zeroM.val.cells 30)
  have hl0 := hl.below hb0
  refine And.intro (fun h => ?_) (fun h => ?_)
  · have h : ¬ (l.length : Int) = 11 := by simpa using h
    have hr := readL_len (l := l) (fun e => h (by omega))
    refine And.intro (fun _ => ?_) (fun h => by cases h)
    refine ⟨zeroM.enc, rfl, ?_⟩
    refine store_box (v := zeroM.val) (ttOk.get 30 _ rfl) f0 (by rfl) rfl (by rfl) ?_
    refine ⟨zeroM.enc, rfl, cells_block (setRow_new f0), ?_⟩
    rw [hr]
    exact And.intro rfl (below_setRow hb0 (Nat.le_refl _) _)
  have h : (l.length : Int) = 11 := by simpa using h
  have hlen : l.length = 11 := by omega
  match l, hlen with
  | [b0, b1, b2, b3, b4, b5, b6, b7, b8, b9, b10], _ =>
    obtain ⟨b, o, hp, hbk, hcl⟩ := hl0.at (i := 0) (by simp)
    subst hp
    refine ⟨6, rfl, by simp, ?_⟩
    refine ⟨_, cells_head (hcl 6 (by simp)), ?_⟩
    refine And.intro (fun h1 => ?_) (fun h1 => ?_)
    · have h1 : (1 : Int) < b6.toNat := of_decide_eq_true h1
      have hr : readL [b0, b1, b2, b3, b4, b5, b6, b7, b8, b9, b10] = (zeroM, false) := by show (if b6.toNat ≤ 1 then _ else _) = _; rw [if_neg (by omega)]
      refine ⟨zeroM.enc, rfl, ?_⟩
      refine store_box (v := zeroM.val) (ttOk.get 30 _ rfl) f0 (by rfl) rfl (by rfl) ?_
      refine ⟨zeroM.enc, rfl, cells_block (setRow_new f0), ?_⟩
      rw [hr]
      exact And.intro rfl (below_setRow hb0 (Nat.le_refl _) _)
    · have h1 : ¬ (1 : Int) < b6.toNat := of_decide_eq_false h1
      have hr : readL [b0, b1, b2, b3, b4, b5, b6, b7, b8, b9, b10] = (⟨b0, b1, b2, b3, b4, b5, decide (b6 = 1), b7, b8, b9, b10⟩, true) := by show (if b6.toNat ≤ 1 then _ else _) = _; rw [if_pos (by omega)]
      have hl1 : ∀ (i : Nat) (hi : i < 11), Cells (w.alloc (.cells zeroM.val.cells 30)).drew ⟨b, o + i * 1, none⟩ [u8 ([b0, b1, b2, b3, b4, b5, b6, b7, b8, b9, b10][i]'hi)] := fun i hi => hcl i hi
      refine DrawE.ord [24] [0, 1, 2, 3, 4, 5, 6, 7, 8, 9, 10, 11, 12, 13, 14, 15, 16, 17, 18, 19, 20, 21, 22, 23, 24] (by kernel_rfl) ?_
      refine ⟨0, rfl, by simp, ?_⟩
      refine ⟨_, cells_head (hl1 0 (by decide)), ?_⟩
      refine ⟨1, rfl, by simp, ?_⟩
      refine ⟨_, cells_head (hl1 1 (by decide)), ?_⟩
      refine ⟨2, rfl, by simp, ?_⟩
      refine ⟨_, cells_head (hl1 2 (by decide)), ?_⟩
      refine ⟨3, rfl, by simp, ?_⟩
      refine ⟨_, cells_head (hl1 3 (by decide)), ?_⟩
      refine ⟨4, rfl, by simp, ?_⟩
      refine ⟨_, cells_head (hl1 4 (by decide)), ?_⟩
      refine ⟨5, rfl, by simp, ?_⟩
      refine ⟨_, cells_head (hl1 5 (by decide)), ?_⟩
      refine ⟨6, rfl, by simp, ?_⟩
      refine ⟨_, cells_head (hl1 6 (by decide)), ?_⟩
      obtain ⟨M1, hM1⟩ : ∃ M1 : Msg, M1 = ⟨b0, b1, b2, b3, b4, b5, decide ((b6.toNat : Int) = 1), 0, 0, 0, 0⟩ := ⟨_, rfl⟩
      refine ⟨M1.enc, by rw [hM1]; rfl, ?_⟩
      refine ⟨(Below.refl _ _).alloc (Nat.le_refl _) _, ?_⟩
      refine store_new (X := (w.alloc (.cells zeroM.val.cells 30)).drew) (v := M1.val) (ttOk.get 30 _ rfl) (by rfl) rfl (by rfl) fun Y hbY fY sY => ?_
      have hb1 : Below w.heap.size w Y := hb0.drew.trans (hbY.mono hb0.size)
      refine DrawE.ord [4] [0, 1, 2, 3, 4] (by kernel_rfl) ?_
      refine ⟨7, rfl, by simp, ?_⟩
      have hc : 11 ≤ cap := hc
      have hcut : cutBase (some (⟨b, o, none⟩ : Addr)) cap 7 1 = some ⟨b, o + 7, none⟩ := by
        unfold cutBase
        split
        · omega
        · simp [Addr.add]
      have hs5 : (Tryd.prog.info? 5).map (·.size) = some 1 := by kernel_rfl
      have hY7 : Cells Y.drew ⟨b, o + 7, none⟩ [u8 b7, u8 b8, u8 b9, u8 b10] := by
        have hb' : Below (w.alloc (.cells zeroM.val.cells 30)).heap.size (w.alloc (.cells zeroM.val.cells 30)) Y := (Below.refl _ _).drew.trans hbY
        refine cells_mk fun i v hv => ?_
        have hi : i < 4 := by simpa using (List.getElem?_eq_some_iff.1 hv).1
        have h4 : i = 0 ∨ i = 1 ∨ i = 2 ∨ i = 3 := by omega
        rcases h4 with rfl | rfl | rfl | rfl
        · exact (cells_head (cells_below hb' (hcl 7 (by simp)))).trans hv
        · exact (cells_head (cells_below hb' (hcl 8 (by simp)))).trans hv
        · exact (cells_head (cells_below hb' (hcl 9 (by simp)))).trans hv
        · exact (cells_head (cells_below hb' (hcl 10 (by simp)))).trans hv
      have hrun := run_copy_row (P := Tryd.prog) Y.drew 22 22 3 5 (w.alloc (.cells zeroM.val.cells 30)).drew.heap.size 7 4 4 ⟨b, o + 7, none⟩ 4 (cap - 7) M1.val.cells 30 [u8 b7, u8 b8, u8 b9, u8 b10] Tryd.underlying22 hs5 (hdr fY) rfl (fun j v hv => by rw [addr_add]; exact cells_at hY7 hv) (Nat.le_of_ble_eq_true rfl) (by simp [u8, Value.oneCell'])
      rw [← hcut] at hrun
      refine SatR.mk hrun ?_
      have G := setRow_new (cs' := (M1.val.cells.toList.take 7 ++ [u8 b7, u8 b8, u8 b9, u8 b10] ++ M1.val.cells.toList.drop (7 + 4)).toArray) (hdr fY)
      have hgl : w.heap.size < (w.alloc (.cells zeroM.val.cells 30)).drew.heap.size := hlt (hdr f0)
      refine ⟨(readL [b0, b1, b2, b3, b4, b5, b6, b7, b8, b9, b10]).1.enc, rfl, ?_, hlt G, ?_⟩
      · have hd : decide ((b6.toNat : Int) = 1) = decide (b6 = 1) := by rw [decide_eq_decide]; exact u8_eq (y := 1)
        have el : (M1.val.cells.toList.take 7 ++ [u8 b7, u8 b8, u8 b9, u8 b10] ++ M1.val.cells.toList.drop (7 + 4)).toArray.toList = (readL [b0, b1, b2, b3, b4, b5, b6, b7, b8, b9, b10]).1.enc := by
          rw [hr, hM1, hd]; rfl
        have e := cells_block G
        rw [el] at e
        exact e
      have fw : (Y.drew.setRow (w.alloc (.cells zeroM.val.cells 30)).drew.heap.size (M1.val.cells.toList.take 7 ++ [u8 b7, u8 b8, u8 b9, u8 b10] ++ M1.val.cells.toList.drop (7 + 4)).toArray).heap[w.heap.size]? = some (.cells zeroM.val.cells 30 (0, 0)) := (setRow_old (by omega)).trans (hdr (block_below hbY (hdr f0)))
      refine store_box (v := (readL [b0, b1, b2, b3, b4, b5, b6, b7, b8, b9, b10]).1.val) (ttOk.get 30 _ rfl) fw (by rfl) rfl (by rfl) ?_
      refine ⟨_, rfl, cells_block (setRow_new fw), ?_⟩
      rw [hr]
      exact And.intro rfl (below_setRow (below_setRow hb1.drew (by omega) _) (Nat.le_refl _) _)
end Go.Proofs.YtkekidalckflhaaDoor
