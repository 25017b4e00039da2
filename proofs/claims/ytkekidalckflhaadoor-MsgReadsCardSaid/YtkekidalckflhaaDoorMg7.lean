/- Law17: msg.Parse, msg.Bytes. -/
import Derived.Test.YtkekidalckflhaaDoorMg3
import Derived.Test.YtkekidalckflhaaDoorMg6
namespace Go.Proofs.YtkekidalckflhaaDoor
open Go.Vc Go.RowKit Go.Sei

theorem bs_eta (b : ByteArray) : bs b.data.toList = b := by cases b; rfl
theorem splitB_len (sep : ByteArray) (save : Nat) : ∀ (k : Nat) (s : ByteArray), (Lib.splitB sep save k s).length ≤ k + 1
  | 0, s => by simp [Lib.splitB]
  | k + 1, s => by
    unfold Lib.splitB
    split
    · simp
    · rw [List.length_cons]; have := splitB_len sep save k (s.extract ((Lib.indexB s sep).toNat + sep.size) s.size); omega
theorem splitB_short (sep : ByteArray) (save : Nat) : ∀ (k : Nat) (s : ByteArray), ∀ x ∈ Lib.splitB sep save k s, x.size ≤ s.size
  | 0, s, x, h => by simp [Lib.splitB] at h; rw [h]; exact Nat.le_refl _
  | k + 1, s, x, h => by
    unfold Lib.splitB at h
    split at h
    · simp at h; rw [h]; exact Nat.le_refl _
    · rcases List.mem_cons.1 h with rfl | h
      · simp only [ByteArray.size_extract]; omega
      · have := splitB_short sep save k _ x h
        simp only [ByteArray.size_extract] at this; omega
/-- The words of a text. -/
def wordsL (s : List UInt8) : List (List UInt8) := (Lib.splitB (bs [32]) 0 (min 16 (s.length + 1) - 1) (bs s)).map fun x => x.data.toList
def parseL (s : List UInt8) : Msg × Int := if (scanL (wordsL s)).2 = true ∧ textOf (scanL (wordsL s)).1 = s then ((scanL (wordsL s)).1, 0) else (zeroM, 170)

theorem Parse_c (s : List UInt8) (hs : s.length ≤ 4294967280) (w : World) (hg : GlobM w) : Calls Tryd.prog 10 #[strV s] w fun e w' => e = .returned (.tuple #[(parseL s).1.val, .int .i64 (parseL s).2]) ∧ Below w.heap.size w w' := by
  refine calls_of_M (S := sg 22) (sgOk _) (args := [strV s]) (.s .p (.c .p .p)) Tryd.func10 rfl rfl (Nat.le_of_ble_eq_true rfl) rfl ?_
  have hb0 : Below w.heap.size w (w.alloc (.cells zeroM.val.cells 30)) := (Below.refl _ _).alloc (Nat.le_refl _) _
  have f0 := hnew w (.cells zeroM.val.cells 30)
  have hg0 := hg.below hb0
  obtain ⟨mm, hmm⟩ := hg0.max
  refine ⟨Nat, fun g => ⟨[(0, strV s), (2, .pointer (some ⟨w.heap.size, 0, none⟩)), (3, .int .i64 0), (4, .pointer (some ⟨g, 0, none⟩)), (5, .bool (scanL (wordsL s)).2)], []⟩,
    fun g V => V.heap[w.heap.size]? = some (.cells zeroM.val.cells 30 (0, 0)) ∧ V.heap[g]? = some (.cells (scanL (wordsL s)).1.val.cells 30 (0, 0)) ∧ w.heap.size < g ∧ Below w.heap.size w V, ?_, ?_⟩
  · refine Calls.mono (Tryd.strings_SplitN (bs s) (bs [32]) 16 mm (w.alloc (.cells zeroM.val.cells 30)) (by show s.length < _; omega) hmm (by decide) (by decide) (by decide)) ?_
    rintro e V ⟨rfl, hV⟩
    have hbV : Below (w.alloc (.cells zeroM.val.cells 30)).heap.size (w.alloc (.cells zeroM.val.cells 30)) V := by rw [hV]; exact (Below.refl _ _).alloc (Nat.le_refl _) _
    have hlen : (Lib.splitB (bs [32]) 0 (min 16 ((bs s).size + 1) - 1) (bs s)).length = (wordsL s).length := by unfold wordsL; rw [List.length_map]; rfl
    have hle : (wordsL s).length ≤ min 16 ((bs s).size + 1) := by
      rw [← hlen]
      have := splitB_len (bs [32]) 0 (min 16 ((bs s).size + 1) - 1) (bs s)
      omega
    have hrow : SlR strE V (some ⟨(w.alloc (.cells zeroM.val.cells 30)).heap.size, 0, none⟩) (wordsL s) := by
      rw [hV]
      refine SlR.of_cells (by simp) (cells_mk fun i v hv => cells_at cells_new ?_)
      rw [strE_flat] at hv
      have hi : i < (wordsL s).length := by have := (List.getElem?_eq_some_iff.1 hv).1; simpa using this
      unfold Lib.cellsOf
      have e1 : (Lib.splitB (bs [32]) 0 (min 16 ((bs s).size + 1) - 1) (bs s)).map Value.string = (wordsL s).map strV := by
        unfold wordsL
        rw [List.map_map]
        refine List.map_congr_left fun x _ => ?_
        show Value.string x = strV x.data.toList
        unfold strV; rw [bs_eta]
      rw [e1]
      show ((wordsL s).map strV ++ _)[i]? = some v
      rw [List.getElem?_append_left (by simpa using hi)]
      exact hv
    have hb1 := hb0.trans (hbV.mono hb0.size)
    have hshort : ∀ x ∈ wordsL s, x.length ≤ 4294967280 := fun x hx => by
      unfold wordsL at hx
      obtain ⟨y, hy, rfl⟩ := List.mem_map.1 hx
      have := splitB_short _ _ _ _ y hy
      have e2 : (bs s).size = s.length := rfl
      show y.size ≤ _
      omega
    have hsc := scan_c (some ⟨(w.alloc (.cells zeroM.val.cells 30)).heap.size, 0, none⟩) (min 16 ((bs s).size + 1)) (wordsL s) V hrow hle (hg.below hb1) hshort
    rw [← hlen] at hsc
    refine Calls.mono hsc ?_
    rintro e X ⟨rfl, hbX⟩
    have hb2 := hb1.trans (hbX.mono hb1.size)
    refine store_new (X := X) (v := (scanL (wordsL s)).1.val) (ttOk.get 30 _ rfl) (by rfl) rfl (by rfl) fun Y hbY fY sY => ?_
    refine ⟨X.heap.size, ⟨.cons rfl (.cons rfl (.cons rfl (.cons rfl (.cons rfl .nil)))), rfl⟩, block_below hbY (block_below hbX (block_below hbV f0)), fY, ?_, hb2.trans (hbY.mono hb2.size)⟩
    have := hlt (block_below hbX (block_below hbV f0))
    exact this
  rintro g V ⟨f1, f2, hgw, hb⟩
  refine And.intro (fun h => ?_) (fun h => ?_)
  · have h : (scanL (wordsL s)).2 = false := by simpa using h
    have hp : parseL s = (zeroM, 170) := by unfold parseL; rw [if_neg (by rw [h]; simp)]
    refine And.intro (fun _ => ?_) (fun h => by cases h)
    refine ⟨zeroM.enc, rfl, ?_⟩
    refine store_box (v := zeroM.val) (ttOk.get 30 _ rfl) f1 (by rfl) rfl (by rfl) ?_
    refine ⟨_, rfl, cells_block (setRow_new f1), ?_⟩
    rw [hp]
    exact And.intro rfl (below_setRow hb (Nat.le_refl _) _)
  · have h : (scanL (wordsL s)).2 = true := by simpa using h
    refine ⟨(scanL (wordsL s)).1.enc, rfl, cells_block f2, hlt f2, ?_⟩
    refine Calls.mono (Text_c (scanL (wordsL s)).1 V (hg.below hb)) ?_
    rintro e V1 ⟨rfl, hb1⟩
    have f1' := block_below hb1 f1
    have f2' := block_below hb1 f2
    have hb' := hb.trans (hb1.mono hb.size)
    refine ⟨_, fun w => neq_str _ _ (textOf (scanL (wordsL s)).1) s w, ?_⟩
    refine And.intro (fun h2 => ?_) (fun h2 => ?_)
    · have h2 : ¬ textOf (scanL (wordsL s)).1 = s := by simpa using h2
      have hp : parseL s = (zeroM, 170) := by unfold parseL; rw [if_neg (fun e => h2 e.2)]
      refine ⟨zeroM.enc, rfl, ?_⟩
      refine store_box (v := zeroM.val) (ttOk.get 30 _ rfl) f1' (by rfl) rfl (by rfl) ?_
      refine ⟨_, rfl, cells_block (setRow_new f1'), ?_⟩
      rw [hp]
      exact And.intro rfl (below_setRow hb' (Nat.le_refl _) _)
    · have h2 : textOf (scanL (wordsL s)).1 = s := by simpa using h2
      have hp : parseL s = ((scanL (wordsL s)).1, 0) := by unfold parseL; rw [if_pos ⟨h, h2⟩]
      refine ⟨(scanL (wordsL s)).1.enc, rfl, cells_block f2', hlt f2', ?_⟩
      refine store_box (v := (scanL (wordsL s)).1.val) (ttOk.get 30 _ rfl) f1' (by rfl) rfl (by rfl) ?_
      refine ⟨_, rfl, cells_block (setRow_new f1'), ?_⟩
      rw [hp]
      exact And.intro rfl (below_setRow hb' (Nat.le_refl _) _)

theorem Bytes_c (m : Msg) (w : World) : Calls Tryd.prog 12 #[m.val] w fun e w' => ∃ g, e = .returned (.slice (some ⟨g, 0, none⟩) 11 11) ∧ w'.heap[g]? = some (.cells ((codeOf m).map u8).toArray 42 (0, 0)) ∧ w.heap.size ≤ g ∧ Below w.heap.size w w' := by
  refine calls_of_E (S := sg 7) (sgOk _) (args := [m.val]) Tryd.func12 rfl rfl (Nat.le_of_ble_eq_true rfl) rfl ?_
  have hb0 : Below w.heap.size w (w.alloc (.cells m.val.cells 30)) := (Below.refl _ _).alloc (Nat.le_refl _) _
  have f0 := hnew w (.cells m.val.cells 30)
  refine ⟨m.enc, rfl, cells_block f0, hlt f0, ?_⟩
  refine Calls.mono (code_c m _) ?_
  rintro e X ⟨rfl, hbX⟩
  have hb2 := hb0.trans (hbX.mono hb0.size)
  refine store_new (X := X) (v := .agg ((codeOf m).map u8).toArray) (ttOk.get 42 _ rfl) (by rfl) rfl (by rfl) fun Y hbY fY sY => ?_
  exact ⟨X.heap.size, rfl, fY, hb2.size, hb2.trans (hbY.mono hb2.size)⟩
end Go.Proofs.YtkekidalckflhaaDoor
