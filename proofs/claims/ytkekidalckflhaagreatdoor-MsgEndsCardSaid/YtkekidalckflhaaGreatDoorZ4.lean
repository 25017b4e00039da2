/- Law17: msg.Read. Law17: a message's text is read back as the message: plain laws. Law17: what the reference reads and prints: plain laws. Law17: Read and Parse undone; a byte slice as a string. Law17: contracts of the reference: Names, number, value, Bytes, Class, Less, Read. Plain: a stable merge by rotations (as slices.symMerge does it). Plain: the order of byte strings, and the order of messages by a key. Law17: the order of messages by their bytes. Law17: comparisons; Read, Parse and Less at messages of one's own. Law17: contracts of the reference: value, Bytes, Class, Less, Read. Law17: contracts of the reference: words, Text. Law17: contracts of the reference: Text. Law17: contract of the reference's Right. Law17: contracts of the reference: Parse. Law17: 'same': everything derived from a message agrees with the reference. Law17: 'reads': decoding and parsing agree with the reference. Law17: 'bend'. Law17: 'wrong': corrupted texts and encodings are read alike. The law MsgEnds: what it computes. Law17: the condition of a row gives what the walks need of a world. -/
import Derived.Test.YtkekidalckflhaaGreatDoorZ2
import Derived.Laws.CopyRow
import Derived.Lib.CutLaws
import Derived.KernelRfl
import Derived.Test.YtkekidalckflhaaGreatDoorZ1
import Derived.Test.YtkekidalckflhaaGreatDoorZKRg1
import Derived.Test.YtkekidalckflhaaGreatDoorRows
import Derived.ProofKit
import Derived.OpenShut
import Derived.LaidLaws
import Derived.LaidHandle
import Derived.Stop.LaidErr
import Derived.Lib.LaidTab
import Derived.Shelf.Vars
namespace Go.Proofs.YtkekidalckflhaaGreatDoor
open Go.Vc Go.RowKit Go.Sei

def readL : List UInt8 → Msg × Bool
  | [b0, b1, b2, b3, b4, b5, b6, b7, b8, b9, b10] => if b6.toNat ≤ 1 then (⟨b0, b1, b2, b3, b4, b5, decide (b6 = 1), b7, b8, b9, b10⟩, true) else (zeroM, false)
  | _ => (zeroM, false)
theorem readL_len {l : List UInt8} (h : l.length ≠ 11) : readL l = (zeroM, false) := by
  unfold readL
  split
  · simp at h
  · rfl

theorem Read_c (p : Option Addr) (cap : Nat) (l : List UInt8) (w : World) (hl : SlR byteE w p l) (hc : l.length ≤ cap) :
    Calls Tryz.prog 33 #[.slice p l.length cap] w fun e w' => e = .returned (.tuple #[(readL l).1.val, .bool (readL l).2]) ∧ Below w.heap.size w w' := by
  refine calls_of_E (S := sg 44) (sgOk _) (args := [.slice p l.length cap]) Tryz.func33 rfl rfl (Nat.le_of_ble_eq_true rfl) rfl ?_
  have hb0 : Below w.heap.size w (w.alloc (.cells zeroM.val.cells 27)) := (Below.refl _ _).alloc (Nat.le_refl _) _
  have f0 := hnew w (.cells zeroM.val.cells 27)
  have hl0 := hl.below hb0
  refine And.intro (fun h => ?_) (fun h => ?_)
  · have h : ¬ (l.length : Int) = 11 := by simpa using h
    have hr := readL_len (l := l) (fun e => h (by omega))
    refine And.intro (fun _ => ?_) (fun h => by cases h)
    refine ⟨zeroM.enc, rfl, ?_⟩
    refine store_box (v := zeroM.val) (ttOk.get 27 _ rfl) f0 (by rfl) rfl (by rfl) ?_
    refine ⟨zeroM.enc, rfl, cells_block (setRow_new f0), ?_⟩
    rw [hr]
    exact And.intro rfl (below_setRow hb0 (Nat.le_refl _) _)
  have h : (l.length : Int) = 11 := by simpa using h
  have hlen : l.length = 11 := by omega
  match l, hlen with
  | [b0, b1, b2, b3, b4, b5, b6, b7, b8, b9, b10], _ =>
    obtain ⟨b, o, hp, hbk, hcl⟩ := hl0.at (i := 0) (by simp)
    subst hp
    refine ⟨6, rfl, by simp, ?_⟩
    refine ⟨_, cells_head (hcl 6 (by simp)), ?_⟩
    refine And.intro (fun h1 => ?_) (fun h1 => ?_)
    · have h1 : (1 : Int) < b6.toNat := of_decide_eq_true h1
      have hr : readL [b0, b1, b2, b3, b4, b5, b6, b7, b8, b9, b10] = (zeroM, false) := by show (if b6.toNat ≤ 1 then _ else _) = _; rw [if_neg (by omega)]
      refine ⟨zeroM.enc, rfl, ?_⟩
      refine store_box (v := zeroM.val) (ttOk.get 27 _ rfl) f0 (by rfl) rfl (by rfl) ?_
      refine ⟨zeroM.enc, rfl, cells_block (setRow_new f0), ?_⟩
      rw [hr]
      exact And.intro rfl (below_setRow hb0 (Nat.le_refl _) _)
    · have h1 : ¬ (1 : Int) < b6.toNat := of_decide_eq_false h1
      have hr : readL [b0, b1, b2, b3, b4, b5, b6, b7, b8, b9, b10] = (⟨b0, b1, b2, b3, b4, b5, decide (b6 = 1), b7, b8, b9, b10⟩, true) := by show (if b6.toNat ≤ 1 then _ else _) = _; rw [if_pos (by omega)]
      have hl1 : ∀ (i : Nat) (hi : i < 11), Cells (w.alloc (.cells zeroM.val.cells 27)).drew ⟨b, o + i * 1, none⟩ [u8 ([b0, b1, b2, b3, b4, b5, b6, b7, b8, b9, b10][i]'hi)] := fun i hi => hcl i hi
      refine DrawE.ord [24] [0, 1, 2, 3, 4, 5, 6, 7, 8, 9, 10, 11, 12, 13, 14, 15, 16, 17, 18, 19, 20, 21, 22, 23, 24] (by kernel_rfl) ?_
      refine ⟨0, rfl, by simp, ?_⟩
      refine ⟨_, cells_head (hl1 0 (by decide)), ?_⟩
      refine ⟨1, rfl, by simp, ?_⟩
      refine ⟨_, cells_head (hl1 1 (by decide)), ?_⟩
      refine ⟨2, rfl, by simp, ?_⟩
      refine ⟨_, cells_head (hl1 2 (by decide)), ?_⟩
      refine ⟨3, rfl, by simp, ?_⟩
      refine ⟨_, cells_head (hl1 3 (by decide)), ?_⟩
      refine ⟨4, rfl, by simp, ?_⟩
      refine ⟨_, cells_head (hl1 4 (by decide)), ?_⟩
      refine ⟨5, rfl, by simp, ?_⟩
      refine ⟨_, cells_head (hl1 5 (by decide)), ?_⟩
      refine ⟨6, rfl, by simp, ?_⟩
      refine ⟨_, cells_head (hl1 6 (by decide)), ?_⟩
      obtain ⟨M1, hM1⟩ : ∃ M1 : Msg, M1 = ⟨b0, b1, b2, b3, b4, b5, decide ((b6.toNat : Int) = 1), 0, 0, 0, 0⟩ := ⟨_, rfl⟩
      refine ⟨M1.enc, by rw [hM1]; rfl, ?_⟩
      refine ⟨(Below.refl _ _).alloc (Nat.le_refl _) _, ?_⟩
      refine store_new (X := (w.alloc (.cells zeroM.val.cells 27)).drew) (v := M1.val) (ttOk.get 27 _ rfl) (by rfl) rfl (by rfl) fun Y hbY fY sY => ?_
      have hb1 : Below w.heap.size w Y := hb0.drew.trans (hbY.mono hb0.size)
      refine DrawE.ord [4] [0, 1, 2, 3, 4] (by kernel_rfl) ?_
      refine ⟨7, rfl, by simp, ?_⟩
      have hc : 11 ≤ cap := hc
      have hcut : cutBase (some (⟨b, o, none⟩ : Addr)) cap 7 1 = some ⟨b, o + 7, none⟩ := by
        unfold cutBase
        split
        · omega
        · simp [Addr.add]
      have hs5 : (Tryz.prog.info? 5).map (·.size) = some 1 := by kernel_rfl
      have hY7 : Cells Y.drew ⟨b, o + 7, none⟩ [u8 b7, u8 b8, u8 b9, u8 b10] := by
        have hb' : Below (w.alloc (.cells zeroM.val.cells 27)).heap.size (w.alloc (.cells zeroM.val.cells 27)) Y := (Below.refl _ _).drew.trans hbY
        refine cells_mk fun i v hv => ?_
        have hi : i < 4 := by simpa using (List.getElem?_eq_some_iff.1 hv).1
        have h4 : i = 0 ∨ i = 1 ∨ i = 2 ∨ i = 3 := by omega
        rcases h4 with rfl | rfl | rfl | rfl
        · exact (cells_head (cells_below hb' (hcl 7 (by simp)))).trans hv
        · exact (cells_head (cells_below hb' (hcl 8 (by simp)))).trans hv
        · exact (cells_head (cells_below hb' (hcl 9 (by simp)))).trans hv
        · exact (cells_head (cells_below hb' (hcl 10 (by simp)))).trans hv
      have hrun := run_copy_row (P := Tryz.prog) Y.drew 33 33 3 5 (w.alloc (.cells zeroM.val.cells 27)).drew.heap.size 7 4 4 ⟨b, o + 7, none⟩ 4 (cap - 7) M1.val.cells 27 [u8 b7, u8 b8, u8 b9, u8 b10] Tryz.underlying33 hs5 (hdr fY) rfl (fun j v hv => by rw [addr_add]; exact cells_at hY7 hv) (Nat.le_of_ble_eq_true rfl) (by simp [u8, Value.oneCell'])
      rw [← hcut] at hrun
      refine SatR.mk hrun ?_
      have G := setRow_new (cs' := (M1.val.cells.toList.take 7 ++ [u8 b7, u8 b8, u8 b9, u8 b10] ++ M1.val.cells.toList.drop (7 + 4)).toArray) (hdr fY)
      have hgl : w.heap.size < (w.alloc (.cells zeroM.val.cells 27)).drew.heap.size := hlt (hdr f0)
      refine ⟨(readL [b0, b1, b2, b3, b4, b5, b6, b7, b8, b9, b10]).1.enc, rfl, ?_, hlt G, ?_⟩
      · have hd : decide ((b6.toNat : Int) = 1) = decide (b6 = 1) := by rw [decide_eq_decide]; exact u8_eq (y := 1)
        have el : (M1.val.cells.toList.take 7 ++ [u8 b7, u8 b8, u8 b9, u8 b10] ++ M1.val.cells.toList.drop (7 + 4)).toArray.toList = (readL [b0, b1, b2, b3, b4, b5, b6, b7, b8, b9, b10]).1.enc := by
          rw [hr, hM1, hd]; rfl
        have e := cells_block G
        rw [el] at e
        exact e
      have fw : (Y.drew.setRow (w.alloc (.cells zeroM.val.cells 27)).drew.heap.size (M1.val.cells.toList.take 7 ++ [u8 b7, u8 b8, u8 b9, u8 b10] ++ M1.val.cells.toList.drop (7 + 4)).toArray).heap[w.heap.size]? = some (.cells zeroM.val.cells 27 (0, 0)) := (setRow_old (by omega)).trans (hdr (block_below hbY (hdr f0)))
      refine store_box (v := (readL [b0, b1, b2, b3, b4, b5, b6, b7, b8, b9, b10]).1.val) (ttOk.get 27 _ rfl) fw (by rfl) rfl (by rfl) ?_
      refine ⟨_, rfl, cells_block (setRow_new fw), ?_⟩
      rw [hr]
      exact And.intro rfl (below_setRow (below_setRow hb1.drew (by omega) _) (Nat.le_refl _) _)
end Go.Proofs.YtkekidalckflhaaGreatDoor
namespace Go.Proofs.YtkekidalckflhaaGreatDoor
open Go.Vc Go.RowKit Go.Sei

def dig3 (n : Nat) : List UInt8 := if n < 10 then [UInt8.ofNat (48 + n)] else if n < 100 then [UInt8.ofNat (48 + n / 10), UInt8.ofNat (48 + n % 10)] else [UInt8.ofNat (48 + n / 100), UInt8.ofNat (48 + n / 10 % 10), UInt8.ofNat (48 + n % 10)]
theorem dig_eq (n : UInt8) : dig n = dig3 n.toNat := by
  have hn := n.toNat_lt
  unfold dig Lib.itoa
  rw [if_neg (by omega), Int.toNat_natCast]
  unfold dig3
  split
  · rw [Lib.decDigits, dif_pos ‹_›]
  · split
    · rw [Lib.decDigits, dif_neg ‹_›, Lib.decDigits, dif_pos (by omega)]; rfl
    · rw [Lib.decDigits, dif_neg (by omega), Lib.decDigits, dif_neg (by omega), Lib.decDigits, dif_pos (by omega), Nat.div_div_eq_div_mul]; rfl
theorem dig_all (P : Nat → List UInt8 → Bool) (h : ((List.range 256).all fun k => P k (dig3 k)) = true) (n : UInt8) : P n.toNat (dig n) = true := by
  rw [dig_eq]
  exact List.all_eq_true.1 h n.toNat (List.mem_range.2 n.toNat_lt)
def okIs (u : Nat) : Lib.NumEnd Nat → Bool
  | .ok v => Nat.beq v u
  | _ => false
theorem okIs_eq {u : Nat} {x : Lib.NumEnd Nat} (h : okIs u x = true) : x = .ok u := by
  unfold okIs at h
  split at h
  · rw [Nat.eq_of_beq_eq_true h]
  · cases h
theorem dig_parse (n : UInt8) : Lib.parseUintB 8 (dig n) = .ok n.toNat :=
  okIs_eq (dig_all (fun k l => okIs k (Lib.parseUintB 8 l)) (by kernel_rfl) n)
theorem dig_digits (n : UInt8) : ∀ c ∈ dig n, 48 ≤ c.toNat ∧ c.toNat ≤ 57 := by
  have h := dig_all (fun _ l => l.all fun c => Nat.ble 48 c.toNat && Nat.ble c.toNat 57) (by kernel_rfl) n
  intro c hc
  have := List.all_eq_true.1 h c hc
  simp only [Bool.and_eq_true] at this
  exact ⟨Nat.le_of_ble_eq_true this.1, Nat.le_of_ble_eq_true this.2⟩
theorem dig_not (n : UInt8) {c : UInt8} (h : c.toNat < 48 ∨ 57 < c.toNat) : c ∉ dig n := fun hc => by
  have := dig_digits n c hc; omega

theorem index_mid (c : UInt8) (r : List UInt8) : ∀ (a : List UInt8), c ∉ a → Lib.index (a ++ c :: r) [c] = a.length
  | [], _ => by
    show Lib.index (c :: r) [c] = 0
    unfold Lib.index
    rw [if_pos (by simp)]
  | b :: a, h => by
    have hb : c ≠ b := fun e => h (by rw [e]; simp)
    have ih := index_mid c r a (fun hm => h (List.mem_cons_of_mem _ hm))
    show Lib.index (b :: (a ++ c :: r)) [c] = _
    unfold Lib.index
    rw [if_neg (by simp [List.isPrefixOf, hb]), ih, if_neg (by rw [beq_iff_eq]; omega)]
    simp
theorem index_no (c : UInt8) : ∀ (a : List UInt8), c ∉ a → Lib.index a [c] = -1
  | [], _ => rfl
  | b :: a, h => by
    have hb : c ≠ b := fun e => h (by rw [e]; simp)
    have ih := index_no c a (fun hm => h (List.mem_cons_of_mem _ hm))
    unfold Lib.index
    rw [if_neg (by simp [List.isPrefixOf, hb]), ih, if_pos (by decide)]

theorem join_cons2 (x y : List UInt8) (r : List (List UInt8)) (c : UInt8) : Lib.join (x :: y :: r) [c] = x ++ c :: Lib.join (y :: r) [c] := by
  rw [Lib.join_cons, Lib.join_cons]
  simp [Lib.joinTail]
theorem split_join (c : UInt8) : ∀ (xs : List (List UInt8)) (k : Nat), xs ≠ [] → (∀ x ∈ xs, c ∉ x) → xs.length ≤ k + 1 → Lib.splitK [c] 0 k (Lib.join xs [c]) = xs
  | [], _, h, _, _ => absurd rfl h
  | [x], k, _, hx, _ => by
    rw [Lib.join_one]
    cases k with
    | zero => rfl
    | succ k => unfold Lib.splitK; rw [index_no c x (hx x (by simp)), if_pos (by decide)]
  | x :: y :: r, 0, _, _, hl => by simp at hl
  | x :: y :: r, k + 1, _, hx, hl => by
    have ih := split_join c (y :: r) k (by simp) (fun z hz => hx z (List.mem_cons_of_mem _ hz)) (by simpa using hl)
    rw [join_cons2]
    unfold Lib.splitK
    rw [index_mid c _ x (hx x (by simp)), if_neg (by rw [beq_iff_eq]; omega), Int.toNat_natCast]
    have e1 : (x ++ c :: Lib.join (y :: r) [c]).take (x.length + 0) = x := by simp
    have e2 : (x ++ c :: Lib.join (y :: r) [c]).drop (x.length + [c].length) = Lib.join (y :: r) [c] := by
      rw [List.drop_append]; simp
    rw [e1, e2, ih]
theorem join_lenB (c : UInt8) : ∀ (xs : List (List UInt8)), xs.length ≤ (Lib.join xs [c]).length + 1
  | [] => by simp
  | [x] => by simp
  | x :: y :: r => by
    have := join_lenB c (y :: r)
    rw [join_cons2]
    simp only [List.length_cons, List.length_append] at *
    omega
theorem cut_mid (c : UInt8) (a r : List UInt8) (h : c ∉ a) : Lib.cut (a ++ c :: r) [c] = (a, r, true) := by
  unfold Lib.cut
  rw [index_mid c r a h, if_pos (by omega), Int.toNat_natCast]
  have e1 : (a ++ c :: r).take a.length = a := by simp
  have e2 : (a ++ c :: r).drop (a.length + [c].length) = r := by rw [List.drop_append]; simp
  rw [e1, e2]

theorem wordsL_eq (s : List UInt8) : wordsL s = Lib.splitK [32] 0 (min 16 (s.length + 1) - 1) s := by
  unfold wordsL
  rw [Lib.splitB_data]; rfl
theorem name_no (k : UInt8) : (32 : UInt8) ∉ kindNames.getD k.toNat [] := by
  have h : ((List.range 256).all fun k => (kindNames.getD k []).all fun c => !(c == 32)) = true := by kernel_rfl
  have := List.all_eq_true.1 h k.toNat (List.mem_range.2 k.toNat_lt)
  intro hc
  have := List.all_eq_true.1 this _ hc
  simp at this
theorem w5_no (m : Msg) : ∀ x ∈ w5 m, (32 : UInt8) ∉ x := by
  have hd : ∀ n : UInt8, (32 : UInt8) ∉ dig n := fun n => dig_not n (.inl (by decide))
  intro x hx
  unfold w5 w4 w3 w2 w1 w0 at hx
  simp only [List.mem_append] at hx
  rcases hx with ((((( h | h) | h) | h) | h) | h)
  · split at h
    · simp only [List.mem_cons, List.not_mem_nil, or_false] at h
      rcases h with rfl | rfl
      · decide
      · exact hd _
    · simp only [List.mem_cons, List.not_mem_nil, or_false] at h
      subst h; exact name_no _
  · simp only [List.mem_cons, List.not_mem_nil, or_false] at h
    rcases h with rfl | rfl | rfl
    · intro hc
      simp only [List.mem_append] at hc
      rcases hc with (hc | hc) | hc
      · exact hd _ hc
      · revert hc; decide
      · exact hd _ hc
    · decide
    · exact hd _
  · split at h
    · cases h
    · simp only [List.mem_cons, List.not_mem_nil, or_false] at h
      rcases h with rfl | rfl
      · decide
      · exact hd _
  · split at h
    · cases h
    · simp only [List.mem_cons, List.not_mem_nil, or_false] at h
      rcases h with rfl | rfl
      · decide
      · exact hd _
  · split at h
    · simp only [List.mem_cons, List.not_mem_nil, or_false] at h
      subst h; decide
    · cases h
  · split at h
    · cases h
    · simp only [List.mem_cons, List.not_mem_nil, or_false] at h
      rcases h with rfl | rfl | rfl | rfl | rfl
      · decide
      all_goals exact hd _
theorem words_text (m : Msg) : wordsL (textOf m) = w5 m := by
  rw [wordsL_eq]
  have hl := (w_len m).2.2.2.2.2
  have hj := join_lenB 32 (w5 m)
  have hj' : (w5 m).length ≤ (textOf m).length + 1 := hj
  refine split_join 32 (w5 m) _ ?_ (w5_no m) (by omega)
  unfold w5 w4 w3 w2 w1
  simp

/-! ### The scan of these words -/
theorem num_dig (n : UInt8) (st : Wst) : num (dig n) st = (n, st) := by
  unfold num; rw [dig_parse]
  show (UInt8.ofNat n.toNat, st) = _
  rw [UInt8.ofNat_toNat]
def hdNe (wd : List UInt8) : List (List UInt8) → Bool
  | [] => true
  | x :: _ => !decide (x = wd)
theorem skp_no {wd : List UInt8} {st : Wst} (h : hdNe wd st.1 = true) : skp wd st = (false, st) := by
  obtain ⟨l, b⟩ := st
  cases l with
  | nil => rfl
  | cons x r =>
    have h : (!decide (x = wd)) = true := h
    have h : ¬ x = wd := by simpa using h
    show (if x = wd then _ else _) = _
    rw [if_neg h]
theorem skp_yes (wd : List UInt8) (r : List (List UInt8)) (b : Bool) : skp wd (wd :: r, b) = (true, (r, b)) := by
  show (if wd = wd then _ else _) = _
  rw [if_pos rfl]
theorem rd_dig (f : UInt8 → Msg → Msg) (a : Msg) (n : UInt8) (r : List (List UInt8)) (b : Bool) : rd f (a, (dig n :: r, b)) = (f n a, (r, b)) := by
  show (f (num (dig n) (r, b)).1 a, (num (dig n) (r, b)).2) = _
  rw [num_dig]
theorem opt_no {wd : List UInt8} {f : Msg × Wst → Msg × Wst} {s : Msg × Wst} (h : hdNe wd s.2.1 = true) : opt wd f s = s := by
  unfold opt; rw [skp_no h]; rfl
theorem opt_yes (wd : List UInt8) (f : Msg × Wst → Msg × Wst) (a : Msg) (r : List (List UInt8)) (b : Bool) : opt wd f (a, (wd :: r, b)) = f (a, (r, b)) := by
  unfold opt
  show (if (skp wd (wd :: r, b)).1 = true then _ else _) = _
  rw [skp_yes, if_pos rfl]

theorem c0_w (m : Msg) (r : List (List UInt8)) : c0 (w0 m ++ r) = ({ zeroM with kind := m.kind }, (r, true)) := by
  unfold w0
  by_cases h : classOf m.kind = 0
  · rw [if_pos h]
    unfold c0
    show (if (skp [107, 105, 110, 100] ([107, 105, 110, 100] :: (dig m.kind :: r), true)).1 = true then _ else _) = _
    rw [skp_yes, if_pos rfl]
    exact rd_dig _ _ _ _ _
  · rw [if_neg h]
    have hk : ((List.range 256).all fun k => decide (classes.getD k 0 = 0) || (hdNe [107, 105, 110, 100] [kindNames.getD k []] && decide (kindL (kindNames.getD k []) = UInt8.ofNat k))) = true := by kernel_rfl
    have h2 := List.all_eq_true.1 hk m.kind.toNat (List.mem_range.2 m.kind.toNat_lt)
    have h3 : ¬ classes.getD m.kind.toNat 0 = 0 := h
    rw [decide_eq_false h3, Bool.false_or, Bool.and_eq_true, UInt8.ofNat_toNat] at h2
    have h4 : hdNe [107, 105, 110, 100] (kindNames.getD m.kind.toNat [] :: r) = true := h2.1
    have h5 := of_decide_eq_true h2.2
    unfold c0
    show (if (skp [107, 105, 110, 100] (kindNames.getD m.kind.toNat [] :: r, true)).1 = true then _ else ({ zeroM with kind := kindL (nxt (skp [107, 105, 110, 100] (kindNames.getD m.kind.toNat [] :: r, true)).2).1 }, (nxt (skp [107, 105, 110, 100] (kindNames.getD m.kind.toNat [] :: r, true)).2).2)) = _
    rw [skp_no h4, if_neg (by simp)]
    show ({ zeroM with kind := kindL (kindNames.getD m.kind.toNat []) }, (r, true)) = _
    rw [h5]
theorem c1_w (a : Msg) (x y : UInt8) (r : List (List UInt8)) (b : Bool) : c1 (a, ((dig x ++ [62] ++ dig y) :: r, b)) = ({ a with from_ := x, «to» := y }, (r, b)) := by
  have hc : Lib.cut (dig x ++ [62] ++ dig y) [62] = (dig x, dig y, true) := by
    have := cut_mid 62 (dig x) (dig y) (dig_not x (.inr (by decide)))
    rw [← this]; simp
  unfold c1
  show ({ a with from_ := (num (Lib.cut (dig x ++ [62] ++ dig y) [62]).1 (r, b)).1, «to» := (num (Lib.cut (dig x ++ [62] ++ dig y) [62]).2.1 (num (Lib.cut (dig x ++ [62] ++ dig y) [62]).1 (r, b)).2).1 }, (num (Lib.cut (dig x ++ [62] ++ dig y) [62]).2.1 (num (Lib.cut (dig x ++ [62] ++ dig y) [62]).1 (r, b)).2).2) = _
  rw [hc]
  simp only [num_dig]
theorem c2_w (a : Msg) (r : List (List UInt8)) : c2 (a, ([108, 105, 110, 101] :: r, true)) = (a, (r, true)) := by
  show (a, ((skp [108, 105, 110, 101] ([108, 105, 110, 101] :: r, true)).2.1, (skp [108, 105, 110, 101] ([108, 105, 110, 101] :: r, true)).1 && (skp [108, 105, 110, 101] ([108, 105, 110, 101] :: r, true)).2.2)) = _
  rw [skp_yes]; rfl

def e4 (m : Msg) : List (List UInt8) := if m.asker = 0 then [] else [[97, 115, 107, 101, 114], dig m.asker]
def e5 (m : Msg) : List (List UInt8) := if m.acks = 0 then [] else [[97, 99, 107, 115], dig m.acks]
def e6 (m : Msg) : List (List UInt8) := if m.alone then [[97, 108, 111, 110, 101]] else []
def e7 (m : Msg) : List (List UInt8) := if m.d0 = 0 ∧ m.d1 = 0 ∧ m.d2 = 0 ∧ m.d3 = 0 then [] else [[100, 97, 116, 97], dig m.d0, dig m.d1, dig m.d2, dig m.d3]
theorem w5_split (m : Msg) : w5 m = w0 m ++ ((dig m.from_ ++ [62] ++ dig m.to) :: [108, 105, 110, 101] :: dig m.line :: (e4 m ++ (e5 m ++ (e6 m ++ e7 m)))) := by
  unfold w5 w4 w3 w2 w1 e4 e5 e6 e7
  simp only [List.append_assoc, List.cons_append, List.nil_append]
theorem hd7 (m : Msg) : hdNe [97, 108, 111, 110, 101] (e7 m) = true ∧ hdNe [97, 99, 107, 115] (e7 m) = true ∧ hdNe [97, 115, 107, 101, 114] (e7 m) = true := by
  unfold e7; split
  · exact ⟨rfl, rfl, rfl⟩
  · exact ⟨rfl, rfl, rfl⟩
theorem hd6 (m : Msg) : hdNe [97, 99, 107, 115] (e6 m ++ e7 m) = true ∧ hdNe [97, 115, 107, 101, 114] (e6 m ++ e7 m) = true := by
  unfold e6; split
  · exact ⟨rfl, rfl⟩
  · exact (hd7 m).2
theorem hd5 (m : Msg) : hdNe [97, 115, 107, 101, 114] (e5 m ++ (e6 m ++ e7 m)) = true := by
  unfold e5; split
  · exact (hd6 m).2
  · rfl
theorem c4_w (m a : Msg) (ha : a.asker = 0) : c4 (a, (e4 m ++ (e5 m ++ (e6 m ++ e7 m)), true)) = ({ a with asker := m.asker }, (e5 m ++ (e6 m ++ e7 m), true)) := by
  unfold c4 e4
  by_cases h : m.asker = 0
  · rw [if_pos h, opt_no (hd5 m), h, ← ha]; rfl
  · rw [if_neg h]
    refine (opt_yes _ _ _ _ _).trans ?_
    exact rd_dig _ _ _ _ _
theorem c5_w (m a : Msg) (ha : a.acks = 0) : c5 (a, (e5 m ++ (e6 m ++ e7 m), true)) = ({ a with acks := m.acks }, (e6 m ++ e7 m, true)) := by
  unfold c5 e5
  by_cases h : m.acks = 0
  · rw [if_pos h, opt_no (hd6 m).1, h, ← ha]; rfl
  · rw [if_neg h]
    refine (opt_yes _ _ _ _ _).trans ?_
    exact rd_dig _ _ _ _ _
theorem c6_w (m a : Msg) : c6 (a, (e6 m ++ e7 m, true)) = ({ a with alone := m.alone }, (e7 m, true)) := by
  unfold c6 e6
  by_cases h : m.alone = true
  · rw [if_pos h]
    show ({ a with alone := (skp [97, 108, 111, 110, 101] ([97, 108, 111, 110, 101] :: e7 m, true)).1 }, (skp [97, 108, 111, 110, 101] ([97, 108, 111, 110, 101] :: e7 m, true)).2) = _
    rw [skp_yes, h]
  · rw [if_neg h]
    show ({ a with alone := (skp [97, 108, 111, 110, 101] (e7 m, true)).1 }, (skp [97, 108, 111, 110, 101] (e7 m, true)).2) = _
    rw [skp_no (hd7 m).1]
    have : m.alone = false := by simpa using h
    rw [this]
theorem c7_w (m a : Msg) (h0 : a.d0 = 0) (h1 : a.d1 = 0) (h2 : a.d2 = 0) (h3 : a.d3 = 0) : c7 (a, (e7 m, true)) = ({ a with d0 := m.d0, d1 := m.d1, d2 := m.d2, d3 := m.d3 }, ([], true)) := by
  unfold c7 e7
  by_cases h : m.d0 = 0 ∧ m.d1 = 0 ∧ m.d2 = 0 ∧ m.d3 = 0
  · rw [if_pos h, opt_no (by rfl), h.1, h.2.1, h.2.2.1, h.2.2.2]
    obtain ⟨_, _, _, _, _, _, _, _, _, _, _⟩ := a
    dsimp only at h0 h1 h2 h3
    subst h0 h1 h2 h3; rfl
  · rw [if_neg h]
    refine (opt_yes _ _ _ _ _).trans ?_
    unfold r0 r1 r2 r3
    rw [rd_dig, rd_dig, rd_dig, rd_dig]
theorem scan_text (m : Msg) : scanL (w5 m) = (m, true) := by
  unfold scanL scanS
  rw [w5_split, c0_w, c1_w, c2_w]
  unfold c3
  rw [rd_dig, c4_w _ _ rfl, c5_w _ _ rfl, c6_w, c7_w _ _ rfl rfl rfl rfl]
  rfl
theorem parse_text (m : Msg) : parseL (textOf m) = (m, 0) := by
  unfold parseL
  rw [words_text, scan_text]
  exact if_pos ⟨rfl, rfl⟩
theorem text_inj {a b : Msg} (h : textOf a = textOf b) : a = b := by
  have ha := parse_text a
  rw [h, parse_text b] at ha
  exact (congrArg Prod.fst ha).symm
theorem code_inj {a b : Msg} (h : codeOf a = codeOf b) : a = b := by
  have key : ∀ m : Msg, readL (codeOf m) = (m, true) := by
    rintro ⟨_, _, _, _, _, _, al, _, _, _, _⟩
    cases al <;> rfl
  have := key a
  rw [h, key b] at this
  exact (congrArg Prod.fst this).symm
end Go.Proofs.YtkekidalckflhaaGreatDoor
namespace Go.Proofs.YtkekidalckflhaaGreatDoor
open Go.Vc Go.RowKit Go.Sei

/-- A word's number, as the reference reads it. -/
def valN : List UInt8 → Nat → Nat
  | [], n => n
  | c :: r, n => valN r (10 * n + (c - 48).toNat)
def valR (w : List UInt8) : UInt8 := UInt8.ofNat (valN (w.take 3) 0)
theorem val_dig (n : UInt8) : valR (dig n) = n := by
  have h := dig_all (fun k l => Nat.beq (valN (l.take 3) 0) k) (by kernel_rfl) n
  have e := Nat.eq_of_beq_eq_true h
  unfold valR
  rw [e, UInt8.ofNat_toNat]

/-- The words between spaces and '>'. -/
def sp : List UInt8 → List UInt8 → List (List UInt8)
  | w, [] => [w]
  | w, c :: r => if c = 32 ∨ c = 62 then w :: sp [] r else sp (w ++ [c]) r
def clean (a : List UInt8) : Prop := ∀ c ∈ a, c ≠ 32 ∧ c ≠ 62
theorem sp_clean (r : List UInt8) : ∀ (a w : List UInt8), clean a → sp w (a ++ r) = sp (w ++ a) r
  | [], w, _ => by simp
  | c :: a, w, h => by
    have hc := h c (by simp)
    show (if c = 32 ∨ c = 62 then w :: sp [] (a ++ r) else sp (w ++ [c]) (a ++ r)) = _
    rw [if_neg (by rintro (e | e); exact hc.1 e; exact hc.2 e), sp_clean r a (w ++ [c]) (fun x hx => h x (List.mem_cons_of_mem _ hx))]
    simp
theorem sp_space (a r : List UInt8) (h : clean a) : sp [] (a ++ 32 :: r) = a :: sp [] r := by
  rw [sp_clean _ a [] h]
  show (if (32 : UInt8) = 32 ∨ _ then _ else _) = _
  rw [if_pos (.inl rfl)]; simp
theorem sp_arrow (a r : List UInt8) (h : clean a) : sp [] (a ++ 62 :: r) = a :: sp [] r := by
  rw [sp_clean _ a [] h]
  show (if (62 : UInt8) = 32 ∨ (62 : UInt8) = 62 then _ else _) = _
  rw [if_pos (.inr rfl)]; simp
theorem sp_last (a : List UInt8) (h : clean a) : sp [] a = [a] := by
  have := sp_clean [] a [] h
  rw [List.append_nil] at this
  rw [this]; simp [sp]
theorem sp_join : ∀ (xs : List (List UInt8)), xs ≠ [] → (∀ x ∈ xs, clean x) → sp [] (Lib.join xs [32]) = xs
  | [], h, _ => absurd rfl h
  | [x], _, h => by rw [Lib.join_one]; exact sp_last x (h x (by simp))
  | x :: y :: r, _, h => by
    rw [join_cons2, sp_space _ _ (h x (by simp)), sp_join (y :: r) (by simp) (fun z hz => h z (List.mem_cons_of_mem _ hz))]
theorem dig_clean (n : UInt8) : clean (dig n) := fun c hc => by
  have := dig_digits n c hc
  constructor <;> (rintro rfl; simp at this)
theorem name_clean (k : UInt8) : clean (kindNames.getD k.toNat []) := by
  have h : ((List.range 256).all fun k => (kindNames.getD k []).all fun c => !(c == 32) && !(c == 62)) = true := by kernel_rfl
  have := List.all_eq_true.1 h k.toNat (List.mem_range.2 k.toNat_lt)
  intro c hc
  have := List.all_eq_true.1 this _ hc
  simp at this
  exact this
/-- The words behind the kind. -/
def restW (m : Msg) : List (List UInt8) := [108, 105, 110, 101] :: dig m.line :: (e4 m ++ (e5 m ++ (e6 m ++ e7 m)))
theorem rest_clean (m : Msg) : ∀ x ∈ restW m, clean x := by
  have kw : ∀ l : List UInt8, (l.all fun c => !(c == 32) && !(c == 62)) = true → clean l := by
    intro l h c hc
    have := List.all_eq_true.1 h c hc
    simp at this; exact this
  intro x hx
  unfold restW e4 e5 e6 e7 at hx
  simp only [List.mem_cons, List.mem_append] at hx
  rcases hx with rfl | rfl | h | h | h | h
  · exact kw _ (by decide)
  · exact dig_clean _
  · split at h
    · cases h
    · simp only [List.mem_cons, List.not_mem_nil, or_false] at h
      rcases h with rfl | rfl
      · exact kw _ (by decide)
      · exact dig_clean _
  · split at h
    · cases h
    · simp only [List.mem_cons, List.not_mem_nil, or_false] at h
      rcases h with rfl | rfl
      · exact kw _ (by decide)
      · exact dig_clean _
  · split at h
    · simp only [List.mem_cons, List.not_mem_nil, or_false] at h
      subst h; exact kw _ (by decide)
    · cases h
  · split at h
    · cases h
    · simp only [List.mem_cons, List.not_mem_nil, or_false] at h
      rcases h with rfl | rfl | rfl | rfl | rfl
      · exact kw _ (by decide)
      all_goals exact dig_clean _
theorem sp_text (m : Msg) : sp [] (textOf m) = w0 m ++ (dig m.from_ :: dig m.to :: restW m) := by
  have hw : w5 m = w0 m ++ ((dig m.from_ ++ [62] ++ dig m.to) :: restW m) := w5_split m
  have hr : restW m = [108, 105, 110, 101] :: dig m.line :: (e4 m ++ (e5 m ++ (e6 m ++ e7 m))) := rfl
  have core : sp [] (Lib.join ((dig m.from_ ++ [62] ++ dig m.to) :: restW m) [32]) = dig m.from_ :: dig m.to :: restW m := by
    rw [hr, join_cons2, ← hr]
    have e : (dig m.from_ ++ [62] ++ dig m.to) ++ 32 :: Lib.join (restW m) [32] = dig m.from_ ++ 62 :: (dig m.to ++ 32 :: Lib.join (restW m) [32]) := by simp
    rw [e, sp_arrow _ _ (dig_clean _), sp_space _ _ (dig_clean _), sp_join _ (by rw [hr]; simp) (rest_clean m)]
  unfold textOf
  rw [hw]
  unfold w0
  split
  · have e1 : [[107, 105, 110, 100], dig m.kind] ++ ((dig m.from_ ++ [62] ++ dig m.to) :: restW m) = [107, 105, 110, 100] :: dig m.kind :: (dig m.from_ ++ [62] ++ dig m.to) :: restW m := rfl
    rw [e1, join_cons2, sp_space _ _ (by intro c hc; simp only [List.mem_cons, List.not_mem_nil, or_false] at hc; rcases hc with rfl | rfl | rfl | rfl <;> decide), join_cons2, sp_space _ _ (dig_clean _), core]; rfl
  · have e1 : [kindNames.getD m.kind.toNat []] ++ ((dig m.from_ ++ [62] ++ dig m.to) :: restW m) = kindNames.getD m.kind.toNat [] :: (dig m.from_ ++ [62] ++ dig m.to) :: restW m := rfl
    rw [e1, join_cons2, sp_space _ _ (name_clean _), core]; rfl

/-! ### The candidate -/
def nxR : List (List UInt8) → UInt8
  | [] => 0
  | x :: _ => valR x
def stepR (w : List UInt8) (r : List (List UInt8)) (m : Msg) : Msg :=
  if w = [108, 105, 110, 101] then { m with line := nxR r }
  else if w = [97, 115, 107, 101, 114] then { m with asker := nxR r }
  else if w = [97, 99, 107, 115] then { m with acks := nxR r }
  else if w = [97, 108, 111, 110, 101] then { m with alone := true }
  else if w = [100, 97, 116, 97] then (match r with
    | a :: b :: c :: d :: _ => { m with d0 := valR a, d1 := valR b, d2 := valR c, d3 := valR d }
    | _ => m)
  else m
def goR : List (List UInt8) → Msg → Msg
  | [], m => m
  | w :: r, m => goR r (stepR w r m)
/-- Behind the word for the kind. -/
def go1 : List (List UInt8) → Msg → Msg
  | [], m => m
  | w :: r, m => goR r { m with from_ := valR w, «to» := nxR r }
def namesR : List (List UInt8) := kindNames.tail
def kfold (w : List UInt8) : Nat → UInt8 → UInt8
  | 0, k => k
  | n + 1, k => if w = namesR.getD n [] then UInt8.ofNat (n + 1) else kfold w n k
def candR (l : List (List UInt8)) : Msg :=
  match l with
  | [] => zeroM
  | x :: r => if x = [107, 105, 110, 100] then (match r with
      | [] => { zeroM with kind := kfold x 12 0 }
      | y :: r => go1 r { zeroM with kind := kfold y 12 (valR y) })
    else go1 r { zeroM with kind := kfold x 12 0 }

theorem cand_kind (y : List UInt8) (r : List (List UInt8)) : candR ([107, 105, 110, 100] :: y :: r) = go1 r { zeroM with kind := kfold y 12 (valR y) } := by
  unfold candR; exact if_pos rfl
theorem cand_name {x : List UInt8} (r : List (List UInt8)) (h : x ≠ [107, 105, 110, 100]) : candR (x :: r) = go1 r { zeroM with kind := kfold x 12 0 } := by
  unfold candR; exact if_neg h
theorem step_dig (n : UInt8) (r : List (List UInt8)) (m : Msg) : stepR (dig n) r m = m := by
  have hne : ∀ w : List UInt8, (w.any fun c => Nat.blt 57 c.toNat) = true → dig n ≠ w := by
    intro w hw e
    obtain ⟨c, hc, h⟩ := List.any_eq_true.1 hw
    rw [← e] at hc
    have h1 := dig_digits n c hc
    have h2 : 57 < c.toNat := by simpa [Nat.blt_eq] using h
    omega
  unfold stepR
  rw [if_neg (hne _ (by decide)), if_neg (hne _ (by decide)), if_neg (hne _ (by decide)), if_neg (hne _ (by decide)), if_neg (hne _ (by decide))]
theorem go_dig (n : UInt8) (r : List (List UInt8)) (m : Msg) : goR (dig n :: r) m = goR r m := by
  show goR r (stepR (dig n) r m) = _
  rw [step_dig]
theorem kfold_dig (n k : UInt8) : kfold (dig n) 12 k = k := by
  have h := dig_all (fun _ l => (List.range 12).all fun j => !decide (l = namesR.getD j [])) (by kernel_rfl) n
  have hh : ∀ j, j < 12 → dig n ≠ namesR.getD j [] := fun j hj => by
    have := List.all_eq_true.1 h j (List.mem_range.2 hj)
    simpa using this
  have : ∀ j, j ≤ 12 → kfold (dig n) j k = k := by
    intro j
    induction j with
    | zero => exact fun _ => rfl
    | succ j ih => intro hj; show (if _ then _ else _) = _; rw [if_neg (hh j (by omega)), ih (by omega)]
  exact this 12 (Nat.le_refl _)
theorem go_rest (m a : Msg) (h0 : a.asker = 0) (h1 : a.acks = 0) (h2 : a.alone = false) (hd : a.d0 = 0 ∧ a.d1 = 0 ∧ a.d2 = 0 ∧ a.d3 = 0) :
    goR (restW m) a = { a with line := m.line, asker := m.asker, acks := m.acks, alone := m.alone, d0 := m.d0, d1 := m.d1, d2 := m.d2, d3 := m.d3 } := by
  obtain ⟨k, f, t, l, as_, ac, al, d0, d1, d2, d3⟩ := a
  dsimp only at h0 h1 h2 hd
  obtain ⟨rfl, rfl, rfl, rfl⟩ := hd
  subst h0 h1 h2
  unfold restW
  show goR (dig m.line :: _) (stepR [108, 105, 110, 101] (dig m.line :: _) _) = _
  rw [go_dig]
  have s1 : ∀ (r : List (List UInt8)) (x : Msg), stepR [108, 105, 110, 101] (dig m.line :: r) x = { x with line := m.line } := fun r x => by
    unfold stepR; rw [if_pos rfl]; show { x with line := valR (dig m.line) } = _; rw [val_dig]
  rw [s1]
  have s2 : ∀ (r : List (List UInt8)) (x : Msg), x.asker = 0 → goR (e4 m ++ r) x = goR r { x with asker := m.asker } := fun r x hx => by
    unfold e4
    by_cases h : m.asker = 0
    · rw [if_pos h, h, ← hx]; rfl
    · rw [if_neg h]
      show goR (dig m.asker :: r) (stepR [97, 115, 107, 101, 114] (dig m.asker :: r) x) = _
      rw [go_dig]; unfold stepR; rw [if_neg (by decide), if_pos rfl]; show goR r { x with asker := valR (dig m.asker) } = _; rw [val_dig]
  have s3 : ∀ (r : List (List UInt8)) (x : Msg), x.acks = 0 → goR (e5 m ++ r) x = goR r { x with acks := m.acks } := fun r x hx => by
    unfold e5
    by_cases h : m.acks = 0
    · rw [if_pos h, h, ← hx]; rfl
    · rw [if_neg h]
      show goR (dig m.acks :: r) (stepR [97, 99, 107, 115] (dig m.acks :: r) x) = _
      rw [go_dig]; unfold stepR; rw [if_neg (by decide), if_neg (by decide), if_pos rfl]; show goR r { x with acks := valR (dig m.acks) } = _; rw [val_dig]
  have s4 : ∀ (r : List (List UInt8)) (x : Msg), x.alone = false → goR (e6 m ++ r) x = goR r { x with alone := m.alone } := fun r x hx => by
    unfold e6
    by_cases h : m.alone = true
    · rw [if_pos h, h]
      show goR r (stepR [97, 108, 111, 110, 101] r x) = _
      unfold stepR; rw [if_neg (by decide), if_neg (by decide), if_neg (by decide), if_pos rfl]
    · rw [if_neg h]
      have : m.alone = false := by simpa using h
      rw [this, ← hx]; rfl
  have s5 : ∀ (x : Msg), (x.d0 = 0 ∧ x.d1 = 0 ∧ x.d2 = 0 ∧ x.d3 = 0) → goR (e7 m) x = { x with d0 := m.d0, d1 := m.d1, d2 := m.d2, d3 := m.d3 } := fun x hx => by
    unfold e7
    by_cases h : m.d0 = 0 ∧ m.d1 = 0 ∧ m.d2 = 0 ∧ m.d3 = 0
    · rw [if_pos h, h.1, h.2.1, h.2.2.1, h.2.2.2]
      obtain ⟨_, _, _, _, _, _, _, _, _, _, _⟩ := x
      obtain ⟨rfl, rfl, rfl, rfl⟩ := hx; rfl
    · rw [if_neg h]
      show goR [dig m.d0, dig m.d1, dig m.d2, dig m.d3] (stepR [100, 97, 116, 97] [dig m.d0, dig m.d1, dig m.d2, dig m.d3] x) = _
      rw [go_dig, go_dig, go_dig, go_dig]
      unfold stepR; rw [if_neg (by decide), if_neg (by decide), if_neg (by decide), if_neg (by decide), if_pos rfl]
      show { x with d0 := valR (dig m.d0), d1 := valR (dig m.d1), d2 := valR (dig m.d2), d3 := valR (dig m.d3) } = _
      rw [val_dig, val_dig, val_dig, val_dig]
  rw [s2 _ _ rfl, s3 _ _ rfl, s4 _ _ rfl, s5 _ ⟨rfl, rfl, rfl, rfl⟩]
theorem cand_text (m : Msg) : candR (sp [] (textOf m)) = m := by
  rw [sp_text]
  have tail : ∀ k, go1 (dig m.from_ :: dig m.to :: restW m) { zeroM with kind := k } = { m with kind := k } := fun k => by
    show goR (dig m.to :: restW m) { { zeroM with kind := k } with from_ := valR (dig m.from_), «to» := valR (dig m.to) } = _
    rw [go_dig, val_dig, val_dig, go_rest m _ rfl rfl rfl ⟨rfl, rfl, rfl, rfl⟩]
  unfold w0
  by_cases h : classOf m.kind = 0
  · rw [if_pos h]
    refine (cand_kind _ _).trans ?_
    rw [kfold_dig, val_dig]
    exact tail m.kind
  · rw [if_neg h]
    have hk : ((List.range 256).all fun k => decide (classes.getD k 0 = 0) || (!decide (kindNames.getD k [] = [107, 105, 110, 100]) && decide (kfold (kindNames.getD k []) 12 0 = UInt8.ofNat k))) = true := by kernel_rfl
    have h2 := List.all_eq_true.1 hk m.kind.toNat (List.mem_range.2 m.kind.toNat_lt)
    have h3 : ¬ classes.getD m.kind.toNat 0 = 0 := h
    rw [decide_eq_false h3, Bool.false_or, Bool.and_eq_true, UInt8.ofNat_toNat] at h2
    have h4 : ¬ kindNames.getD m.kind.toNat [] = [107, 105, 110, 100] := by simpa using h2.1
    have h5 := of_decide_eq_true h2.2
    refine (cand_name _ h4).trans ?_
    rw [h5]
    exact tail m.kind
/-- What the reference's Parse returns. -/
def parseR (s : List UInt8) : Msg × Int := if textOf (candR (sp [] s)) = s then (candR (sp [] s), 0) else (zeroM, 170)
theorem parse_same (s : List UInt8) : parseR s = parseL s := by
  unfold parseR
  by_cases h : ∃ m, textOf m = s
  · obtain ⟨m, rfl⟩ := h
    rw [cand_text, if_pos rfl, parse_text]
  · rw [if_neg (fun e => h ⟨_, e⟩)]
    unfold parseL
    rw [if_neg (fun e => h ⟨_, e.2⟩)]
end Go.Proofs.YtkekidalckflhaaGreatDoor
namespace Go.Proofs.YtkekidalckflhaaGreatDoor
open Go.Vc Go.RowKit Go.Sei

theorem readL_ok {l : List UInt8} (h : (readL l).2 = true) : codeOf (readL l).1 = l := by
  unfold readL at h ⊢
  split
  · rename_i b0 b1 b2 b3 b4 b5 b6 b7 b8 b9 b10
    split
    · rename_i h6
      have : (if b6 = 1 then (1 : UInt8) else 0) = b6 := by
        have h3 : b6.toNat = 0 ∨ b6.toNat = 1 := by omega
        rcases h3 with h3 | h3
        · have : b6 = 0 := UInt8.toNat_inj.1 h3
          subst this; rfl
        · have : b6 = 1 := UInt8.toNat_inj.1 h3
          subst this; rfl
      simp only [codeOf, decide_eq_true_eq, this]
    · simp_all
  · simp_all
theorem readL_no {l : List UInt8} (h : (readL l).2 = false) : (readL l).1 = zeroM := by
  unfold readL at h ⊢
  split
  · split
    · simp_all
    · rfl
  · rfl
theorem parseL_ok {s : List UInt8} (h : (parseL s).2 = 0) : textOf (parseL s).1 = s := by
  unfold parseL at h ⊢
  split
  · rename_i hh; exact hh.2
  · rename_i hh; rw [if_neg hh] at h; simp at h
theorem parseL_no {s : List UInt8} (h : (parseL s).2 ≠ 0) : (parseL s).1 = zeroM ∧ (parseL s).2 = 170 := by
  unfold parseL at h ⊢
  split
  · rename_i hh; rw [if_pos hh] at h; simp at h
  · exact ⟨rfl, rfl⟩
theorem conv_arg {w : World} {p : Option Addr} {cap : Nat} {l : List UInt8} (h : SlR byteE w p l) (w2 : World) (hb : Below w.heap.size w w2) :
    (convert 33 9 (.slice p l.length cap)).run Tryz.prog w2 = .ok (strV l) w2 := by
  have h2 := h.below hb
  cases p with
  | none =>
    have hl : l = [] := h2.none
    subst hl
    exact run_convert_bytes_nil (P := Tryz.prog) (w := w2) 33 5 Tryz.underlying33 Tryz.underlying5 0 cap 9 Tryz.underlying9
  | some a =>
    cases l with
    | nil =>
      obtain ⟨b, o, f⟩ := a
      have := run_convert_bytes_string w2 33 9 5 (some ⟨b, o, f⟩) 0 cap Tryz.underlying33 Tryz.underlying5 Tryz.underlying9
      rw [show ([] : List UInt8).length = 0 from rfl, this]
      rfl
    | cons x r =>
      obtain ⟨b, o, hp, hbk, hcl⟩ := h2.at (i := 0) (by simp)
      obtain rfl := Option.some.inj hp
      have := run_convert_bytes_arg (P := Tryz.prog) w2 33 5 Tryz.underlying33 Tryz.underlying5 b o (x :: r).length cap ((x :: r).map fun b => (b.toNat : Int)) (by simp) (fun i hi => by
        have h3 : w2.cell? ⟨b, o + i * 1, none⟩ = some (u8 ((x :: r)[i]'hi)) := cells_head (hcl i hi)
        rw [Nat.mul_one] at h3
        have h4 : ((x :: r).map fun b => (b.toNat : Int)).getD i 0 = (((x :: r)[i]'hi).toNat : Int) := by
          rw [List.getD_eq_getElem?_getD, List.getElem?_map, List.getElem?_eq_getElem hi]; rfl
        rw [h3, h4]; rfl) 9 Tryz.underlying9
      rw [this, strOfNums_u8]; rfl
end Go.Proofs.YtkekidalckflhaaGreatDoor
namespace Go.Proofs.YtkekidalckflhaaGreatDoor
open Go.Vc Go.RowKit Go.Sei

theorem NamesR_c (w : World) : Calls Tryz.prog 32 #[] w fun e w' => e = .returned (.slice (some ⟨w.heap.size, 0, none⟩) 12 12) ∧ w' = w.alloc (.cells (namesR.map strV).toArray 9) := by
  refine calls_of_E (S := sg 2) (sgOk _) (args := []) Tryz.func32 rfl rfl (Nat.le_of_ble_eq_true rfl) rfl ?_
  refine ⟨⟨by decide, by decide, rfl⟩, namesR.map strV, by kernel_rfl, ?_⟩
  exact And.intro rfl rfl
theorem names_row (w : World) : SlR strE (w.alloc (.cells (namesR.map strV).toArray 9)) (some ⟨w.heap.size, 0, none⟩) namesR :=
  SlR.of_cells (by simp) (by rw [strE_flat]; exact cells_new)
theorem names_at {w V : World} (hb : Below (w.alloc (.cells (namesR.map strV).toArray 9)).heap.size (w.alloc (.cells (namesR.map strV).toArray 9)) V) {k : Nat} (hk : k < 12) :
    V.cell? ⟨w.heap.size, 0 + k * 1, none⟩ = some (strV (namesR.getD k [])) := by
  have h : (namesR.map strV)[k]? = some (strV (namesR.getD k [])) := by
    have hl : k < namesR.length := hk
    rw [List.getElem?_map, List.getElem?_eq_getElem hl, List.getD_eq_getElem?_getD, List.getElem?_eq_getElem hl]; rfl
  have hc : Cells (w.alloc (.cells (namesR.map strV).toArray 9)) ⟨w.heap.size, 0, none⟩ (namesR.map strV) := cells_new
  have := cells_at (cells_below hb hc) h
  rw [Nat.mul_one]; exact this

/-! ### number -/
def outD (n : Nat) : Nat → List UInt8
  | 0 => [UInt8.ofNat (48 + n % 10)]
  | j + 1 => UInt8.ofNat (48 + n / 10 ^ (j + 1) % 10) :: outD n j
theorem outD_end : ∀ n j : Nat, n < 256 → j < 3 → n / 10 ^ j ≤ 9 → (j = 0 ∨ 9 < n / 10 ^ (j - 1)) → outD n j = dig3 n := by
  have h : ((List.range 256).all fun n => (List.range 3).all fun j => !(Nat.ble (n / 10 ^ j) 9 && (Nat.beq j 0 || Nat.blt 9 (n / 10 ^ (j - 1)))) || decide (outD n j = dig3 n)) = true := by kernel_rfl
  intro n j hn hj h1 h2
  have h3 := List.all_eq_true.1 (List.all_eq_true.1 h n (List.mem_range.2 hn)) j (List.mem_range.2 hj)
  have e1 : Nat.ble (n / 10 ^ j) 9 = true := Nat.ble_eq_true_of_le h1
  have e2 : (Nat.beq j 0 || Nat.blt 9 (n / 10 ^ (j - 1))) = true := by
    rcases h2 with rfl | h2
    · rfl
    · rw [show Nat.blt 9 (n / 10 ^ (j - 1)) = true from Nat.ble_eq_true_of_le h2, Bool.or_true]
  rw [e1, e2] at h3
  exact of_decide_eq_true h3
theorem outD_len (n : Nat) : ∀ j, (outD n j).length = j + 1
  | 0 => rfl
  | j + 1 => by show (outD n j).length + 1 = _; rw [outD_len n j]
theorem d_u8 (k : Nat) : IntKind.u8.wrap (48 + ((k % 10 : Nat) : Int)) = ((UInt8.ofNat (48 + k % 10)).toNat : Int) := by
  have h : k % 10 < 10 := Nat.mod_lt _ (by decide)
  obtain ⟨q, hq⟩ : ∃ q, q = k % 10 := ⟨_, rfl⟩
  rw [← hq] at h ⊢
  rw [UInt8.toNat_ofNat', Nat.mod_eq_of_lt (by omega), wrap_u8 (by omega)]
  omega
theorem tmod_nat10 (a : Nat) : (a : Int).tmod 10 = ((a % 10 : Nat) : Int) := rfl
theorem tdiv_nat10 (a : Nat) : (a : Int).tdiv 10 = ((a / 10 : Nat) : Int) := rfl
theorem numberR_c (n : UInt8) (w : World) : Calls Tryz.prog 31 #[u8 n] w fun e w' => e = .returned (strV (dig n)) ∧ Below w.heap.size w w' := by
  refine calls_of_M (S := sg 21) (sgOk _) (args := [u8 n]) (.s .p (.c .p .p)) Tryz.func31 rfl rfl (Nat.le_of_ble_eq_true rfl) rfl ?_
  have hn := n.toNat_lt
  refine ⟨Unit, fun _ => ⟨[(0, .int .u8 ((n.toNat / 10 ^ 0 : Nat) : Int)), (3, strV (outD n.toNat 0))], []⟩, fun _ V => Below w.heap.size w V, ?_, ?_⟩
  · refine ⟨by decide, ((n.toNat % 10 : Nat) : Int), tmod_nat10 n.toNat, ?_⟩
    refine ⟨((UInt8.ofNat (48 + n.toNat % 10)).toNat : Int), d_u8 n.toNat, ?_⟩
    refine ⟨⟨by decide, by decide, rfl⟩, [u8 (UInt8.ofNat (48 + n.toNat % 10))], rfl, ?_⟩
    have f := hnew w (.cells [u8 (UInt8.ofNat (48 + n.toNat % 10))].toArray 5)
    refine ⟨_, fun w2 hb => conv_str (l := outD n.toNat 0) f rfl w2 hb, ?_⟩
    refine ⟨(), ⟨.cons ?_ (.cons rfl .nil), rfl⟩, (Below.refl _ _).alloc (Nat.le_refl _) _⟩
    rw [Nat.pow_zero, Nat.div_one]; rfl
  rintro _ V hb
  refine ⟨Nat, fun j => ⟨[(0, .int .u8 ((n.toNat / 10 ^ j : Nat) : Int)), (3, strV (outD n.toNat j))], []⟩, fun j X => j < 3 ∧ (j = 0 ∨ 9 < n.toNat / 10 ^ (j - 1)) ∧ Below w.heap.size w X, fun j => 3 - j, 0, ⟨.cons rfl (.cons rfl .nil), rfl⟩, ⟨by decide, .inl rfl, hb⟩, ?_⟩
  rintro j X ⟨hj, hprev, hbX⟩
  have hq9 : n.toNat / 10 ^ j ≤ n.toNat := Nat.div_le_self _ _
  obtain ⟨q, hq⟩ : ∃ q, q = n.toNat / 10 ^ j := ⟨_, rfl⟩
  refine And.intro (fun h => ?_) (fun h => ?_)
  · have h : (9 : Int) < ((n.toNat / 10 ^ j : Nat) : Int) := of_decide_eq_true h
    rw [← hq] at h hq9
    have hj2 : j < 2 := by
      refine Nat.lt_of_not_le fun h2 => ?_
      have : j = 2 := by omega
      subst this
      have : q = n.toNat / 100 := hq
      omega
    have hd : q / 10 = n.toNat / 10 ^ (j + 1) := by rw [hq, Nat.div_div_eq_div_mul, Nat.pow_succ]
    refine ⟨by decide, ((q / 10 : Nat) : Int), by rw [← hq]; exact (congrArg _ (tdiv_nat10 q)).trans (wrap_u8 (by omega)), ?_⟩
    refine ⟨by decide, ((q / 10 % 10 : Nat) : Int), tmod_nat10 (q / 10), ?_⟩
    refine ⟨((UInt8.ofNat (48 + q / 10 % 10)).toNat : Int), d_u8 (q / 10), ?_⟩
    refine ⟨⟨by decide, by decide, rfl⟩, [u8 (UInt8.ofNat (48 + q / 10 % 10))], rfl, ?_⟩
    have f := hnew X (.cells [u8 (UInt8.ofNat (48 + q / 10 % 10))].toArray 5)
    refine ⟨_, fun w2 hb => conv_str (l := [UInt8.ofNat (48 + q / 10 % 10)]) f rfl w2 hb, ?_⟩
    refine ⟨_, fun w => add_str _ _ [UInt8.ofNat (48 + q / 10 % 10)] (outD n.toNat j) (by rw [outD_len]; simp; omega) w, ?_⟩
    refine ⟨j + 1, ⟨.cons ?_ (.cons ?_ .nil), rfl⟩, ⟨by omega, .inr ?_, hbX.alloc hbX.size _⟩, by dsimp only; omega⟩
    · rw [← hd]; rfl
    · show _ = some (strV (UInt8.ofNat (48 + n.toNat / 10 ^ (j + 1) % 10) :: outD n.toNat j))
      rw [← hd]; rfl
    · rw [Nat.add_sub_cancel, ← hq]; omega
  · have h : ¬ (9 : Int) < ((n.toNat / 10 ^ j : Nat) : Int) := of_decide_eq_false h
    refine And.intro ?_ hbX
    rw [dig_eq, ← outD_end n.toNat j hn hj (by omega) hprev]; rfl
end Go.Proofs.YtkekidalckflhaaGreatDoor
namespace Go.Sei

/-- Elements with their places: the order under which a stable sort is a sort. -/
structure MOrd (α : Type) where
  lt : α → α → Bool
  irr : ∀ a, lt a a = false
  trans : ∀ a b c, lt a b = true → lt b c = true → lt a c = true
  neg : ∀ a b c, lt a b = false → lt b c = false → lt a c = false

abbrev Tg (α : Type) := α × Nat
def lt2 {α : Type} (O : MOrd α) (x y : Tg α) : Prop := O.lt x.1 y.1 = true ∨ (O.lt y.1 x.1 = false ∧ x.2 < y.2)
def Srt {α : Type} (O : MOrd α) (l : List (Tg α)) : Prop := l.Pairwise (lt2 O)

section
variable {α : Type} {O : MOrd α}
theorem MOrd.asymm (O : MOrd α) {a b : α} (h : O.lt a b = true) : O.lt b a = false := by
  cases hb : O.lt b a with
  | false => rfl
  | true => have := O.trans a b a h hb; rw [O.irr] at this; cases this
theorem lt2_irr {x : Tg α} : ¬ lt2 O x x := by
  rintro (h | ⟨_, h⟩)
  · rw [O.irr] at h; cases h
  · omega
theorem lt2_trans {x y z : Tg α} (h1 : lt2 O x y) (h2 : lt2 O y z) : lt2 O x z := by
  rcases h1 with h1 | ⟨h1, h1'⟩
  · rcases h2 with h2 | ⟨h2, h2'⟩
    · exact .inl (O.trans _ _ _ h1 h2)
    · left
      cases h : O.lt x.1 z.1 with
      | true => rfl
      | false =>
        have := O.neg _ _ _ h h2
        rw [this] at h1; cases h1
  · rcases h2 with h2 | ⟨h2, h2'⟩
    · left
      cases h : O.lt x.1 z.1 with
      | true => rfl
      | false =>
        have := O.neg _ _ _ h1 h
        rw [this] at h2; cases h2
    · exact .inr ⟨O.neg _ _ _ h2 h1, by omega⟩
theorem lt2_asymm {x y : Tg α} (h1 : lt2 O x y) (h2 : lt2 O y x) : False := lt2_irr (lt2_trans h1 h2)
theorem lt2_total {x y : Tg α} (h : x.2 ≠ y.2) : lt2 O x y ∨ lt2 O y x := by
  cases h1 : O.lt x.1 y.1 with
  | true => exact .inl (.inl h1)
  | false =>
    cases h2 : O.lt y.1 x.1 with
    | true => exact .inr (.inl h2)
    | false =>
      rcases Nat.lt_or_gt_of_ne h with h3 | h3
      · exact .inl (.inr ⟨h2, h3⟩)
      · exact .inr (.inr ⟨h1, h3⟩)

/-- A sorted permutation is unique. -/
theorem srt_unique : ∀ {l1 l2 : List (Tg α)}, Srt O l1 → Srt O l2 → l1.Perm l2 → l1 = l2
  | [], l2, _, _, hp => by simpa using hp.symm
  | a :: r, [], _, _, hp => by simp at hp
  | a :: r, b :: s, h1, h2, hp => by
    have h1' := List.pairwise_cons.1 h1
    have h2' := List.pairwise_cons.1 h2
    have hab : a = b := by
      have ha : a ∈ b :: s := hp.mem_iff.1 List.mem_cons_self
      have hb : b ∈ a :: r := hp.mem_iff.2 List.mem_cons_self
      rcases List.mem_cons.1 ha with e | ha
      · exact e
      · rcases List.mem_cons.1 hb with e | hb
        · exact e.symm
        · exact (lt2_asymm (h1'.1 b hb) (h2'.1 a ha)).elim
    subst hab
    rw [srt_unique h1'.2 h2'.2 ((List.perm_cons a).1 hp)]

theorem ends_lt {X Y : List (Tg α)} (hX : Srt O X) (hY : Srt O Y) (h : ∀ z u, X.getLast? = some z → Y.head? = some u → lt2 O z u) : ∀ x ∈ X, ∀ y ∈ Y, lt2 O x y := by
  intro x hx y hy
  rcases List.eq_nil_or_concat X with e | ⟨X', z, e⟩
  · subst e; cases hx
  · rw [List.concat_eq_append] at e
    subst e
    cases Y with
    | nil => cases hy
    | cons u r =>
      have h0 := h z u (by simp) rfl
      have h1 : x = z ∨ lt2 O x z := by
        rcases List.mem_append.1 hx with hx | hx
        · exact .inr ((List.pairwise_append.1 hX).2.2 x hx z (by simp))
        · exact .inl (by simpa using hx)
      have h2 : lt2 O x u := by
        rcases h1 with rfl | h1
        · exact h0
        · exact lt2_trans h1 h0
      rcases List.mem_cons.1 hy with rfl | hy
      · exact h2
      · exact lt2_trans h2 ((List.pairwise_cons.1 hY).1 y hy)

/-- The two halves of a merge, each merged. -/
theorem mrg_combine {L1 L2 R1 R2 S1 S2 : List (Tg α)} (hL : Srt O (L1 ++ L2)) (hR : Srt O (R1 ++ R2)) (h12 : ∀ x ∈ L1, ∀ y ∈ R2, lt2 O x y) (h21 : ∀ y ∈ R1, ∀ x ∈ L2, lt2 O y x)
    (s1 : Srt O S1) (p1 : S1.Perm (L1 ++ R1)) (s2 : Srt O S2) (p2 : S2.Perm (L2 ++ R2)) : Srt O (S1 ++ S2) ∧ (S1 ++ S2).Perm (L1 ++ L2 ++ (R1 ++ R2)) := by
  refine ⟨List.pairwise_append.2 ⟨s1, s2, fun x hx y hy => ?_⟩, ?_⟩
  · rcases List.mem_append.1 (p1.mem_iff.1 hx) with hx | hx <;> rcases List.mem_append.1 (p2.mem_iff.1 hy) with hy | hy
    · exact (List.pairwise_append.1 hL).2.2 x hx y hy
    · exact h12 x hx y hy
    · exact h21 x hx y hy
    · exact (List.pairwise_append.1 hR).2.2 x hx y hy
  · refine (p1.append p2).trans ?_
    rw [List.append_assoc, List.append_assoc]
    refine List.Perm.append_left L1 ?_
    rw [← List.append_assoc, ← List.append_assoc]
    exact List.Perm.append_right R2 List.perm_append_comm

/-- Between a left element and a right one the comparison tells all. -/
theorem cross_lt {x y : Tg α} (h : x.2 < y.2) : (O.lt y.1 x.1 = true → lt2 O y x) ∧ (O.lt y.1 x.1 = false → lt2 O x y) :=
  ⟨fun h1 => .inl h1, fun h1 => .inr ⟨h1, h⟩⟩
end
end Go.Sei
namespace Go.Proofs.YtkekidalckflhaaGreatDoor
open Go.Vc Go.RowKit Go.Sei

theorem cmp8_lt {x y : UInt8} : cmp8 x y < 0 ↔ x.toNat < y.toNat := by
  unfold cmp8; split
  · simp_all
  · split
    · simp; omega
    · simp; omega
theorem cmpL_self : ∀ l, cmpL l l = 0
  | [] => rfl
  | x :: r => by rw [cmpL, if_pos rfl]; exact cmpL_self r
theorem cmpL_lt_cons {x y : UInt8} {r s : List UInt8} : cmpL (x :: r) (y :: s) < 0 ↔ x.toNat < y.toNat ∨ (x = y ∧ cmpL r s < 0) := by
  rw [cmpL]; split
  · rename_i h; subst h; simp
  · rename_i h
    rw [cmp8_lt]; simp [h]
theorem cmpL_total : ∀ l1 l2, cmpL l1 l2 < 0 ∨ cmpL l2 l1 < 0 ∨ l1 = l2
  | [], [] => by simp
  | [], _ :: _ => .inl (by simp [cmpL])
  | _ :: _, [] => .inr (.inl (by simp [cmpL]))
  | x :: r, y :: s => by
    rw [cmpL_lt_cons, cmpL_lt_cons]
    rcases Nat.lt_trichotomy x.toNat y.toNat with h | h | h
    · exact .inl (.inl h)
    · have e : x = y := UInt8.toNat_inj.1 h
      subst e
      rcases cmpL_total r s with h | h | h
      · exact .inl (.inr ⟨rfl, h⟩)
      · exact .inr (.inl (.inr ⟨rfl, h⟩))
      · exact .inr (.inr (by rw [h]))
    · exact .inr (.inl (.inl h))
theorem cmpL_trans : ∀ l1 l2 l3, cmpL l1 l2 < 0 → cmpL l2 l3 < 0 → cmpL l1 l3 < 0
  | [], [], _, h, _ => by simp [cmpL] at h
  | _ :: _, [], _, h, _ => by simp [cmpL] at h
  | [], _ :: _, [], _, h => by simp [cmpL] at h
  | [], _ :: _, _ :: _, _, _ => by simp [cmpL]
  | _ :: _, _ :: _, [], _, h => by simp [cmpL] at h
  | x :: r, y :: s, z :: t, h1, h2 => by
    rw [cmpL_lt_cons] at *
    rcases h1 with h1 | ⟨rfl, h1⟩
    · rcases h2 with h2 | ⟨rfl, h2⟩
      · exact .inl (by omega)
      · exact .inl h1
    · rcases h2 with h2 | ⟨rfl, h2⟩
      · exact .inl h2
      · exact .inr ⟨rfl, cmpL_trans r s t h1 h2⟩

/-- Messages by a key. -/
def keyO (key : Msg → List UInt8) : MOrd Msg where
  lt a b := decide (cmpL (key a) (key b) < 0)
  irr a := by rw [cmpL_self]; rfl
  trans a b c h1 h2 := decide_eq_true (cmpL_trans _ _ _ (of_decide_eq_true h1) (of_decide_eq_true h2))
  neg a b c h1 h2 := by
    have h1 := of_decide_eq_false h1
    have h2 := of_decide_eq_false h2
    refine decide_eq_false fun h => ?_
    rcases cmpL_total (key a) (key b) with k | k | k
    · exact h1 k
    · rcases cmpL_total (key b) (key c) with q | q | q
      · exact h2 q
      · have := cmpL_trans _ _ _ (cmpL_trans _ _ _ h q) k
        rw [cmpL_self] at this; cases this
      · rw [← q] at h; exact h1 (by have := cmpL_trans _ _ _ h k; rw [cmpL_self] at this; cases this)
    · rw [k] at h; exact h2 h
theorem codeOf_inj {a b : Msg} (h : codeOf a = codeOf b) : a = b := by
  obtain ⟨a0, a1, a2, a3, a4, a5, a6, a7, a8, a9, a10⟩ := a
  obtain ⟨b0, b1, b2, b3, b4, b5, b6, b7, b8, b9, b10⟩ := b
  simp only [codeOf, List.cons.injEq, and_true] at h
  obtain ⟨rfl, rfl, rfl, rfl, rfl, rfl, h, rfl, rfl, rfl, rfl⟩ := h
  have : a6 = b6 := by cases a6 <;> cases b6 <;> simp at h ⊢
  rw [this]

/-- The key of a message in a mode. -/
def qbs (mode : UInt8) (m : Msg) : List UInt8 := [(queue m mode).1, (queue m mode).2.1, (queue m mode).2.2]
def mkey (mode : UInt8) (m : Msg) : List UInt8 := if mode = 1 then codeOf m else qbs mode m
end Go.Proofs.YtkekidalckflhaaGreatDoor
namespace Go.Proofs.YtkekidalckflhaaGreatDoor
open Go.Vc Go.RowKit Go.Sei

def les (a b : Msg) : Bool := decide (cmpL (codeOf a) (codeOf b) < 0)
theorem les_trans {a b c : Msg} (h : les a b = true) (k : les b c = true) : les a c = true := decide_eq_true (cmpL_trans _ _ _ (of_decide_eq_true h) (of_decide_eq_true k))
theorem les_asymm {a c : Msg} (h : les a c = true) : les c a = false := by
  cases hc : les c a with
  | false => rfl
  | true =>
    have := les_trans h hc
    have := of_decide_eq_true this
    rw [cmpL_self] at this; cases this
end Go.Proofs.YtkekidalckflhaaGreatDoor
namespace Go.Proofs.YtkekidalckflhaaGreatDoor
open Go.Vc Go.RowKit Go.Sei

theorem eq_bool (d : Nat) (a b : Bool) (w : World) : (Op.equalIn (d + 1) 4 (.bool a) (.bool b)).run Tryz.prog w = .ok (decide (a = b)) w := by
  simp only [Op.equalIn, Sem.run_bind, run_underlying Tryz.underlying4, Result.andThen_ok, Sem.run_pure]
  cases a <;> cases b <;> rfl
theorem eql_bool (x y : Operand) (a b : Bool) (w : World) : (do eqGuard .eql 4 x y (.bool a) (.bool b); binOp .eql 4 (.bool a) (.bool b)).run Tryz.prog w = .ok (.bool (decide (a = b))) w := by
  have h : (Op.equal 4 (.bool a) (.bool b)).run Tryz.prog w = .ok (decide (a = b)) w := eq_bool 9999 a b w
  have h1 : (eqGuard .eql 4 x y (.bool a) (.bool b)).run Tryz.prog w = .ok () w := rfl
  rw [Sem.run_bind, h1]
  simp only [Result.andThen_ok, binOp, Sem.run_bind, h, Sem.run_pure]
theorem bytesLess_cmp : ∀ (a b : List UInt8), Op.bytesLess a b = decide (cmpL a b < 0)
  | [], [] => rfl
  | _ :: _, [] => rfl
  | [], _ :: _ => rfl
  | x :: r, y :: s => by
    have ih := bytesLess_cmp r s
    unfold Op.bytesLess
    rw [ih]
    have h := @cmpL_lt_cons x y r s
    by_cases hxy : x < y
    · have : x.toNat < y.toNat := UInt8.lt_iff_toNat_lt.1 hxy
      rw [decide_eq_true (h.2 (.inl this))]; simp [hxy]
    · have hn : ¬ x.toNat < y.toNat := fun e => hxy (UInt8.lt_iff_toNat_lt.2 e)
      by_cases he : x = y
      · subst he
        by_cases hc : cmpL r s < 0
        · rw [decide_eq_true hc, decide_eq_true (h.2 (.inr ⟨rfl, hc⟩))]; simp
        · rw [decide_eq_false hc, decide_eq_false (fun e => (h.1 e).elim hn fun e => hc e.2)]; simp [hxy]
      · rw [decide_eq_false (fun e => (h.1 e).elim hn fun e => he e.1)]; simp [hxy, he]
theorem lss_str (x y : Operand) (a b : List UInt8) (w : World) : (do eqGuard .lss 9 x y (strV a) (strV b); binOp .lss 9 (strV a) (strV b)).run Tryz.prog w = .ok (.bool (decide (cmpL a b < 0))) w := by
  have h1 : (eqGuard .lss 9 x y (strV a) (strV b)).run Tryz.prog w = .ok () w := rfl
  rw [Sem.run_bind, h1, Result.andThen_ok]
  show (Op.stringOp .lss (bs a) (bs b)).run Tryz.prog w = _
  simp only [Op.stringOp, Sem.run_pure, ByteArray.toList_eq, bs_list, bytesLess_cmp]

theorem read_code (m : Msg) : readL (codeOf m) = (m, true) := by
  obtain ⟨_, _, _, _, _, _, al, _, _, _, _⟩ := m
  cases al <;> rfl
theorem read_own (m : Msg) (g : Nat) (t : TypeId) (w : World) (h : w.heap[g]? = some (.cells ((codeOf m).map u8).toArray t (0, 0))) :
    Calls Tryz.prog 33 #[.slice (some ⟨g, 0, none⟩) 11 11] w fun e w' => e = .returned (.tuple #[m.val, .bool true]) ∧ Below w.heap.size w w' := by
  have := Read_c (some ⟨g, 0, none⟩) 11 (codeOf m) w (bytes_row h) (Nat.le_refl _)
  rw [read_code] at this
  exact this
theorem text_short (m : Msg) : (textOf m).length ≤ 4294967280 := by
  have h := join_len (w5 m) (w_word m)
  have h2 := (w_len m).2.2.2.2.2
  have h3 : (textOf m).length = (Lib.join (w5 m) [32]).length := rfl
  omega
theorem parse_own (m : Msg) (w : World) (hg : GlobM w) : Calls Tryz.prog 17 #[strV (textOf m)] w fun e w' => e = .returned (.tuple #[m.val, .int .i64 0]) ∧ Below w.heap.size w w' := by
  have := Parse_c (textOf m) (text_short m) w hg
  rw [parse_text] at this
  exact this
theorem les_self (m : Msg) : les m m = false := by unfold les; rw [cmpL_self]; rfl
theorem les_total {m o : Msg} (h : m ≠ o) : les m o = true ∨ les o m = true := by
  rcases cmpL_total (codeOf m) (codeOf o) with k | k | k
  · exact .inl (decide_eq_true k)
  · exact .inr (decide_eq_true k)
  · exact absurd (code_inj k) h
end Go.Proofs.YtkekidalckflhaaGreatDoor
namespace Go.Proofs.YtkekidalckflhaaGreatDoor
open Go.Vc Go.RowKit Go.Sei

/-! ### value -/
theorem valN_snoc (c : UInt8) : ∀ (l : List UInt8) (n : Nat), valN (l ++ [c]) n = 10 * valN l n + (c - 48).toNat
  | [], _ => rfl
  | x :: l, n => by show valN (l ++ [c]) _ = 10 * valN l _ + _; exact valN_snoc c l _
theorem sub48 (c : UInt8) : IntKind.u8.wrap ((c.toNat : Int) - 48) = ((c - 48).toNat : Int) := by
  have h : ((List.range 256).all fun k => decide (IntKind.u8.wrap ((k : Int) - 48) = ((UInt8.ofNat k - 48).toNat : Int))) = true := by kernel_rfl
  have := of_decide_eq_true (List.all_eq_true.1 h c.toNat (List.mem_range.2 c.toNat_lt))
  rw [UInt8.ofNat_toNat] at this
  exact this
def vb : Nat → Nat
  | 0 => 0
  | 1 => 255
  | 2 => 2805
  | _ => 28305
theorem valueR_c (s : List UInt8) (hs : s.length ≤ 1000000000) (w : World) : Calls Tryz.prog 50 #[strV s] w fun e w' => e = .returned (u8 (valR s)) ∧ w = w' := by
  refine calls_of_M (S := sg 25) (sgOk _) (args := [strV s]) (.s .p (.s .p .p)) Tryz.func50 rfl rfl (Nat.le_of_ble_eq_true rfl) rfl ?_
  refine ⟨Nat, fun i => ⟨[(0, strV s), (3, .int .i64 (valN (s.take i) 0 : Nat)), (4, .int .i64 (i : Nat))], []⟩, fun i X => i ≤ 3 ∧ i ≤ s.length ∧ valN (s.take i) 0 ≤ vb i ∧ w = X, fun i => 3 - i, 0, ⟨.cons rfl (.cons rfl (.cons rfl .nil)), rfl⟩, ⟨by decide, by omega, Nat.le_refl _, rfl⟩, ?_⟩
  rintro i _ ⟨hi3, hil, hvb, rfl⟩
  have hend : ¬ (i < s.length ∧ i < 3) → u8 (valR s) = .int .u8 (((UInt8.ofNat (valN (s.take i) 0)).toNat : Nat) : Int) := fun h => by
    have : s.take i = s.take 3 := by
      rcases Nat.lt_or_ge i s.length with h1 | h1
      · have : i = 3 := by omega
        rw [this]
      · rw [List.take_of_length_le (by omega), List.take_of_length_le (by omega)]
    rw [this]; rfl
  have hstep : ∀ (hl : i < s.length), i < 3 → valN (s.take (i + 1)) 0 = 10 * valN (s.take i) 0 + (s[i] - 48).toNat ∧ valN (s.take (i + 1)) 0 ≤ vb (i + 1) := fun hl h3 => by
    have e : s.take (i + 1) = s.take i ++ [s[i]] := List.take_succ_eq_append_getElem hl
    have e2 := valN_snoc s[i] (s.take i) 0
    rw [e, e2]
    refine ⟨rfl, ?_⟩
    have hc := (s[i] - 48).toNat_lt
    have h3 : i = 0 ∨ i = 1 ∨ i = 2 := by omega
    rcases h3 with rfl | rfl | rfl <;> (simp only [vb] at hvb ⊢; omega)
  have hv3 : valN (s.take i) 0 ≤ 28305 := by
    have h3 : i = 0 ∨ i = 1 ∨ i = 2 ∨ i = 3 := by omega
    rcases h3 with rfl | rfl | rfl | rfl <;> (simp only [vb] at hvb; omega)
  refine And.intro (fun h => ?_) (fun h => ?_)
  · have h : (i : Int) < ((bs s).size : Nat) := of_decide_eq_true h
    have es : (bs s).size = s.length := rfl
    have hl : i < s.length := by omega
    refine And.intro (fun h3 => ?_) (fun h3 => ?_)
    · have h3 : (i : Int) < 3 := of_decide_eq_true h3
      obtain ⟨e1, e2⟩ := hstep hl (by omega)
      refine ⟨((10 * valN (s.take i) 0 : Nat) : Int), (wrap_i64 (by omega)).trans (by omega), ?_⟩
      refine ⟨i, rfl, hl, s[i], List.getElem?_eq_getElem hl, ?_⟩
      refine ⟨((s[i] - 48).toNat : Int), sub48 _, ?_⟩
      refine ⟨((s[i] - 48).toNat : Int), wrap_u8_i64 _, ?_⟩
      have hc := (s[i] - 48).toNat_lt
      refine ⟨((valN (s.take (i + 1)) 0 : Nat) : Int), by rw [e1]; exact (wrap_i64 (by omega)).trans (by omega), ?_⟩
      refine ⟨((i + 1 : Nat) : Int), (wrap_i64 (by omega)).trans (by omega), ?_⟩
      exact ⟨i + 1, ⟨.cons rfl (.cons rfl (.cons rfl .nil)), rfl⟩, ⟨by omega, hl, e2, rfl⟩, by dsimp only; omega⟩
    · have h3 : ¬ (i : Int) < 3 := of_decide_eq_false h3
      refine ⟨_, wrap_u8_nat _, ?_⟩
      exact And.intro (by rw [hend (by omega)]; rfl) rfl
  · have h : ¬ (i : Int) < ((bs s).size : Nat) := of_decide_eq_false h
    have es : (bs s).size = s.length := rfl
    refine And.intro (fun h => by cases h) (fun _ => ?_)
    refine ⟨_, wrap_u8_nat _, ?_⟩
    exact And.intro (by rw [hend (by omega)]; rfl) rfl

/-! ### Bytes -/
theorem BytesR_c (m : Msg) (w : World) : Calls Tryz.prog 13 #[m.val] w fun e w' => ∃ g, e = .returned (.slice (some ⟨g, 0, none⟩) 11 11) ∧ w'.heap[g]? = some (.cells ((codeOf m).map u8).toArray 5 (0, 0)) ∧ w.heap.size ≤ g ∧ Below w.heap.size w w' := by
  refine calls_of_M (S := sg 32) (sgOk _) (args := [m.val]) (.s .p (.s .p (.c .p .p))) Tryz.func13 rfl rfl (Nat.le_of_ble_eq_true rfl) rfl ?_
  have hb0 : Below w.heap.size w (w.alloc (.cells m.val.cells 27)) := (Below.refl _ _).alloc (Nat.le_refl _) _
  have f0 := hnew w (.cells m.val.cells 27)
  have c0 := cells_block f0
  refine ⟨Unit, fun _ => ⟨[(1, .pointer (some ⟨w.heap.size, 0, none⟩)), (3, u8 (if m.alone then 1 else 0))], []⟩, fun _ V => V = w.alloc (.cells m.val.cells 27), ?_, ?_⟩
  · refine ⟨_, cells_at c0 (i := 6) rfl, ?_⟩
    refine And.intro (fun h => ?_) (fun h => ?_)
    · exact ⟨(), ⟨.cons rfl (.cons (by rw [h]; rfl) .nil), rfl⟩, rfl⟩
    · exact ⟨(), ⟨.cons rfl (.cons (by rw [h]; rfl) .nil), rfl⟩, rfl⟩
  rintro _ _ rfl
  refine ⟨_, cells_at c0 (i := 0) rfl, ?_⟩
  refine ⟨_, cells_at c0 (i := 1) rfl, ?_⟩
  refine ⟨_, cells_at c0 (i := 2) rfl, ?_⟩
  refine ⟨_, cells_at c0 (i := 3) rfl, ?_⟩
  refine ⟨_, cells_at c0 (i := 4) rfl, ?_⟩
  refine ⟨_, cells_at c0 (i := 5) rfl, ?_⟩
  refine ⟨0, rfl, by decide, ?_⟩
  refine ⟨_, cells_at c0 (i := 7) rfl, ?_⟩
  refine ⟨1, rfl, by decide, ?_⟩
  refine ⟨_, cells_at c0 (i := 8) rfl, ?_⟩
  refine ⟨2, rfl, by decide, ?_⟩
  refine ⟨_, cells_at c0 (i := 9) rfl, ?_⟩
  refine ⟨3, rfl, by decide, ?_⟩
  refine ⟨_, cells_at c0 (i := 10) rfl, ?_⟩
  refine ⟨⟨by decide, by decide, rfl⟩, (codeOf m).map u8, by kernel_rfl, ?_⟩
  exact ⟨_, rfl, hnew _ _, hb0.size, hb0.alloc hb0.size _⟩

/-! ### Class -/
def clsR (k : UInt8) : UInt8 := classOf k
theorem ClassR_c (k : UInt8) (w : World) : Calls Tryz.prog 11 #[u8 k] w fun e w' => e = .returned (u8 (classOf k)) ∧ w = w' := by
  have tab : ∀ n : Nat, n < 256 → classes.getD n 0 = if n = 1 ∨ n = 2 ∨ n = 3 then 1 else if n = 6 ∨ n = 7 ∨ n = 8 ∨ n = 9 then 2 else if n = 4 ∨ n = 5 ∨ n = 10 ∨ n = 11 ∨ n = 12 then 3 else 0 := by
    intro n hn
    have h : ((List.range 256).all fun n => decide (classes.getD n 0 = if n = 1 ∨ n = 2 ∨ n = 3 then 1 else if n = 6 ∨ n = 7 ∨ n = 8 ∨ n = 9 then 2 else if n = 4 ∨ n = 5 ∨ n = 10 ∨ n = 11 ∨ n = 12 then 3 else 0)) = true := by kernel_rfl
    exact of_decide_eq_true (List.all_eq_true.1 h n (List.mem_range.2 hn))
  have hc : classOf k = _ := tab k.toNat k.toNat_lt
  refine calls_of_E (S := sg 20) (sgOk _) (args := [u8 k]) Tryz.func11 rfl rfl (Nat.le_of_ble_eq_true rfl) rfl ?_
  refine ⟨_, wrap_u8_i64 k, ?_⟩
  have h13 : k.toNat = 0 ∨ k.toNat = 1 ∨ k.toNat = 2 ∨ k.toNat = 3 ∨ k.toNat = 4 ∨ k.toNat = 5 ∨ k.toNat = 6 ∨ k.toNat = 7 ∨ k.toNat = 8 ∨ k.toNat = 9 ∨ k.toNat = 10 ∨ k.toNat = 11 ∨ k.toNat = 12 ∨ 13 ≤ k.toNat := by omega
  rcases h13 with hk | hk | hk | hk | hk | hk | hk | hk | hk | hk | hk | hk | hk | hk
  all_goals
    repeat first
      | exact And.intro (by rw [hc]; simp [hk]; rfl) rfl
      | exact And.intro (by rw [hc, if_neg (by omega), if_neg (by omega), if_neg (by omega)]; rfl) rfl
      | refine And.intro (fun h => absurd (of_decide_eq_true h) (by omega)) (fun _ => ?_)
      | refine And.intro (fun _ => ?_) (fun h => absurd (of_decide_eq_false h) (by omega))

/-! ### Read -/
theorem ReadR_c (p : Option Addr) (cap : Nat) (l : List UInt8) (w : World) (hl : SlR byteE w p l) (hc : l.length ≤ cap) :
    Calls Tryz.prog 34 #[.slice p l.length cap] w fun e w' => e = .returned (.tuple #[(readL l).1.val, .bool (readL l).2]) ∧ Below w.heap.size w w' := by
  refine calls_of_E (S := sg 50) (sgOk _) (args := [.slice p l.length cap]) Tryz.func34 rfl rfl (Nat.le_of_ble_eq_true rfl) rfl ?_
  have hb0 : Below w.heap.size w (w.alloc (.cells zeroM.val.cells 27)) := (Below.refl _ _).alloc (Nat.le_refl _) _
  have f0 := hnew w (.cells zeroM.val.cells 27)
  have hl0 := hl.below hb0
  refine And.intro (fun h => ?_) (fun h => ?_)
  · have h : ¬ (l.length : Int) = 11 := by simpa using h
    have hr := readL_len (l := l) (fun e => h (by omega))
    refine And.intro (fun _ => ?_) (fun h => by cases h)
    refine ⟨zeroM.enc, rfl, ?_⟩
    refine store_box (v := zeroM.val) (ttOk.get 27 _ rfl) f0 (by rfl) rfl (by rfl) ?_
    refine ⟨zeroM.enc, rfl, cells_block (setRow_new f0), ?_⟩
    rw [hr]
    exact And.intro rfl (below_setRow hb0 (Nat.le_refl _) _)
  have h : (l.length : Int) = 11 := by simpa using h
  have hlen : l.length = 11 := by omega
  match l, hlen with
  | [b0, b1, b2, b3, b4, b5, b6, b7, b8, b9, b10], _ =>
    obtain ⟨b, o, hp, hbk, hcl⟩ := hl0.at (i := 0) (by simp)
    subst hp
    refine ⟨6, rfl, by simp, ?_⟩
    refine ⟨_, cells_head (hcl 6 (by simp)), ?_⟩
    refine And.intro (fun h1 => ?_) (fun h1 => ?_)
    · have h1 : (1 : Int) < b6.toNat := of_decide_eq_true h1
      have hr : readL [b0, b1, b2, b3, b4, b5, b6, b7, b8, b9, b10] = (zeroM, false) := by show (if b6.toNat ≤ 1 then _ else _) = _; rw [if_neg (by omega)]
      refine ⟨zeroM.enc, rfl, ?_⟩
      refine store_box (v := zeroM.val) (ttOk.get 27 _ rfl) f0 (by rfl) rfl (by rfl) ?_
      refine ⟨zeroM.enc, rfl, cells_block (setRow_new f0), ?_⟩
      rw [hr]
      exact And.intro rfl (below_setRow hb0 (Nat.le_refl _) _)
    · have h1 : ¬ (1 : Int) < b6.toNat := of_decide_eq_false h1
      have hr : readL [b0, b1, b2, b3, b4, b5, b6, b7, b8, b9, b10] = (⟨b0, b1, b2, b3, b4, b5, decide (b6 = 1), b7, b8, b9, b10⟩, true) := by show (if b6.toNat ≤ 1 then _ else _) = _; rw [if_pos (by omega)]
      have hl1 : ∀ (i : Nat) (hi : i < 11), Cells (w.alloc (.cells zeroM.val.cells 27)).drew ⟨b, o + i * 1, none⟩ [u8 ([b0, b1, b2, b3, b4, b5, b6, b7, b8, b9, b10][i]'hi)] := fun i hi => hcl i hi
      refine DrawE.ord [36] [0, 1, 2, 3, 4, 5, 6, 7, 8, 9, 10, 11, 12, 13, 14, 15, 16, 17, 18, 19, 20, 21, 22, 23, 24, 25, 26, 27, 28, 29, 30, 31, 32, 33, 34, 35, 36, 37] (by kernel_rfl) ?_
      refine ⟨0, rfl, by simp, ?_⟩
      refine ⟨_, cells_head (hl1 0 (by decide)), ?_⟩
      refine ⟨1, rfl, by simp, ?_⟩
      refine ⟨_, cells_head (hl1 1 (by decide)), ?_⟩
      refine ⟨2, rfl, by simp, ?_⟩
      refine ⟨_, cells_head (hl1 2 (by decide)), ?_⟩
      refine ⟨3, rfl, by simp, ?_⟩
      refine ⟨_, cells_head (hl1 3 (by decide)), ?_⟩
      refine ⟨4, rfl, by simp, ?_⟩
      refine ⟨_, cells_head (hl1 4 (by decide)), ?_⟩
      refine ⟨5, rfl, by simp, ?_⟩
      refine ⟨_, cells_head (hl1 5 (by decide)), ?_⟩
      refine ⟨6, rfl, by simp, ?_⟩
      refine ⟨_, cells_head (hl1 6 (by decide)), ?_⟩
      refine ⟨7, rfl, by simp, ?_⟩
      refine ⟨_, cells_head (hl1 7 (by decide)), ?_⟩
      refine ⟨8, rfl, by simp, ?_⟩
      refine ⟨_, cells_head (hl1 8 (by decide)), ?_⟩
      refine ⟨9, rfl, by simp, ?_⟩
      refine ⟨_, cells_head (hl1 9 (by decide)), ?_⟩
      refine ⟨10, rfl, by simp, ?_⟩
      refine ⟨_, cells_head (hl1 10 (by decide)), ?_⟩
      refine ⟨dcells b7 b8 b9 b10, rfl, ?_⟩
      obtain ⟨M1, hM1⟩ : ∃ M1 : Msg, M1 = ⟨b0, b1, b2, b3, b4, b5, decide ((b6.toNat : Int) = 1), b7, b8, b9, b10⟩ := ⟨_, rfl⟩
      refine ⟨M1.enc, by rw [hM1]; rfl, ?_⟩
      refine store_box (v := M1.val) (ttOk.get 27 _ rfl) (hdr f0) (by rfl) rfl (by rfl) ?_
      refine ⟨M1.enc, rfl, cells_block (setRow_new (hdr f0)), ?_⟩
      have hd : decide ((b6.toNat : Int) = 1) = decide (b6 = 1) := by rw [decide_eq_decide]; exact u8_eq (y := 1)
      rw [hr, hM1, hd]
      exact And.intro rfl (below_setRow hb0.drew (Nat.le_refl _) _)
end Go.Proofs.YtkekidalckflhaaGreatDoor
namespace Go.Proofs.YtkekidalckflhaaGreatDoor
open Go.Vc Go.RowKit Go.Sei

theorem sp_len : ∀ (s w : List UInt8), (sp w s).length ≤ s.length + 1
  | [], _ => Nat.le_refl _
  | c :: r, w => by
    unfold sp
    split
    · rw [List.length_cons]; have := sp_len r []; simp only [List.length_cons]; omega
    · have := sp_len r (w ++ [c]); simp only [List.length_cons]; omega
theorem sp_ne (s w : List UInt8) : sp w s ≠ [] := by
  cases s with
  | nil => simp [sp]
  | cons c r => 
    unfold sp
    split
    · simp
    · exact sp_ne r _
theorem extract_one {s : List UInt8} {i : Nat} (h : i < s.length) : (bs s).extract i (i + 1) = bs [s[i]] := by
  apply ByteArray.ext
  simp only [bs, ByteArray.data_extract]
  apply Array.ext'
  simp only [Array.toList_extract, List.extract_eq_take_drop]
  rw [List.drop_eq_getElem_cons h, Nat.add_sub_cancel_left]
  rfl

theorem add_one (x y : Operand) {s : List UInt8} {i : Nat} (h : i < s.length) (a : List UInt8) (ha : a.length ≤ 1000000) (w : World) :
    (do eqGuard .add 9 x y (strV a) (.string ((bs s).extract i (i + 1))); binOp .add 9 (strV a) (.string ((bs s).extract i (i + 1)))).run Tryz.prog w = .ok (strV (a ++ [s[i]])) w := by
  rw [extract_one h]
  exact add_str x y a [s[i]] (by simp; omega) w
theorem words_c (s : List UInt8) (hs : s.length ≤ 1000) (w : World) : Calls Tryz.prog 49 #[strV s] w fun e w' => ∃ p cap, e = .returned (.slice p (sp [] s).length cap) ∧ SlR strE w' p (sp [] s) ∧ (sp [] s).length ≤ cap ∧ Below w.heap.size w w' := by
  refine calls_of_M (S := sg 41) (sgOk _) (args := [strV s]) (.s .p (.s .p (.s .p .p))) Tryz.func49 rfl rfl (Nat.le_of_ble_eq_true rfl) rfl ?_
  refine ⟨Nat × Option Addr × Nat × List (List UInt8) × List UInt8, fun t => ⟨[(0, strV s), (3, .slice t.2.1 t.2.2.2.1.length t.2.2.1), (4, strV t.2.2.2.2), (5, .int .i64 (t.1 : Nat))], []⟩,
    fun t V => t.1 ≤ s.length ∧ OwnS strE 9 w.heap.size V t.2.1 t.2.2.1 t.2.2.2.1 ∧ sp [] s = t.2.2.2.1 ++ sp t.2.2.2.2 (s.drop t.1) ∧ t.2.2.2.1.length ≤ t.1 ∧ t.2.2.2.2.length ≤ t.1 ∧ Below w.heap.size w V, fun t => s.length - t.1, (0, none, 0, [], []),
    ⟨.cons rfl (.cons rfl (.cons rfl (.cons rfl .nil))), rfl⟩, ⟨Nat.zero_le _, .nil, rfl, Nat.le_refl _, Nat.le_refl _, Below.refl _ _⟩, ?_⟩
  rintro ⟨i, p, cap, dn, cur⟩ V ⟨hi, ho, hsp, hdl, hcl, hb⟩
  dsimp only at hi ho hsp hdl hcl
  have es : (bs s).size = s.length := rfl
  have put : ∀ (X : World), OwnS strE 9 w.heap.size X p cap dn → Below w.heap.size w X → ∀ {K : Value → World → Prop}, (∀ p' cap' W, OwnS strE 9 w.heap.size W p' cap' (dn ++ [cur]) → Below w.heap.size w W → K (.slice p' (dn ++ [cur]).length cap') W) →
      SatR ((Builtin.append_ #[36, 36] 36 #[.slice p dn.length cap, .slice (some ⟨X.heap.size, 0, none⟩) 1 1]).run Tryz.prog (X.alloc (.cells [strV cur].toArray 9))) K := by
    intro X hoX hbX K k
    refine app_own (E := strE) (news := [cur]) (B := w.heap.size) Tryz.underlying36 (ttOk.get 9 _ rfl) rfl rfl rfl (hoX.alloc _) rfl (by rw [strE_flat]; exact cells_new) (by simp; have := hbX.size; omega) (by show dn.length + 1 ≤ _; omega) (by show (dn.length + 1) * 16 ≤ _; omega) ?_
    intro p' cap' W ho' _ hb' _
    exact k p' cap' W ho' ((hbX.alloc hbX.size _).trans hb')
  refine And.intro (fun h => ?_) (fun h => ?_)
  · have h : (i : Int) < ((bs s).size : Nat) := of_decide_eq_true h
    have hl : i < s.length := by omega
    have hdrop : s.drop i = s[i] :: s.drop (i + 1) := List.drop_eq_getElem_cons hl
    refine And.intro (fun _ => ?_) (fun h3 => absurd (of_decide_eq_false h3) (by omega))
    refine ⟨i, rfl, hl, s[i], List.getElem?_eq_getElem hl, ?_⟩
    refine And.intro (fun h1 => ?_) (fun h1 => ?_)
    · have h1 : s[i] = 32 := (u8_eq (y := 32)).1 (of_decide_eq_true h1)
      have hsp2 : sp [] s = (dn ++ [cur]) ++ sp [] (s.drop (i + 1)) := by
        rw [hsp, hdrop, sp, if_pos (.inl h1), List.append_assoc]; rfl
      refine And.intro (fun _ => ?_) (fun h => by cases h)
      refine ⟨⟨by decide, by decide, rfl⟩, [strV cur], rfl, ?_⟩
      refine put V ho hb fun p' cap' W ho' hb' => ?_
      refine ⟨((i + 1 : Nat) : Int), (wrap_i64 (by omega)).trans (by omega), ?_⟩
      exact ⟨(i + 1, p', cap', dn ++ [cur], []), ⟨.cons rfl (.cons rfl (.cons rfl (.cons rfl .nil))), rfl⟩, ⟨hl, ho', hsp2, by simp; omega, by simp, hb'⟩, by dsimp only; omega⟩
    · have h1 : s[i] ≠ 32 := fun e => absurd ((u8_eq (y := 32)).2 e) (of_decide_eq_false h1)
      refine ⟨i, rfl, hl, s[i], List.getElem?_eq_getElem hl, ?_⟩
      refine And.intro (fun h2 => ?_) (fun h2 => ?_)
      · have h2 : s[i] = 62 := (u8_eq (y := 62)).1 (of_decide_eq_true h2)
        have hsp2 : sp [] s = (dn ++ [cur]) ++ sp [] (s.drop (i + 1)) := by
          rw [hsp, hdrop, sp, if_pos (.inr h2), List.append_assoc]; rfl
        refine ⟨⟨by decide, by decide, rfl⟩, [strV cur], rfl, ?_⟩
        refine put V ho hb fun p' cap' W ho' hb' => ?_
        refine ⟨((i + 1 : Nat) : Int), (wrap_i64 (by omega)).trans (by omega), ?_⟩
        exact ⟨(i + 1, p', cap', dn ++ [cur], []), ⟨.cons rfl (.cons rfl (.cons rfl (.cons rfl .nil))), rfl⟩, ⟨hl, ho', hsp2, by simp; omega, by simp, hb'⟩, by dsimp only; omega⟩
      · have h2 : s[i] ≠ 62 := fun e => absurd ((u8_eq (y := 62)).2 e) (of_decide_eq_false h2)
        have hsp2 : sp [] s = dn ++ sp (cur ++ [s[i]]) (s.drop (i + 1)) := by
          rw [hsp, hdrop, sp, if_neg (by rintro (e | e); exact h1 e; exact h2 e)]
        refine ⟨((i + 1 : Nat) : Int), (wrap_i64 (by omega)).trans (by omega), ?_⟩
        refine ⟨i + 1, rfl, by omega, ?_⟩
        refine ⟨i, rfl, by omega, ?_⟩
        refine ⟨_, fun w => add_one _ _ hl cur (by omega) w, ?_⟩
        refine ⟨((i + 1 : Nat) : Int), (wrap_i64 (by omega)).trans (by omega), ?_⟩
        exact ⟨(i + 1, p, cap, dn, cur ++ [s[i]]), ⟨.cons rfl (.cons rfl (.cons rfl (.cons rfl .nil))), rfl⟩, ⟨hl, ho, hsp2, by dsimp only; omega, by simp; omega, hb⟩, by dsimp only; omega⟩
  · have h : ¬ (i : Int) < ((bs s).size : Nat) := of_decide_eq_false h
    have hsp2 : sp [] s = dn ++ [cur] := by
      rw [hsp, List.drop_eq_nil_of_le (by omega)]; rfl
    refine And.intro (fun h => by cases h) (fun _ => ?_)
    refine ⟨⟨by decide, by decide, rfl⟩, [strV cur], rfl, ?_⟩
    refine put V ho hb fun p' cap' W ho' hb' => ?_
    rw [hsp2]
    refine ⟨p', cap', rfl, ho'.row, ?_, hb'⟩
    rcases ho'.inv with ⟨_, _, h0⟩ | ⟨_, _, _, _, _, h0, _⟩
    · simp at h0
    · exact h0
end Go.Proofs.YtkekidalckflhaaGreatDoor
namespace Go.Proofs.YtkekidalckflhaaGreatDoor
open Go.Vc Go.RowKit Go.Sei

theorem join_app (c : UInt8) : ∀ (xs ys : List (List UInt8)), xs ≠ [] → ys ≠ [] → Lib.join (xs ++ ys) [c] = Lib.join xs [c] ++ c :: Lib.join ys [c]
  | [], _, h, _ => absurd rfl h
  | [x], y :: ys, _, _ => by rw [Lib.join_one]; exact join_cons2 x y ys c
  | [x], [], _, h => absurd rfl h
  | x :: y :: xs, ys, _, h => by
    have ih := join_app c (y :: xs) ys (by simp) h
    show Lib.join (x :: y :: (xs ++ ys)) [c] = _
    rw [join_cons2, join_cons2]
    have : Lib.join (y :: (xs ++ ys)) [c] = Lib.join (y :: xs) [c] ++ c :: Lib.join ys [c] := ih
    rw [this]; simp
/-- The text of the words, stage by stage. -/
def t0 (m : Msg) : List UInt8 := if classOf m.kind = 0 then [107, 105, 110, 100, 32] ++ dig m.kind else kindNames.getD m.kind.toNat []
def t1 (m : Msg) : List UInt8 := ((((((t0 m ++ [32]) ++ dig m.from_) ++ [62]) ++ dig m.to) ++ [32, 108, 105, 110, 101, 32]) ++ dig m.line)
def t2 (m : Msg) : List UInt8 := if m.asker = 0 then t1 m else (t1 m ++ [32, 97, 115, 107, 101, 114, 32]) ++ dig m.asker
def t3 (m : Msg) : List UInt8 := if m.acks = 0 then t2 m else (t2 m ++ [32, 97, 99, 107, 115, 32]) ++ dig m.acks
def t4 (m : Msg) : List UInt8 := if m.alone then t3 m ++ [32, 97, 108, 111, 110, 101] else t3 m
def dOf (m : Msg) : List UInt8 := [m.d0, m.d1, m.d2, m.d3]
def t5 (m : Msg) : Nat → List UInt8
  | 0 => t4 m ++ [32, 100, 97, 116, 97]
  | k + 1 => (t5 m k ++ [32]) ++ dig ((dOf m).getD k 0)
theorem t0_join (m : Msg) : t0 m = Lib.join (w0 m) [32] := by
  unfold t0 w0
  split
  · rw [join_cons2, Lib.join_one]; rfl
  · rw [Lib.join_one]
theorem w_ne (m : Msg) : w0 m ≠ [] ∧ w1 m ≠ [] ∧ w2 m ≠ [] ∧ w3 m ≠ [] ∧ w4 m ≠ [] := by
  have h0 : w0 m ≠ [] := by unfold w0; split <;> simp
  have h1 : w1 m ≠ [] := by unfold w1; simp
  have h2 : w2 m ≠ [] := by unfold w2; simp [h1]
  have h3 : w3 m ≠ [] := by unfold w3; simp [h2]
  exact ⟨h0, h1, h2, h3, by unfold w4; simp [h3]⟩
theorem t1_join (m : Msg) : t1 m = Lib.join (w1 m) [32] := by
  unfold t1 w1
  rw [join_app 32 _ _ (w_ne m).1 (by simp), join_cons2, join_cons2, Lib.join_one, t0_join]
  simp
theorem t2_join (m : Msg) : t2 m = Lib.join (w2 m) [32] := by
  unfold t2 w2
  split
  · rw [List.append_nil, t1_join]
  · rw [join_app 32 _ _ (w_ne m).2.1 (by simp), join_cons2, Lib.join_one, t1_join]; simp
theorem t3_join (m : Msg) : t3 m = Lib.join (w3 m) [32] := by
  unfold t3 w3
  split
  · rw [List.append_nil, t2_join]
  · rw [join_app 32 _ _ (w_ne m).2.2.1 (by simp), join_cons2, Lib.join_one, t2_join]; simp
theorem t4_join (m : Msg) : t4 m = Lib.join (w4 m) [32] := by
  unfold t4 w4
  split
  · rw [join_app 32 _ _ (w_ne m).2.2.2.1 (by simp), Lib.join_one, t3_join]
  · rw [List.append_nil, t3_join]
theorem t5_text (m : Msg) : textOf m = if m.d0 = 0 ∧ m.d1 = 0 ∧ m.d2 = 0 ∧ m.d3 = 0 then t4 m else t5 m 4 := by
  unfold textOf w5
  split
  · rw [List.append_nil, t4_join]
  · rw [join_app 32 _ _ (w_ne m).2.2.2.2 (by simp), join_cons2, join_cons2, join_cons2, join_cons2, Lib.join_one]
    show _ = (((((((t4 m ++ [32, 100, 97, 116, 97]) ++ [32]) ++ dig m.d0) ++ [32]) ++ dig m.d1) ++ [32]) ++ dig m.d2 ++ [32]) ++ dig m.d3
    rw [t4_join]; simp
theorem t_len (m : Msg) : (t0 m).length ≤ 60 ∧ (t1 m).length ≤ 200 ∧ (t2 m).length ≤ 260 ∧ (t3 m).length ≤ 320 ∧ (t4 m).length ≤ 340 ∧ ∀ k, k ≤ 4 → (t5 m k).length ≤ 350 + 30 * k := by
  have hd := fun n => dig_len n
  have hk : ((List.range 256).all fun k => Nat.ble (kindNames.getD k []).length 60) = true := by kernel_rfl
  have h0 : (t0 m).length ≤ 60 := by
    unfold t0
    split
    · have := hd m.kind; simp; omega
    · exact Nat.le_of_ble_eq_true (List.all_eq_true.1 hk m.kind.toNat (List.mem_range.2 m.kind.toNat_lt))
  have h1 : (t1 m).length ≤ 200 := by
    have a := hd m.from_; have b := hd m.to; have c := hd m.line
    unfold t1; simp; omega
  have h2 : (t2 m).length ≤ 260 := by
    have a := hd m.asker
    unfold t2; split
    · omega
    · simp; omega
  have h3 : (t3 m).length ≤ 320 := by
    have a := hd m.acks
    unfold t3; split
    · omega
    · simp; omega
  have h4 : (t4 m).length ≤ 340 := by
    unfold t4; split
    · simp; omega
    · omega
  refine ⟨h0, h1, h2, h3, h4, fun k => ?_⟩
  induction k with
  | zero => intro _; show (t4 m ++ _).length ≤ _; simp; omega
  | succ k ih =>
    intro hk
    have := ih (by omega)
    have a := hd ((dOf m).getD k 0)
    show ((t5 m k ++ [32]) ++ dig ((dOf m).getD k 0)).length ≤ _
    simp only [List.length_append, List.length_cons, List.length_nil]; omega

theorem not_t0 {b : Bool} (h : (!b) = true) : b = false := by simpa using h
theorem not_f0 {b : Bool} (h : (!b) = false) : b = true := by simpa using h
theorem TextR_c (m : Msg) (w : World) : Calls Tryz.prog 15 #[m.val] w fun e w' => e = .returned (strV (textOf m)) ∧ Below w.heap.size w w' := by
  refine calls_of_M (S := sg 83) (sgOk _) (args := [m.val]) (.s .p (.s .p (.c .p (.c .p (.c .p (.c .p (.c .p (.c .p .p)))))))) Tryz.func15 rfl rfl (Nat.le_of_ble_eq_true rfl) rfl ?_
  obtain ⟨l0, l1, l2, l3, l4, l5⟩ := t_len m
  have hd := fun n => dig_len n
  have hb0 : Below w.heap.size w (w.alloc (.cells m.val.cells 27)) := (Below.refl _ _).alloc (Nat.le_refl _) _
  have f0 := hnew w (.cells m.val.cells 27)
  refine ⟨_, cells_at (cells_block f0) (i := 0) rfl, ?_⟩
  refine Calls.mono (numberR_c m.kind _) ?_
  rintro e V ⟨rfl, hb⟩
  have hw := hb0.trans (hb.mono hb0.size)
  have f := block_below hb f0
  refine ⟨_, fun w => add_str _ _ [107, 105, 110, 100, 32] (dig m.kind) (by have := hd m.kind; simp; omega) w, ?_⟩
  obtain ⟨env, henv⟩ : ∃ env : List UInt8 → Env, env = fun t => ⟨[(1, .pointer (some ⟨w.heap.size, 0, none⟩)), (3, strV t)], []⟩ := ⟨_, rfl⟩
  obtain ⟨inv, hinv⟩ : ∃ inv : World → Prop, inv = fun V => V.heap[w.heap.size]? = some (.cells m.val.cells 27 (0, 0)) ∧ Below w.heap.size w V := ⟨_, rfl⟩
  refine ⟨Unit, fun _ => env (t0 m), fun _ V => inv V, ?_, ?_⟩
  · rw [henv, hinv]
    have tab : ((List.range 256).all fun k => decide (classes.getD k 0 = 0) == !(Nat.ble 1 k && Nat.ble k 12)) = true := by kernel_rfl
    have tk := List.all_eq_true.1 tab m.kind.toNat (List.mem_range.2 m.kind.toNat_lt)
    have tk : decide (classOf m.kind = 0) = !(Nat.ble 1 m.kind.toNat && Nat.ble m.kind.toNat 12) := eq_of_beq tk
    refine DrawE.ord [] [0, 1, 2, 3, 4, 5, 6, 7, 8, 9, 10] (by kernel_rfl) ?_
    refine ⟨_, cells_at (cells_block (hdr f)) (i := 0) rfl, ?_⟩
    refine And.intro (fun h1 => ?_) (fun h1 => ?_)
    · have h1 : (1 : Int) ≤ m.kind.toNat := of_decide_eq_true h1
      refine ⟨_, cells_at (cells_block (hdr f)) (i := 0) rfl, ?_⟩
      refine ⟨_, wrap_u8_i64 m.kind, ?_⟩
      refine Calls.mono (NamesR_c V.drew) ?_
      rintro e V1 ⟨rfl, hV1⟩
      have hb1 : Below V.drew.heap.size V.drew V1 := by rw [hV1]; exact (Below.refl _ _).alloc (Nat.le_refl _) _
      refine ⟨hb1, ?_⟩
      have hw1 := hw.drew.trans (hb1.mono hw.drew.size)
      have f1 := block_below hb1 (hdr f)
      refine And.intro (fun h2 => ?_) (fun h2 => ?_)
      · have h2 : (m.kind.toNat : Int) ≤ 12 := of_decide_eq_true h2
        have hc : ¬ classOf m.kind = 0 := by
          have : decide (classOf m.kind = 0) = false := by
            rw [tk, Nat.ble_eq_true_of_le (by omega), Nat.ble_eq_true_of_le (by omega)]; rfl
          exact of_decide_eq_false this
        refine DrawE.ord [] [1, 2, 3, 0, 4, 5, 6] (by kernel_rfl) ?_
        refine ⟨_, cells_at (cells_block (hdr f1)) (i := 0) rfl, ?_⟩
        refine ⟨((m.kind.toNat - 1 : Nat) : Int), (wrap_u8 (by have := m.kind.toNat_lt; omega)).trans (by omega), ?_⟩
        refine Calls.mono (NamesR_c V1.drew) ?_
        rintro e V2 ⟨rfl, hV2⟩
        have hb2 : Below V1.drew.heap.size V1.drew V2 := by rw [hV2]; exact (Below.refl _ _).alloc (Nat.le_refl _) _
        refine ⟨hb2, ?_⟩
        refine ⟨m.kind.toNat - 1, rfl, by omega, ?_⟩
        refine ⟨_, names_at (by rw [hV2]; exact Below.refl _ _) (show m.kind.toNat - 1 < 12 by omega), ?_⟩
        have e0 : t0 m = namesR.getD (m.kind.toNat - 1) [] := by
          have tn : ((List.range 13).all fun k => Nat.beq k 0 || decide (kindNames.getD k [] = namesR.getD (k - 1) [])) = true := by kernel_rfl
          have := List.all_eq_true.1 tn m.kind.toNat (List.mem_range.2 (by omega))
          have hz : Nat.beq m.kind.toNat 0 = false := by
            cases hh : Nat.beq m.kind.toNat 0 with
            | false => rfl
            | true => have := Nat.eq_of_beq_eq_true hh; omega
          rw [hz, Bool.false_or] at this
          unfold t0; rw [if_neg hc]; exact of_decide_eq_true this
        rw [e0]
        exact ⟨(), ⟨.cons rfl (.cons rfl .nil), rfl⟩, block_below hb2 (hdr f1), hw1.drew.trans (hb2.mono hw1.drew.size)⟩
      · have h2 : ¬ (m.kind.toNat : Int) ≤ 12 := of_decide_eq_false h2
        have hc : classOf m.kind = 0 := by
          have hf : Nat.ble m.kind.toNat 12 = false := by
            cases hh : Nat.ble m.kind.toNat 12 with
            | false => rfl
            | true => have := Nat.le_of_ble_eq_true hh; omega
          have : decide (classOf m.kind = 0) = true := by
            rw [tk, hf, Bool.and_false]; rfl
          exact of_decide_eq_true this
        have e0 : t0 m = [107, 105, 110, 100, 32] ++ dig m.kind := by unfold t0; rw [if_pos hc]
        rw [e0]
        exact ⟨(), ⟨.cons rfl (.cons rfl .nil), rfl⟩, f1, hw1⟩
    · have h1 : ¬ (1 : Int) ≤ m.kind.toNat := of_decide_eq_false h1
      have hc : classOf m.kind = 0 := by
        have hf : Nat.ble 1 m.kind.toNat = false := by
          cases hh : Nat.ble 1 m.kind.toNat with
          | false => rfl
          | true => have := Nat.le_of_ble_eq_true hh; omega
        have : decide (classOf m.kind = 0) = true := by
          rw [tk, hf]; rfl
        exact of_decide_eq_true this
      have e0 : t0 m = [107, 105, 110, 100, 32] ++ dig m.kind := by unfold t0; rw [if_pos hc]
      refine And.intro (fun h => by cases h) (fun _ => ?_)
      rw [e0]
      exact ⟨(), ⟨.cons rfl (.cons rfl .nil), rfl⟩, hdr f, hw.drew⟩
  clear hb hw f V
  rintro _ V hV
  refine ⟨Unit, fun _ => env (t1 m), fun _ V => inv V, ?_, ?_⟩
  · rw [hinv] at hV
    obtain ⟨f, hb⟩ := hV
    rw [henv, hinv]
    have q := hdr f
    refine DrawE.ord [] [0, 1, 2, 3, 7, 8, 12, 13, 4, 5, 6, 9, 10, 11, 14, 15, 16] (by kernel_rfl) ?_
    refine ⟨_, fun w => add_str _ _ (t0 m) [32] (by simp; omega) w, ?_⟩
    refine ⟨_, cells_at (cells_block q) (i := 1) rfl, ?_⟩
    refine ⟨_, cells_at (cells_block q) (i := 2) rfl, ?_⟩
    refine ⟨_, cells_at (cells_block q) (i := 3) rfl, ?_⟩
    refine Calls.mono (numberR_c m.from_ V.drew) ?_
    rintro e V1 ⟨rfl, hb1⟩
    refine ⟨hb1, ?_⟩
    have hw1 := hb.drew.trans (hb1.mono hb.drew.size)
    refine ⟨_, fun w => add_str _ _ (t0 m ++ [32]) (dig m.from_) (by have := hd m.from_; simp; omega) w, ?_⟩
    refine ⟨_, fun w => add_str _ _ ((t0 m ++ [32]) ++ dig m.from_) [62] (by have := hd m.from_; simp; omega) w, ?_⟩
    refine Calls.mono (numberR_c m.to V1) ?_
    rintro e V2 ⟨rfl, hb2⟩
    refine ⟨hb2, ?_⟩
    have hw2 := hw1.trans (hb2.mono hw1.size)
    refine ⟨_, fun w => add_str _ _ (((t0 m ++ [32]) ++ dig m.from_) ++ [62]) (dig m.to) (by have := hd m.from_; have := hd m.to; simp; omega) w, ?_⟩
    refine ⟨_, fun w => add_str _ _ ((((t0 m ++ [32]) ++ dig m.from_) ++ [62]) ++ dig m.to) [32, 108, 105, 110, 101, 32] (by have := hd m.from_; have := hd m.to; simp; omega) w, ?_⟩
    refine Calls.mono (numberR_c m.line V2) ?_
    rintro e V3 ⟨rfl, hb3⟩
    refine ⟨hb3, ?_⟩
    have hw3 := hw2.trans (hb3.mono hw2.size)
    refine ⟨_, fun w => add_str _ _ (((((t0 m ++ [32]) ++ dig m.from_) ++ [62]) ++ dig m.to) ++ [32, 108, 105, 110, 101, 32]) (dig m.line) (by have := hd m.from_; have := hd m.to; have := hd m.line; simp; omega) w, ?_⟩
    exact ⟨(), ⟨.cons rfl (.cons rfl .nil), rfl⟩, block_below hb3 (block_below hb2 (block_below hb1 q)), hw3⟩
  rintro _ V hV
  refine ⟨Unit, fun _ => env (t2 m), fun _ V => inv V, ?_, ?_⟩
  · have hV' := hV
    rw [hinv] at hV
    obtain ⟨f, hb⟩ := hV
    rw [henv]
    refine ⟨_, cells_at (cells_block f) (i := 4) rfl, ?_⟩
    refine And.intro (fun h => ?_) (fun h => ?_)
    · have h : ¬ (m.asker.toNat : Int) = ((0 : UInt8).toNat : Int) := of_decide_eq_false (not_t0 h)
      have e0 : t2 m = (t1 m ++ [32, 97, 115, 107, 101, 114, 32]) ++ dig m.asker := by unfold t2; rw [if_neg (fun e => h (u8_eq.2 e))]
      refine ⟨_, fun w => add_str _ _ (t1 m) [32, 97, 115, 107, 101, 114, 32] (by simp; omega) w, ?_⟩
      refine ⟨_, cells_at (cells_block f) (i := 4) rfl, ?_⟩
      refine Calls.mono (numberR_c m.asker V) ?_
      rintro e V1 ⟨rfl, hb1⟩
      refine ⟨_, fun w => add_str _ _ (t1 m ++ [32, 97, 115, 107, 101, 114, 32]) (dig m.asker) (by have := hd m.asker; simp; omega) w, ?_⟩
      rw [e0, hinv]
      exact ⟨(), ⟨.cons rfl (.cons rfl .nil), rfl⟩, block_below hb1 f, hb.trans (hb1.mono hb.size)⟩
    · have h : (m.asker.toNat : Int) = ((0 : UInt8).toNat : Int) := of_decide_eq_true (not_f0 h)
      have e0 : t2 m = t1 m := by unfold t2; rw [if_pos (u8_eq.1 h)]
      rw [e0]
      exact ⟨(), ⟨.cons rfl (.cons rfl .nil), rfl⟩, hV'⟩
  rintro _ V hV
  refine ⟨Unit, fun _ => env (t3 m), fun _ V => inv V, ?_, ?_⟩
  · have hV' := hV
    rw [hinv] at hV
    obtain ⟨f, hb⟩ := hV
    rw [henv]
    refine ⟨_, cells_at (cells_block f) (i := 5) rfl, ?_⟩
    refine And.intro (fun h => ?_) (fun h => ?_)
    · have h : ¬ (m.acks.toNat : Int) = ((0 : UInt8).toNat : Int) := of_decide_eq_false (not_t0 h)
      have e0 : t3 m = (t2 m ++ [32, 97, 99, 107, 115, 32]) ++ dig m.acks := by unfold t3; rw [if_neg (fun e => h (u8_eq.2 e))]
      refine ⟨_, fun w => add_str _ _ (t2 m) [32, 97, 99, 107, 115, 32] (by simp; omega) w, ?_⟩
      refine ⟨_, cells_at (cells_block f) (i := 5) rfl, ?_⟩
      refine Calls.mono (numberR_c m.acks V) ?_
      rintro e V1 ⟨rfl, hb1⟩
      refine ⟨_, fun w => add_str _ _ (t2 m ++ [32, 97, 99, 107, 115, 32]) (dig m.acks) (by have := hd m.acks; simp; omega) w, ?_⟩
      rw [e0, hinv]
      exact ⟨(), ⟨.cons rfl (.cons rfl .nil), rfl⟩, block_below hb1 f, hb.trans (hb1.mono hb.size)⟩
    · have h : (m.acks.toNat : Int) = ((0 : UInt8).toNat : Int) := of_decide_eq_true (not_f0 h)
      have e0 : t3 m = t2 m := by unfold t3; rw [if_pos (u8_eq.1 h)]
      rw [e0]
      exact ⟨(), ⟨.cons rfl (.cons rfl .nil), rfl⟩, hV'⟩
  rintro _ V hV
  refine ⟨Unit, fun _ => env (t4 m), fun _ V => inv V, ?_, ?_⟩
  · have hV' := hV
    rw [hinv] at hV
    obtain ⟨f, hb⟩ := hV
    rw [henv]
    refine ⟨_, cells_at (cells_block f) (i := 6) rfl, ?_⟩
    refine And.intro (fun h => ?_) (fun h => ?_)
    · have e0 : t4 m = t3 m ++ [32, 97, 108, 111, 110, 101] := by unfold t4; rw [if_pos h]
      refine ⟨_, fun w => add_str _ _ (t3 m) [32, 97, 108, 111, 110, 101] (by simp; omega) w, ?_⟩
      rw [e0]
      exact ⟨(), ⟨.cons rfl (.cons rfl .nil), rfl⟩, hV'⟩
    · have e0 : t4 m = t3 m := by unfold t4; rw [if_neg (by rw [h]; simp)]
      rw [e0]
      exact ⟨(), ⟨.cons rfl (.cons rfl .nil), rfl⟩, hV'⟩
  rintro _ V hV
  rw [t5_text]
  refine ⟨Unit, fun _ => env (if m.d0 = 0 ∧ m.d1 = 0 ∧ m.d2 = 0 ∧ m.d3 = 0 then t4 m else t5 m 4), fun _ V => inv V, ?_, ?_⟩
  · have hV' := hV
    rw [hinv] at hV
    obtain ⟨f, hb⟩ := hV
    rw [henv]
    have hdat : Cells V ⟨w.heap.size, 7, none⟩ (dcells m.d0 m.d1 m.d2 m.d3) := by
      refine cells_mk fun i v hv => ?_
      have hi : i < 4 := (List.getElem?_eq_some_iff.1 hv).1
      have : m.enc[7 + i]? = some v := by
        rw [← hv]
        have h4 : i = 0 ∨ i = 1 ∨ i = 2 ∨ i = 3 := by omega
        rcases h4 with rfl | rfl | rfl | rfl <;> rfl
      have hc : Cells V ⟨w.heap.size, 0, none⟩ m.enc := cells_block f
      have := cells_at hc this
      rw [Nat.zero_add] at this; exact this
    refine ⟨dcells m.d0 m.d1 m.d2 m.d3, rfl, hdat, hlt f, ?_⟩
    refine ⟨dcells 0 0 0 0, rfl, ?_⟩
    refine ⟨_, fun w => neq_data _ _ m.d0 m.d1 m.d2 m.d3 0 0 0 0 w, ?_⟩
    refine And.intro (fun h => ?_) (fun h => ?_)
    · have h : ¬ (m.d0 = 0 ∧ m.d1 = 0 ∧ m.d2 = 0 ∧ m.d3 = 0) := by
        rintro ⟨a, b, c, d⟩
        rw [a, b, c, d] at h; cases h
      rw [if_neg h]
      refine ⟨_, fun w => add_str _ _ (t4 m) [32, 100, 97, 116, 97] (by simp; omega) w, ?_⟩
      refine ⟨Nat, fun k => ⟨[(1, .pointer (some ⟨w.heap.size, 0, none⟩)), (3, strV (t5 m k)), (4, .int .i64 (k : Nat))], []⟩, fun k V => k ≤ 4 ∧ inv V, fun k => 4 - k, 0, ⟨.cons rfl (.cons rfl (.cons rfl .nil)), rfl⟩, ⟨by decide, hV'⟩, ?_⟩
      rintro k X ⟨hk, hX⟩
      have hX' := hX
      rw [hinv] at hX
      obtain ⟨fX, hbX⟩ := hX
      refine And.intro (fun h => ?_) (fun h => ?_)
      · have h : (k : Int) < 4 := of_decide_eq_true h
        have hk4 : k < 4 := by omega
        have lk := l5 k (by omega)
        refine ⟨_, fun w => add_str _ _ (t5 m k) [32] (by simp; omega) w, ?_⟩
        refine ⟨k, rfl, hk4, ?_⟩
        have hc : X.cell? ⟨w.heap.size, 0 + 7 + k * 1, none⟩ = some (u8 ((dOf m).getD k 0)) := by
          have h4 : k = 0 ∨ k = 1 ∨ k = 2 ∨ k = 3 := by omega
          rcases h4 with rfl | rfl | rfl | rfl
          · exact cells_at (cells_block fX) (i := 7) rfl
          · exact cells_at (cells_block fX) (i := 8) rfl
          · exact cells_at (cells_block fX) (i := 9) rfl
          · exact cells_at (cells_block fX) (i := 10) rfl
        refine ⟨_, hc, ?_⟩
        refine Calls.mono (numberR_c ((dOf m).getD k 0) X) ?_
        rintro e X1 ⟨rfl, hb1⟩
        refine ⟨_, fun w => add_str _ _ (t5 m k ++ [32]) (dig ((dOf m).getD k 0)) (by have := hd ((dOf m).getD k 0); simp only [List.length_append, List.length_cons, List.length_nil]; omega) w, ?_⟩
        refine ⟨((k + 1 : Nat) : Int), (wrap_i64 (by omega)).trans (by omega), ?_⟩
        refine ⟨k + 1, ⟨.cons rfl (.cons rfl (.cons rfl .nil)), rfl⟩, ⟨by omega, ?_⟩, by dsimp only; omega⟩
        rw [hinv]
        exact ⟨block_below hb1 fX, hbX.trans (hb1.mono hbX.size)⟩
      · have h : ¬ (k : Int) < 4 := of_decide_eq_false h
        have : k = 4 := by omega
        subst this
        exact ⟨(), ⟨.cons rfl (.cons rfl .nil), rfl⟩, hX'⟩
    · have h : m.d0 = 0 ∧ m.d1 = 0 ∧ m.d2 = 0 ∧ m.d3 = 0 := by
        simpa [and_assoc] using h
      rw [if_pos h]
      exact ⟨(), ⟨.cons rfl (.cons rfl .nil), rfl⟩, hV'⟩
  rintro _ V hV
  rw [hinv] at hV
  rw [henv]
  exact And.intro rfl hV.2
end Go.Proofs.YtkekidalckflhaaGreatDoor
namespace Go.Proofs.YtkekidalckflhaaGreatDoor
open Go.Vc Go.RowKit Go.Sei

theorem eql_data (x y : Operand) (a b c e a' b' c' e' : UInt8) (w : World) : (do eqGuard .eql 25 x y (.agg (dcells a b c e).toArray) (.agg (dcells a' b' c' e').toArray); binOp .eql 25 (.agg (dcells a b c e).toArray) (.agg (dcells a' b' c' e').toArray)).run Tryz.prog w =
    .ok (.bool (decide (a = a') && decide (b = b') && decide (c = c') && decide (e = e'))) w := by
  have h : (Op.equal 25 (.agg (dcells a b c e).toArray) (.agg (dcells a' b' c' e').toArray)).run Tryz.prog w = .ok (decide (a = a') && decide (b = b') && decide (c = c') && decide (e = e')) w := eq_data 9998 a b c e a' b' c' e' w
  have hg : Tryz.prog.eqGuardType Tryz.prog.depth 25 = false := by kernel_rfl
  have h1 : (eqGuard .eql 25 x y (.agg (dcells a b c e).toArray) (.agg (dcells a' b' c' e').toArray)).run Tryz.prog w = .ok () w := by
    simp only [eqGuard, Bool.not_true, Bool.false_eq_true, if_false, Sem.run_bind, run_program, Result.andThen_ok, hg, Bool.not_false, if_true, Sem.run_pure]
  rw [Sem.run_bind, h1]
  simp only [Result.andThen_ok, binOp, Sem.run_bind, h, Sem.run_pure]
def tl (m : Msg) (n : Nat) : Nat → Bool
  | 0 => true
  | i + 1 => tl m n i && (Nat.blt i n || decide ((dOf m).getD i 0 = 0))
theorem tl_start (m : Msg) (n : Nat) : ∀ i, i ≤ n → tl m n i = true
  | 0, _ => rfl
  | i + 1, h => by
    unfold tl
    rw [tl_start m n i (by omega), show Nat.blt i n = true from Nat.ble_eq_true_of_le h]; rfl
theorem tl_end (m : Msg) (n : Nat) : tl m n 4 = tailD m n := by
  unfold tailD
  show ((((true && _) && _) && _) && _) = _
  rw [Bool.true_and]; rfl
theorem di {a b : Int} {P : Prop} (h : decide (a = b) = true) (k : ¬ a = b) : P := absurd (of_decide_eq_true h) k

set_option maxRecDepth 20000 in
theorem RightR_c (g : Geo) (m : Msg) (w : World) : Calls Tryz.prog 9 #[g.val, m.val] w fun e w' => e = .returned (.bool (rightR g m)) ∧ Below w.heap.size w w' := by
  refine calls_of_M (S := sg 198) (sgOk _) (args := [g.val, m.val]) (.s .p (.c .p (.c .p (.s .p (.c .p (.c .p (.c .p (.s .p (.c .p (.s .p (.c .p (.c .p (.c .p (.c .p (.c .p .p))))))))))))))) Tryz.func9 rfl rfl (Nat.le_of_ble_eq_true rfl) rfl ?_
  obtain ⟨X, hX⟩ : ∃ X, X = (w.alloc (.cells g.val.cells 23)).alloc (.cells m.val.cells 27) := ⟨_, rfl⟩
  have hb0 : Below w.heap.size w X := by rw [hX]; exact ((Below.refl _ _).alloc (Nat.le_refl _) _).alloc (by simp) _
  have f0 : X.heap[w.heap.size]? = some (.cells g.val.cells 23 (0, 0)) := by rw [hX]; exact hold _ (hnew w _)
  have es : (w.alloc (.cells g.val.cells 23)).heap.size = w.heap.size + 1 := World.size_alloc _ _
  have f1 : X.heap[w.heap.size + 1]? = some (.cells m.val.cells 27 (0, 0)) := by
    have := hnew (w.alloc (.cells g.val.cells 23)) (.cells m.val.cells 27)
    rw [es] at this
    rw [hX]; exact this
  obtain ⟨inv, hinv⟩ : ∃ inv : World → Prop, inv = fun V => V.heap[w.heap.size]? = some (.cells g.val.cells 23 (0, 0)) ∧ V.heap[w.heap.size + 1]? = some (.cells m.val.cells 27 (0, 0)) ∧ Below w.heap.size w V := ⟨_, rfl⟩
  have mk : ∀ {V : World}, inv V → V.heap[w.heap.size]? = some (.cells g.val.cells 23 (0, 0)) ∧ V.heap[w.heap.size + 1]? = some (.cells m.val.cells 27 (0, 0)) ∧ Below w.heap.size w V := fun h => by rw [hinv] at h; exact h
  have mv : ∀ {V V' : World}, inv V → Below V.heap.size V V' → inv V' := fun h hb => by
    rw [hinv] at h ⊢
    exact ⟨block_below hb h.1, block_below hb h.2.1, h.2.2.trans (hb.mono h.2.2.size)⟩
  obtain ⟨p2, hp2⟩ : ∃ p2 : Value, p2 = .pointer (some ⟨w.heap.size, 0, none⟩) := ⟨_, rfl⟩
  obtain ⟨p3, hp3⟩ : ∃ p3 : Value, p3 = .pointer (some ⟨w.heap.size + 1, 0, none⟩) := ⟨_, rfl⟩
  refine ⟨Unit, fun _ => ⟨[(2, .pointer (some ⟨w.heap.size, 0, none⟩)), (3, .pointer (some ⟨w.heap.size + 1, 0, none⟩))], []⟩, fun _ V => inv V ∧ geoR g = true ∧ (m.line.toNat : Int) < linesOf g, ?_, ?_⟩
  · rw [← es]
    rw [hX] at f0 f1 hb0
    refine DrawE.ord [] [0, 1, 2, 3, 4, 5, 6, 7, 8, 9, 10] (by kernel_rfl) ?_
    refine ⟨g.enc, rfl, cells_block (hdr f0), hlt (hdr f0), ?_⟩
    refine Calls.mono (RightR_geo_c g _) ?_
    rintro e V ⟨rfl, hb⟩
    refine ⟨hb, ?_⟩
    have hw := hb0.drew.trans (hb.mono hb0.drew.size)
    have v0 := block_below hb (hdr f0)
    have v1 := block_below hb (hdr f1)
    rw [es]
    refine And.intro (fun h => ?_) (fun h => ?_)
    · have hR := not_t h
      have fact : rightR g m = false := by unfold rightR; rw [hR]; rfl
      refine And.intro (fun _ => ?_) (fun h => by cases h)
      exact And.intro (rb fact.symm) hw
    have hR := not_f h
    refine ⟨_, cells_at (cells_block v1) (i := 3) rfl, ?_⟩
    refine ⟨_, wrap_u8_i64 m.line, ?_⟩
    refine ⟨g.enc, rfl, cells_block v0, hlt v0, ?_⟩
    refine Calls.mono (LinesR_c g V) ?_
    rintro e Y ⟨rfl, hbY⟩
    refine ⟨hbY, ?_⟩
    have hwY := hw.trans (hbY.mono hw.size)
    refine And.intro (fun h3 => ?_) (fun h3 => ?_)
    · have h3 : linesOf g ≤ m.line.toNat := of_decide_eq_true h3
      have fact : rightR g m = false := by unfold rightR; rw [hR, decide_eq_false (by omega)]; rfl
      exact And.intro (rb fact.symm) hwY
    have h3 : ¬ linesOf g ≤ m.line.toNat := of_decide_eq_false h3
    refine ⟨(), ⟨.cons rfl (.cons rfl .nil), rfl⟩, ?_, hR, by omega⟩
    rw [hinv]
    exact ⟨block_below hbY v0, block_below hbY v1, hwY⟩
  clear f0 f1 hb0 hX X
  rintro _ V ⟨iV, hR, hline⟩
  have hs := geoR_spec hR
  have hfact : rightR g m = (wayK m.kind.toNat (cacheW g m) (fromHomeW g m) (betweenW g m) && askK m.kind.toNat (isCache g m.asker) (decide (m.asker = m.to)) (decide (m.asker = 0)) && acksK m.kind.toNat (decide ((m.acks.toNat : Int) < g.c)) (decide (m.acks = 0)) && aloneK m.kind.toNat m.alone (fromHomeW g m) && dataK m.kind.toNat (zeroD m) (tailD m g.w.toNat)) := by
    unfold rightR; rw [hR, decide_eq_true hline]; rfl
  obtain ⟨k, hk⟩ : ∃ k, k = m.kind.toNat := ⟨_, rfl⟩
  rw [← hk] at hfact
  obtain ⟨C, hC⟩ : ∃ C, C = cacheW g m := ⟨_, rfl⟩
  obtain ⟨F, hF⟩ : ∃ F, F = fromHomeW g m := ⟨_, rfl⟩
  obtain ⟨B, hB⟩ : ∃ B, B = betweenW g m := ⟨_, rfl⟩
  rw [← hC, ← hF, ← hB] at hfact
  rw [hfact]
  have hk256 : k < 256 := by rw [hk]; exact m.kind.toNat_lt
  -- home
  refine ⟨Unit, fun _ => ⟨[(2, .pointer (some ⟨w.heap.size, 0, none⟩)), (3, .pointer (some ⟨w.heap.size + 1, 0, none⟩)), (5, u8 (homeOf g m.line))], []⟩, fun _ V => inv V, ?_, ?_⟩
  · obtain ⟨f0, f1, hb⟩ := mk iV
    refine ⟨g.enc, rfl, cells_block f0, hlt f0, ?_⟩
    refine ⟨_, cells_at (cells_block f1) (i := 3) rfl, ?_⟩
    refine Calls.mono (HomeR_c g m.line V) ?_
    rintro e V1 ⟨rfl, hb1⟩
    exact ⟨(), ⟨.cons rfl (.cons rfl (.cons rfl .nil)), rfl⟩, mv iV hb1⟩
  clear iV V
  rintro _ V iV
  obtain ⟨f0, f1, hb⟩ := mk iV
  refine ⟨_, cells_at (cells_block f1) (i := 0) rfl, ?_⟩
  refine ⟨(k : Int), by rw [hk]; exact wrap_u8_i64 m.kind, ?_⟩
  -- cache
  refine ⟨Unit, fun _ => ⟨[(2, .pointer (some ⟨w.heap.size, 0, none⟩)), (3, .pointer (some ⟨w.heap.size + 1, 0, none⟩)), (5, u8 (homeOf g m.line)), (6, .int .i64 (k : Nat)), (7, .bool C)], []⟩, fun _ V => inv V, ?_, ?_⟩
  · refine ⟨g.enc, rfl, cells_block f0, hlt f0, ?_⟩
    refine ⟨_, cells_at (cells_block f1) (i := 1) rfl, ?_⟩
    refine Calls.mono (IsCacheR_c g m.from_ V) ?_
    rintro e V1 ⟨rfl, hb1⟩
    have f11 := block_below hb1 f1
    refine And.intro (fun h => ?_) (fun h => ?_)
    · refine ⟨_, cells_at (cells_block f11) (i := 2) rfl, ?_⟩
      have fact : C = decide ((m.to.toNat : Int) = ((homeOf g m.line).toNat : Int)) := by rw [hC, u8d]; unfold cacheW; rw [h]; rfl
      rw [fact]
      exact ⟨(), ⟨.cons rfl (.cons rfl (.cons rfl (.cons rfl (.cons rfl .nil)))), rfl⟩, mv iV hb1⟩
    · have fact : C = false := by rw [hC]; unfold cacheW; rw [h]; rfl
      rw [fact]
      exact ⟨(), ⟨.cons rfl (.cons rfl (.cons rfl (.cons rfl (.cons rfl .nil)))), rfl⟩, mv iV hb1⟩
  clear f0 f1 hb iV V
  rintro _ V iV
  obtain ⟨f0, f1, hb⟩ := mk iV
  -- fromHome
  refine ⟨Unit, fun _ => ⟨[(2, .pointer (some ⟨w.heap.size, 0, none⟩)), (3, .pointer (some ⟨w.heap.size + 1, 0, none⟩)), (6, .int .i64 (k : Nat)), (7, .bool C), (8, .bool F)], []⟩, fun _ V => inv V, ?_, ?_⟩
  · refine ⟨_, cells_at (cells_block f1) (i := 1) rfl, ?_⟩
    refine And.intro (fun h => ?_) (fun h => ?_)
    · have h : decide ((m.from_.toNat : Int) = ((homeOf g m.line).toNat : Int)) = true := h
      rw [u8d] at h
      refine ⟨g.enc, rfl, cells_block f0, hlt f0, ?_⟩
      refine ⟨_, cells_at (cells_block f1) (i := 2) rfl, ?_⟩
      refine Calls.mono (IsCacheR_c g m.to V) ?_
      rintro e V1 ⟨rfl, hb1⟩
      have fact : F = isCache g m.to := by rw [hF]; unfold fromHomeW; rw [h]; rfl
      rw [fact]
      exact ⟨(), ⟨.cons rfl (.cons rfl (.cons rfl (.cons rfl (.cons rfl .nil)))), rfl⟩, mv iV hb1⟩
    · have h : decide ((m.from_.toNat : Int) = ((homeOf g m.line).toNat : Int)) = false := h
      rw [u8d] at h
      have fact : F = false := by rw [hF]; unfold fromHomeW; rw [h]; rfl
      rw [fact]
      exact ⟨(), ⟨.cons rfl (.cons rfl (.cons rfl (.cons rfl (.cons rfl .nil)))), rfl⟩, iV⟩
  clear f0 f1 hb iV V
  rintro _ V iV
  obtain ⟨f0, f1, hb⟩ := mk iV
  -- between
  refine ⟨Unit, fun _ => ⟨[(2, .pointer (some ⟨w.heap.size, 0, none⟩)), (3, .pointer (some ⟨w.heap.size + 1, 0, none⟩)), (6, .int .i64 (k : Nat)), (7, .bool C), (8, .bool F), (9, .bool B)], []⟩, fun _ V => inv V, ?_, ?_⟩
  · refine ⟨g.enc, rfl, cells_block f0, hlt f0, ?_⟩
    refine ⟨_, cells_at (cells_block f1) (i := 1) rfl, ?_⟩
    refine Calls.mono (IsCacheR_c g m.from_ V) ?_
    rintro e V1 ⟨rfl, hb1⟩
    have i1 := mv iV hb1
    obtain ⟨g0, g1, _⟩ := mk i1
    refine And.intro (fun h => ?_) (fun h => ?_)
    · refine ⟨g.enc, rfl, cells_block g0, hlt g0, ?_⟩
      refine ⟨_, cells_at (cells_block g1) (i := 2) rfl, ?_⟩
      refine Calls.mono (IsCacheR_c g m.to V1) ?_
      rintro e V2 ⟨rfl, hb2⟩
      have i2 := mv i1 hb2
      obtain ⟨k0, k1, _⟩ := mk i2
      refine And.intro (fun h2 => ?_) (fun h2 => ?_)
      · refine ⟨_, cells_at (cells_block k1) (i := 1) rfl, ?_⟩
        refine ⟨_, cells_at (cells_block k1) (i := 2) rfl, ?_⟩
        have h2 : isCache g m.to = true := h2
        have fact : B = !decide ((m.from_.toNat : Int) = (m.to.toNat : Int)) := by rw [hB, u8d]; unfold betweenW; rw [h, h2]; rfl
        rw [fact]
        exact ⟨(), ⟨.cons rfl (.cons rfl (.cons rfl (.cons rfl (.cons rfl (.cons rfl .nil))))), rfl⟩, i2⟩
      · have h2 : isCache g m.to = false := h2
        have fact : B = false := by rw [hB]; unfold betweenW; rw [h, h2]; rfl
        rw [fact]
        exact ⟨(), ⟨.cons rfl (.cons rfl (.cons rfl (.cons rfl (.cons rfl (.cons rfl .nil))))), rfl⟩, i2⟩
    · refine And.intro (fun h => by cases h) (fun _ => ?_)
      have fact : B = false := by rw [hB]; unfold betweenW; rw [h]; rfl
      rw [fact]
      exact ⟨(), ⟨.cons rfl (.cons rfl (.cons rfl (.cons rfl (.cons rfl (.cons rfl .nil))))), rfl⟩, i1⟩
  clear f0 f1 hb iV V
  rintro _ V iV
  -- way
  obtain ⟨Wy, hWy⟩ : ∃ Wy, Wy = wayK k C F B := ⟨_, rfl⟩
  rw [← hWy]
  refine ⟨Unit, fun _ => ⟨[(2, .pointer (some ⟨w.heap.size, 0, none⟩)), (3, .pointer (some ⟨w.heap.size + 1, 0, none⟩)), (6, .int .i64 (k : Nat)), (8, .bool F), (10, .bool Wy)], []⟩, fun _ V => inv V, ?_, ?_⟩
  · refine And.intro (fun h1 => ?_) (fun h1 => ?_)
    · have h1 : (1 : Int) ≤ (k : Nat) := of_decide_eq_true h1
      refine And.intro (fun h2 => ?_) (fun h2 => ?_)
      · have h2 : ((k : Nat) : Int) ≤ 5 := of_decide_eq_true h2
        have fact : Wy = C := by rw [hWy]; unfold wayK; rw [if_pos (by omega)]
        rw [fact]
        exact ⟨(), ⟨.cons rfl (.cons rfl (.cons rfl (.cons rfl (.cons rfl .nil)))), rfl⟩, iV⟩
      have h2 : ¬ ((k : Nat) : Int) ≤ 5 := of_decide_eq_false h2
      refine And.intro (fun h3 => ?_) (fun h3 => absurd (of_decide_eq_false h3) (by omega))
      refine And.intro (fun h4 => ?_) (fun h4 => ?_)
      · have h4 : ((k : Nat) : Int) ≤ 9 := of_decide_eq_true h4
        have fact : Wy = F := by rw [hWy]; unfold wayK; rw [if_neg (by omega), if_pos (by omega)]
        refine And.intro (fun _ => ?_) (fun h => by cases h)
        rw [fact]
        exact ⟨(), ⟨.cons rfl (.cons rfl (.cons rfl (.cons rfl (.cons rfl .nil)))), rfl⟩, iV⟩
      have h4 : ¬ ((k : Nat) : Int) ≤ 9 := of_decide_eq_false h4
      refine And.intro (fun h5 => ?_) (fun h5 => ?_)
      · have h5 : ((k : Nat) : Int) = 11 := of_decide_eq_true h5
        have fact : Wy = F := by rw [hWy]; unfold wayK; rw [if_neg (by omega), if_pos (by omega)]
        rw [fact]
        exact ⟨(), ⟨.cons rfl (.cons rfl (.cons rfl (.cons rfl (.cons rfl .nil)))), rfl⟩, iV⟩
      have h5 : ¬ ((k : Nat) : Int) = 11 := of_decide_eq_false h5
      refine And.intro (fun h6 => ?_) (fun h6 => ?_)
      · have h6 : ((k : Nat) : Int) = 10 := of_decide_eq_true h6
        have fact : Wy = (F || B) := by rw [hWy]; unfold wayK; rw [if_neg (by omega), if_neg (by omega), if_pos (by omega)]
        refine And.intro (fun h7 => ?_) (fun h7 => ?_)
        · have fact2 : Wy = true := by rw [fact, h7]; rfl
          rw [fact2]
          exact ⟨(), ⟨.cons rfl (.cons rfl (.cons rfl (.cons rfl (.cons rfl .nil)))), rfl⟩, iV⟩
        · have fact2 : Wy = B := by rw [fact, h7]; rfl
          rw [fact2]
          exact ⟨(), ⟨.cons rfl (.cons rfl (.cons rfl (.cons rfl (.cons rfl .nil)))), rfl⟩, iV⟩
      have h6 : ¬ ((k : Nat) : Int) = 10 := of_decide_eq_false h6
      refine And.intro (fun h7 => ?_) (fun h7 => ?_)
      · have h7 : ((k : Nat) : Int) = 12 := of_decide_eq_true h7
        have fact : Wy = B := by rw [hWy]; unfold wayK; rw [if_neg (by omega), if_neg (by omega), if_neg (by omega), if_pos (by omega)]
        rw [fact]
        exact ⟨(), ⟨.cons rfl (.cons rfl (.cons rfl (.cons rfl (.cons rfl .nil)))), rfl⟩, iV⟩
      · have h7 : ¬ ((k : Nat) : Int) = 12 := of_decide_eq_false h7
        have fact : Wy = false := by rw [hWy]; unfold wayK; rw [if_neg (by omega), if_neg (by omega), if_neg (by omega), if_neg (by omega)]
        rw [fact]
        exact ⟨(), ⟨.cons rfl (.cons rfl (.cons rfl (.cons rfl (.cons rfl .nil)))), rfl⟩, iV⟩
    · have h1 : ¬ (1 : Int) ≤ (k : Nat) := of_decide_eq_false h1
      have fact : Wy = false := by rw [hWy]; unfold wayK; rw [if_neg (by omega), if_neg (by omega), if_neg (by omega), if_neg (by omega)]
      rw [fact]
      refine And.intro (fun h => by cases h) (fun _ => ?_)
      refine And.intro (fun h3 => absurd (of_decide_eq_true h3) (by omega)) (fun _ => ?_)
      refine And.intro (fun h => by cases h) (fun _ => ?_)
      refine And.intro (fun h5 => absurd (of_decide_eq_true h5) (by omega)) (fun _ => ?_)
      refine And.intro (fun h5 => absurd (of_decide_eq_true h5) (by omega)) (fun _ => ?_)
      refine And.intro (fun h5 => absurd (of_decide_eq_true h5) (by omega)) (fun _ => ?_)
      exact ⟨(), ⟨.cons rfl (.cons rfl (.cons rfl (.cons rfl (.cons rfl .nil)))), rfl⟩, iV⟩
  clear iV V
  rintro _ V iV
  obtain ⟨f0, f1, hb⟩ := mk iV
  -- asker
  obtain ⟨As, hAs⟩ : ∃ As, As = askK k (isCache g m.asker) (decide (m.asker = m.to)) (decide (m.asker = 0)) := ⟨_, rfl⟩
  rw [← hAs]
  refine ⟨_, cells_at (cells_block f1) (i := 4) rfl, ?_⟩
  refine ⟨Unit, fun _ => ⟨[(2, .pointer (some ⟨w.heap.size, 0, none⟩)), (3, .pointer (some ⟨w.heap.size + 1, 0, none⟩)), (6, .int .i64 (k : Nat)), (8, .bool F), (10, .bool Wy), (11, .bool As)], []⟩, fun _ V => inv V, ?_, ?_⟩
  · have noA : ¬ (6 ≤ k ∧ k ≤ 8) → As = decide ((m.asker.toNat : Int) = ((0 : UInt8).toNat : Int)) := fun h => by rw [hAs, u8d]; unfold askK; rw [if_neg h]
    refine And.intro (fun h1 => ?_) (fun h1 => ?_)
    · have h1 : (6 : Int) ≤ (k : Nat) := of_decide_eq_true h1
      refine And.intro (fun h2 => ?_) (fun h2 => ?_)
      · have h2 : ((k : Nat) : Int) ≤ 8 := of_decide_eq_true h2
        have fact : As = (isCache g m.asker && !decide (m.asker = m.to)) := by rw [hAs]; unfold askK; rw [if_pos (by omega)]
        refine ⟨g.enc, rfl, cells_block f0, hlt f0, ?_⟩
        refine ⟨_, cells_at (cells_block f1) (i := 4) rfl, ?_⟩
        refine Calls.mono (IsCacheR_c g m.asker V) ?_
        rintro e V1 ⟨rfl, hb1⟩
        have i1 := mv iV hb1
        obtain ⟨g0, g1, _⟩ := mk i1
        refine And.intro (fun h3 => ?_) (fun h3 => ?_)
        · refine ⟨_, cells_at (cells_block g1) (i := 4) rfl, ?_⟩
          refine ⟨_, cells_at (cells_block g1) (i := 2) rfl, ?_⟩
          have fact2 : As = !decide ((m.asker.toNat : Int) = (m.to.toNat : Int)) := by rw [fact, h3, u8d]; rfl
          rw [fact2]
          exact ⟨(), ⟨.cons rfl (.cons rfl (.cons rfl (.cons rfl (.cons rfl (.cons rfl .nil))))), rfl⟩, i1⟩
        · have fact2 : As = false := by rw [fact, h3]; rfl
          rw [fact2]
          exact ⟨(), ⟨.cons rfl (.cons rfl (.cons rfl (.cons rfl (.cons rfl (.cons rfl .nil))))), rfl⟩, i1⟩
      · have h2 : ¬ ((k : Nat) : Int) ≤ 8 := of_decide_eq_false h2
        rw [noA (by omega)]
        exact ⟨(), ⟨.cons rfl (.cons rfl (.cons rfl (.cons rfl (.cons rfl (.cons rfl .nil))))), rfl⟩, iV⟩
    · have h1 : ¬ (6 : Int) ≤ (k : Nat) := of_decide_eq_false h1
      refine And.intro (fun h => by cases h) (fun _ => ?_)
      rw [noA (by omega)]
      exact ⟨(), ⟨.cons rfl (.cons rfl (.cons rfl (.cons rfl (.cons rfl (.cons rfl .nil))))), rfl⟩, iV⟩
  clear f0 f1 hb iV V
  rintro _ V iV
  obtain ⟨f0, f1, hb⟩ := mk iV
  -- acks
  obtain ⟨Ac, hAc⟩ : ∃ Ac, Ac = acksK k (decide ((m.acks.toNat : Int) < g.c)) (decide (m.acks = 0)) := ⟨_, rfl⟩
  rw [← hAc]
  refine ⟨Unit, fun _ => ⟨[(2, .pointer (some ⟨w.heap.size, 0, none⟩)), (3, .pointer (some ⟨w.heap.size + 1, 0, none⟩)), (6, .int .i64 (k : Nat)), (8, .bool F), (10, .bool Wy), (11, .bool As), (12, .bool Ac)], []⟩, fun _ V => inv V, ?_, ?_⟩
  · refine ⟨_, cells_at (cells_block f1) (i := 5) rfl, ?_⟩
    refine And.intro (fun h1 => ?_) (fun h1 => ?_)
    · have h1 : decide ((m.acks.toNat : Int) = ((0 : UInt8).toNat : Int)) = true := h1
      rw [u8d] at h1
      have fact : Ac = true := by rw [hAc]; unfold acksK; rw [h1]; rfl
      rw [fact]
      exact ⟨(), ⟨.cons rfl (.cons rfl (.cons rfl (.cons rfl (.cons rfl (.cons rfl (.cons rfl .nil)))))), rfl⟩, iV⟩
    have h1 : decide ((m.acks.toNat : Int) = ((0 : UInt8).toNat : Int)) = false := h1
    rw [u8d] at h1
    refine ⟨_, cells_at (cells_block f1) (i := 5) rfl, ?_⟩
    refine ⟨_, wrap_u8_i64 m.acks, ?_⟩
    refine ⟨_, cells_at (cells_block f0) (i := 0) rfl, ?_⟩
    refine And.intro (fun h2 => ?_) (fun h2 => ?_)
    · have h2 : decide ((m.acks.toNat : Int) < g.c) = true := h2
      have fact : Ac = (decide (k = 7) || decide (k = 10) || decide (k = 11)) := by rw [hAc]; unfold acksK; rw [h1, h2]; rfl
      refine And.intro (fun h3 => ?_) (fun h3 => ?_)
      · have h3 : ((k : Nat) : Int) = 7 := of_decide_eq_true h3
        have fact2 : Ac = true := by rw [fact, decide_eq_true (show k = 7 by omega)]; rfl
        refine And.intro (fun _ => ?_) (fun h => by cases h)
        rw [fact2]
        exact ⟨(), ⟨.cons rfl (.cons rfl (.cons rfl (.cons rfl (.cons rfl (.cons rfl (.cons rfl .nil)))))), rfl⟩, iV⟩
      have h3 : ¬ ((k : Nat) : Int) = 7 := of_decide_eq_false h3
      refine And.intro (fun h4 => ?_) (fun h4 => ?_)
      · have h4 : ((k : Nat) : Int) = 10 := of_decide_eq_true h4
        have fact2 : Ac = true := by rw [fact, decide_eq_true (show k = 10 by omega)]; simp
        rw [fact2]
        exact ⟨(), ⟨.cons rfl (.cons rfl (.cons rfl (.cons rfl (.cons rfl (.cons rfl (.cons rfl .nil)))))), rfl⟩, iV⟩
      have h4 : ¬ ((k : Nat) : Int) = 10 := of_decide_eq_false h4
      have fact2 : Ac = decide (((k : Nat) : Int) = 11) := by
        rw [fact, decide_eq_false (show ¬ k = 7 by omega), decide_eq_false (show ¬ k = 10 by omega), Bool.false_or, Bool.false_or, decide_eq_decide]; omega
      rw [fact2]
      exact ⟨(), ⟨.cons rfl (.cons rfl (.cons rfl (.cons rfl (.cons rfl (.cons rfl (.cons rfl .nil)))))), rfl⟩, iV⟩
    · have h2 : decide ((m.acks.toNat : Int) < g.c) = false := h2
      have fact : Ac = false := by rw [hAc]; unfold acksK; rw [h1, h2]; rfl
      rw [fact]
      exact ⟨(), ⟨.cons rfl (.cons rfl (.cons rfl (.cons rfl (.cons rfl (.cons rfl (.cons rfl .nil)))))), rfl⟩, iV⟩
  clear f0 f1 hb iV V
  rintro _ V iV
  obtain ⟨f0, f1, hb⟩ := mk iV
  -- alone
  obtain ⟨Al, hAl⟩ : ∃ Al, Al = aloneK k m.alone F := ⟨_, rfl⟩
  rw [← hAl]
  refine ⟨Unit, fun _ => ⟨[(2, .pointer (some ⟨w.heap.size, 0, none⟩)), (3, .pointer (some ⟨w.heap.size + 1, 0, none⟩)), (6, .int .i64 (k : Nat)), (10, .bool Wy), (11, .bool As), (12, .bool Ac), (13, .bool Al)], []⟩, fun _ V => inv V, ?_, ?_⟩
  · refine ⟨_, cells_at (cells_block f1) (i := 6) rfl, ?_⟩
    refine And.intro (fun h1 => ?_) (fun h1 => ?_)
    · have h1 : (!m.alone) = true := h1
      have fact : Al = true := by rw [hAl]; unfold aloneK; rw [h1]; rfl
      rw [fact]
      exact ⟨(), ⟨.cons rfl (.cons rfl (.cons rfl (.cons rfl (.cons rfl (.cons rfl (.cons rfl .nil)))))), rfl⟩, iV⟩
    have h1 : (!m.alone) = false := h1
    refine And.intro (fun h2 => ?_) (fun h2 => ?_)
    · have h2 : ((k : Nat) : Int) = 10 := of_decide_eq_true h2
      have fact : Al = F := by rw [hAl]; unfold aloneK; rw [h1, decide_eq_true (show k = 10 by omega)]; rfl
      rw [fact]
      exact ⟨(), ⟨.cons rfl (.cons rfl (.cons rfl (.cons rfl (.cons rfl (.cons rfl (.cons rfl .nil)))))), rfl⟩, iV⟩
    · have h2 : ¬ ((k : Nat) : Int) = 10 := of_decide_eq_false h2
      have fact : Al = false := by rw [hAl]; unfold aloneK; rw [h1, decide_eq_false (show ¬ k = 10 by omega)]; rfl
      rw [fact]
      exact ⟨(), ⟨.cons rfl (.cons rfl (.cons rfl (.cons rfl (.cons rfl (.cons rfl (.cons rfl .nil)))))), rfl⟩, iV⟩
  clear f0 f1 hb iV V
  rintro _ V iV
  obtain ⟨f0, f1, hb⟩ := mk iV
  -- data
  obtain ⟨D0, hD0⟩ : ∃ D0, D0 = (zeroD m || decide (k = 3) || decide (k = 5) || decide (k = 10)) := ⟨_, rfl⟩
  have hdata : dataK k (zeroD m) (tailD m g.w.toNat) = (D0 && tl m g.w.toNat 4) := by unfold dataK; rw [hD0, tl_end]
  rw [hdata]
  refine ⟨Unit, fun _ => ⟨[(2, .pointer (some ⟨w.heap.size, 0, none⟩)), (3, .pointer (some ⟨w.heap.size + 1, 0, none⟩)), (6, .int .i64 (k : Nat)), (10, .bool Wy), (11, .bool As), (12, .bool Ac), (13, .bool Al), (14, .bool D0)], []⟩, fun _ V => inv V, ?_, ?_⟩
  · have hdat : Cells V ⟨w.heap.size + 1, 7, none⟩ (dcells m.d0 m.d1 m.d2 m.d3) := by
      refine cells_mk fun i v hv => ?_
      have hi : i < 4 := (List.getElem?_eq_some_iff.1 hv).1
      have : m.enc[7 + i]? = some v := by
        rw [← hv]
        have h4 : i = 0 ∨ i = 1 ∨ i = 2 ∨ i = 3 := by omega
        rcases h4 with rfl | rfl | rfl | rfl <;> rfl
      have hc : Cells V ⟨w.heap.size + 1, 0, none⟩ m.enc := cells_block f1
      have := cells_at hc this
      rw [Nat.zero_add] at this; exact this
    refine ⟨dcells m.d0 m.d1 m.d2 m.d3, rfl, hdat, hlt f1, ?_⟩
    refine ⟨dcells 0 0 0 0, rfl, ?_⟩
    refine ⟨_, fun w => eql_data _ _ m.d0 m.d1 m.d2 m.d3 0 0 0 0 w, ?_⟩
    refine And.intro (fun h1 => ?_) (fun h1 => ?_)
    · have h1 : zeroD m = true := h1
      have fact : D0 = true := by rw [hD0, h1]; rfl
      refine And.intro (fun _ => ?_) (fun h => by cases h)
      refine And.intro (fun _ => ?_) (fun h => by cases h)
      rw [fact]
      exact ⟨(), ⟨.cons rfl (.cons rfl (.cons rfl (.cons rfl (.cons rfl (.cons rfl (.cons rfl (.cons rfl .nil))))))), rfl⟩, iV⟩
    have h1 : zeroD m = false := h1
    refine And.intro (fun h2 => ?_) (fun h2 => ?_)
    · have h2 : ((k : Nat) : Int) = 3 := of_decide_eq_true h2
      have fact : D0 = true := by rw [hD0, decide_eq_true (show k = 3 by omega)]; simp
      refine And.intro (fun _ => ?_) (fun h => by cases h)
      rw [fact]
      exact ⟨(), ⟨.cons rfl (.cons rfl (.cons rfl (.cons rfl (.cons rfl (.cons rfl (.cons rfl (.cons rfl .nil))))))), rfl⟩, iV⟩
    have h2 : ¬ ((k : Nat) : Int) = 3 := of_decide_eq_false h2
    refine And.intro (fun h3 => ?_) (fun h3 => ?_)
    · have h3 : ((k : Nat) : Int) = 5 := of_decide_eq_true h3
      have fact : D0 = true := by rw [hD0, decide_eq_true (show k = 5 by omega)]; simp
      rw [fact]
      exact ⟨(), ⟨.cons rfl (.cons rfl (.cons rfl (.cons rfl (.cons rfl (.cons rfl (.cons rfl (.cons rfl .nil))))))), rfl⟩, iV⟩
    have h3 : ¬ ((k : Nat) : Int) = 5 := of_decide_eq_false h3
    have fact : D0 = decide (((k : Nat) : Int) = 10) := by
      rw [hD0, h1, decide_eq_false (show ¬ k = 3 by omega), decide_eq_false (show ¬ k = 5 by omega), Bool.false_or, Bool.false_or, Bool.false_or, decide_eq_decide]; omega
    rw [fact]
    exact ⟨(), ⟨.cons rfl (.cons rfl (.cons rfl (.cons rfl (.cons rfl (.cons rfl (.cons rfl (.cons rfl .nil))))))), rfl⟩, iV⟩
  clear f0 f1 hb iV V
  rintro _ V iV
  obtain ⟨f0, f1, hb⟩ := mk iV
  obtain ⟨n, hn⟩ : ∃ n, n = g.w.toNat := ⟨_, rfl⟩
  have hn4 : 1 ≤ n ∧ n ≤ 4 := by omega
  have hwn : g.w = (n : Int) := by omega
  rw [← hn]
  refine ⟨Unit, fun _ => ⟨[(10, .bool Wy), (11, .bool As), (12, .bool Ac), (13, .bool Al), (14, .bool (D0 && tl m n 4))], []⟩, fun _ V => inv V, ?_, ?_⟩
  · refine ⟨_, cells_at (cells_block f0) (i := 2) rfl, ?_⟩
    refine ⟨Nat, fun i => ⟨[(3, .pointer (some ⟨w.heap.size + 1, 0, none⟩)), (10, .bool Wy), (11, .bool As), (12, .bool Ac), (13, .bool Al), (14, .bool (D0 && tl m n i)), (15, .int .i64 (i : Nat))], []⟩, fun i V => n ≤ i ∧ i ≤ 4 ∧ inv V, fun i => 4 - i, n, ⟨.cons rfl (.cons rfl (.cons rfl (.cons rfl (.cons rfl (.cons (by rw [tl_start m n n (Nat.le_refl _), Bool.and_true]; rfl) (.cons (by rw [← hwn]; rfl) .nil)))))), rfl⟩, ⟨Nat.le_refl _, hn4.2, iV⟩, ?_⟩
    clear f0 f1 hb iV V
    rintro i V ⟨hni, hi4, iV⟩
    obtain ⟨f0, f1, hb⟩ := mk iV
    refine And.intro (fun h => ?_) (fun h => ?_)
    · have h : (i : Int) < 4 := of_decide_eq_true h
      have hi : i < 4 := by omega
      have hbl : Nat.blt i n = false := by
        cases hh : Nat.blt i n with
        | false => rfl
        | true => have : i < n := by rw [Nat.blt_eq] at hh; exact hh
                  omega
      have step : tl m n (i + 1) = (tl m n i && decide ((dOf m).getD i 0 = 0)) := by show (tl m n i && (Nat.blt i n || _)) = _; rw [hbl, Bool.false_or]
      refine And.intro (fun h1 => ?_) (fun h1 => ?_)
      · have h1 : (D0 && tl m n i) = true := h1
        refine ⟨i, rfl, hi, ?_⟩
        have hc : V.cell? ⟨w.heap.size + 1, 0 + 7 + i * 1, none⟩ = some (u8 ((dOf m).getD i 0)) := by
          have h4 : i = 0 ∨ i = 1 ∨ i = 2 ∨ i = 3 := by omega
          rcases h4 with rfl | rfl | rfl | rfl
          · exact cells_at (cells_block f1) (i := 7) rfl
          · exact cells_at (cells_block f1) (i := 8) rfl
          · exact cells_at (cells_block f1) (i := 9) rfl
          · exact cells_at (cells_block f1) (i := 10) rfl
        refine ⟨_, hc, ?_⟩
        refine ⟨((i + 1 : Nat) : Int), (wrap_i64 (by omega)).trans (by omega), ?_⟩
        have fact : (D0 && tl m n (i + 1)) = decide ((((dOf m).getD i 0).toNat : Int) = ((0 : UInt8).toNat : Int)) := by rw [step, ← Bool.and_assoc, h1, Bool.true_and, u8d]
        refine ⟨i + 1, ⟨.cons rfl (.cons rfl (.cons rfl (.cons rfl (.cons rfl (.cons (by rw [fact]; rfl) (.cons rfl .nil)))))), rfl⟩, ⟨by omega, hi, iV⟩, by dsimp only; omega⟩
      · have h1 : (D0 && tl m n i) = false := h1
        refine ⟨((i + 1 : Nat) : Int), (wrap_i64 (by omega)).trans (by omega), ?_⟩
        have fact : (D0 && tl m n (i + 1)) = false := by rw [step, ← Bool.and_assoc, h1, Bool.false_and]
        refine ⟨i + 1, ⟨.cons rfl (.cons rfl (.cons rfl (.cons rfl (.cons rfl (.cons (by rw [fact]; rfl) (.cons rfl .nil)))))), rfl⟩, ⟨by omega, hi, iV⟩, by dsimp only; omega⟩
    · have h : ¬ (i : Int) < 4 := of_decide_eq_false h
      have : i = 4 := by omega
      subst this
      exact ⟨(), ⟨.cons rfl (.cons rfl (.cons rfl (.cons rfl (.cons rfl .nil)))), rfl⟩, iV⟩
  clear f0 f1 hb iV V
  rintro _ V iV
  obtain ⟨f0, f1, hb⟩ := mk iV
  obtain ⟨Dt, hDt⟩ : ∃ Dt, Dt = (D0 && tl m n 4) := ⟨_, rfl⟩
  rw [← hDt]
  refine And.intro (fun h1 => ?_) (fun h1 => ?_)
  · have h1 : Wy = true := h1
    refine And.intro (fun h2 => ?_) (fun h2 => ?_)
    · have h2 : As = true := h2
      refine And.intro (fun h3 => ?_) (fun h3 => ?_)
      · have h3 : Ac = true := h3
        refine And.intro (fun h4 => ?_) (fun h4 => ?_)
        · have h4 : Al = true := h4
          exact And.intro (rb (by rw [h1, h2, h3, h4]; rfl)) hb
        · have h4 : Al = false := h4
          exact And.intro (rb (by rw [h1, h2, h3, h4]; rfl)) hb
      · have h3 : Ac = false := h3
        refine And.intro (fun h => by cases h) (fun _ => ?_)
        exact And.intro (rb (by rw [h1, h2, h3]; rfl)) hb
    · have h2 : As = false := h2
      refine And.intro (fun h => by cases h) (fun _ => ?_)
      refine And.intro (fun h => by cases h) (fun _ => ?_)
      exact And.intro (rb (by rw [h1, h2]; rfl)) hb
  · have h1 : Wy = false := h1
    refine And.intro (fun h => by cases h) (fun _ => ?_)
    refine And.intro (fun h => by cases h) (fun _ => ?_)
    refine And.intro (fun h => by cases h) (fun _ => ?_)
    exact And.intro (rb (by rw [h1]; rfl)) hb
end Go.Proofs.YtkekidalckflhaaGreatDoor
namespace Go.Proofs.YtkekidalckflhaaGreatDoor
open Go.Vc Go.RowKit Go.Sei

theorem sp_short : ∀ (s w : List UInt8), ∀ x ∈ sp w s, x.length ≤ w.length + s.length
  | [], w, x, h => by
    have : x = w := by simpa [sp] using h
    rw [this]; simp
  | c :: r, w, x, h => by
    unfold sp at h
    split at h
    · rcases List.mem_cons.1 h with rfl | h
      · omega
      · have := sp_short r [] x h; simp only [List.length_nil, List.length_cons] at this ⊢; omega
    · have := sp_short r (w ++ [c]) x h; simp only [List.length_append, List.length_nil, List.length_cons] at this ⊢; omega

/-- A store of some cells into a box of cells. -/
theorem store_cells {P : Program} {w : World} {g : Nat} {Te : TypeId} {iT : TI} (hT : TIok P Te iT) {cs : Array Value} {t : TypeId} (hg : w.heap[g]? = some (.cells cs t (0, 0))) {o : Nat} {v : Value} {vs : List Value} (hv : v.cells = vs.toArray) (hs : iT.size = vs.length) (ho : o + vs.length ≤ cs.size) (h1 : ∀ u ∈ vs, u.oneCell' = true) {K : World → Prop}
    (k : ∀ w', w'.heap[g]? = some (.cells (cs.toList.take o ++ vs ++ cs.toList.drop (o + vs.length)).toArray t (0, 0)) → w.grownBy w' (some g) → w'.heap.size = w.heap.size → K w') :
    SatR ((storeVar Te ⟨g, o, none⟩ v).run P w) fun _ w' => K w' := by
  obtain ⟨⟨inf, hinf, hsz, _, _⟩, _⟩ := hT
  have hst := run_storeCells_at P g o t vs 0 cs w hg (by simpa using ho) h1
  have hrun : (sizeOf Te).run P w = .ok iT.size w := by simp [sizeOf, typeInfo, hinf, hsz]
  refine SatR.mk (v := ()) (w' := w.setRow g (cs.toList.take o ++ vs ++ cs.toList.drop (o + vs.length)).toArray) ?_ (k _ (setRow_new hg) (grown_setRow w g _) (by simp))
  simp only [storeVar, Sem.run_bind, hrun, Result.andThen_ok, hv, hs]
  simpa using hst
/-- The box of the message that is read. -/
structure PS (W1 : World) (m : Msg) (V : World) : Prop where
  box : V.heap[W1.heap.size]? = some (.cells m.val.cells 27 (0, 0))
  bel : Below W1.heap.size W1 V
theorem PS.below {W1 V V2 : World} {m : Msg} (h : PS W1 m V) (hb : Below V.heap.size V V2) : PS W1 m V2 := ⟨block_below hb h.box, h.bel.trans (hb.mono h.bel.size)⟩
theorem PS.set {W1 V : World} {m : Msg} {T : TypeId} {iT : TI} (h : PS W1 m V) (hT : TIok Tryz.prog T iT) (hs : iT.size = 1) {o : Nat} {v : Value} (ho : o < 11) (hv : v.cells = #[v]) (h1 : v.oneCell' = true) (m' : Msg) (he : m.enc.take o ++ [v] ++ m.enc.drop (o + 1) = m'.enc)
    {K : World → Prop} (k : ∀ V', PS W1 m' V' → K V') : SatR ((storeVar T ⟨W1.heap.size, o, none⟩ v).run Tryz.prog V) fun _ w' => K w' := by
  obtain ⟨fx, hb⟩ := h
  refine store_cell hT hs fx (by show o < 11; exact ho) hv h1 fun V' f gr z => k V' ⟨?_, hb.grown gr hb.size (fun j e => by simp at e; omega)⟩
  rw [f]
  have : m.val.cells.toList = m.enc := rfl
  rw [this, he]; rfl

theorem PS.setD {W1 V : World} {m : Msg} (h : PS W1 m V) (a b c d : UInt8) {K : World → Prop} (k : ∀ V', PS W1 { m with d0 := a, d1 := b, d2 := c, d3 := d } V' → K V') : SatR ((storeVar 25 ⟨W1.heap.size, 7, none⟩ (.agg (dcells a b c d).toArray)).run Tryz.prog V) fun _ w' => K w' := by
  obtain ⟨fx, hb⟩ := h
  refine store_cells (vs := dcells a b c d) (ttOk.get 25 _ rfl) fx (by rfl) rfl (by show 7 + 4 ≤ 11; decide) (fun u hu => by simp only [dcells, List.mem_cons, List.not_mem_nil, or_false] at hu; rcases hu with rfl | rfl | rfl | rfl <;> rfl) fun V' f gr z => k V' ⟨?_, hb.grown gr hb.size (fun j e => by simp at e; omega)⟩
  rw [f]; rfl
def Rest (l : List (List UInt8)) (i : Nat) (m : Msg) : Msg := if i = 1 then go1 (l.drop 1) m else goR (l.drop i) m
theorem rest_end {l : List (List UInt8)} {i : Nat} {m : Msg} (h : l.length ≤ i) : Rest l i m = m := by
  unfold Rest
  split
  · rename_i h1; subst h1; rw [List.drop_eq_nil_of_le h]; rfl
  · rw [List.drop_eq_nil_of_le h]; rfl

theorem drop_at {l : List (List UInt8)} {i : Nat} (h : i < l.length) : l.drop i = l[i] :: l.drop (i + 1) := List.drop_eq_getElem_cons h
theorem wv {i : Nat} {l : List (List UInt8)} {p : Option Addr} {V : World} (hr : SlR strE V p l) (hi : i < l.length) : ∃ b o, p = some ⟨b, o, none⟩ ∧ ∀ j (h : j < l.length), V.cell? ⟨b, o + j * 1, none⟩ = some (strV l[j]) := by
  obtain ⟨b, o, hp, _, hc⟩ := hr.at hi
  exact ⟨b, o, hp, fun j h => cells_head (hc j h)⟩

set_option maxRecDepth 20000 in
theorem ParseR_c (s : List UInt8) (hs : s.length ≤ 1000) (w : World) : Calls Tryz.prog 35 #[strV s] w fun e w' => e = .returned (.tuple #[(parseR s).1.val, .int .i64 (parseR s).2]) ∧ Below w.heap.size w w' := by
  refine calls_of_M (S := sg 131) (sgOk _) (args := [strV s]) (.s .p (.s .p (.s .p (.c .p (.c .p (.c (.s .p (.b (.l (.s .p (.c (.b (.c .p (.s .p (.c .p .p)))) .p))))) .p)))))) Tryz.func35 rfl rfl (Nat.le_of_ble_eq_true rfl) rfl ?_
  have hb0 : Below w.heap.size w (w.alloc (.cells zeroM.val.cells 27)) := (Below.refl _ _).alloc (Nat.le_refl _) _
  have f0 := hnew w (.cells zeroM.val.cells 27)
  refine Calls.mono (words_c s hs _) ?_
  rintro e W1 ⟨p, cap, rfl, hrow, hcap, hb1⟩
  have hw1 := hb0.trans (hb1.mono hb0.size)
  have g1 := block_below hb1 f0
  have hsz : w.heap.size < W1.heap.size := hlt g1
  have hshort : ∀ x ∈ sp [] s, x.length ≤ 1000000000 := fun x hx => by have := sp_short s [] x hx; simp at this; omega
  have ps0 : PS W1 zeroM (W1.alloc (.cells zeroM.val.cells 27)) := ⟨hnew _ _, (Below.refl _ _).alloc (Nat.le_refl _) _⟩
  refine ⟨Option Addr × Nat × List UInt8 × List (List UInt8) × UInt8, fun t => ⟨[(0, strV s), (2, .pointer (some ⟨w.heap.size, 0, none⟩)), (4, .slice t.1 (t.2.2.1 :: t.2.2.2.1).length t.2.1), (5, .pointer (some ⟨W1.heap.size, 0, none⟩))], []⟩,
    fun t V => SlR strE W1 t.1 (t.2.2.1 :: t.2.2.2.1) ∧ (∀ x ∈ t.2.2.1 :: t.2.2.2.1, x.length ≤ 1000000000) ∧ PS W1 { zeroM with kind := t.2.2.2.2 } V ∧ (t.2.2.1 :: t.2.2.2.1).length ≤ 2000 ∧ candR (sp [] s) = go1 t.2.2.2.1 { zeroM with kind := kfold t.2.2.1 12 t.2.2.2.2 }, ?_, ?_⟩
  · obtain ⟨x, r, hl⟩ : ∃ x r, sp [] s = x :: r := by
      cases hh : sp [] s with
      | nil => exact absurd hh (sp_ne s [])
      | cons x r => exact ⟨x, r, rfl⟩
    rw [hl] at hrow hcap hshort ⊢
    have hlen : (x :: r).length ≤ 2000 := by rw [← hl]; have := sp_len s []; omega
    obtain ⟨b, o, hp, hc⟩ := wv (hrow.below ps0.bel) (i := 0) (by simp)
    subst hp
    refine ⟨0, rfl, by simp, ?_⟩
    refine ⟨_, hc 0 (by simp), ?_⟩
    refine ⟨_, fun w => eql_str _ _ x [107, 105, 110, 100] w, ?_⟩
    refine And.intro (fun h1 => ?_) (fun h1 => ?_)
    · have h1 : x = [107, 105, 110, 100] := of_decide_eq_true h1
      refine And.intro (fun h2 => ?_) (fun h2 => ?_)
      · have h2 : (1 : Int) < ((x :: r).length : Nat) := of_decide_eq_true h2
        obtain ⟨y, r', rfl⟩ : ∃ y r', r = y :: r' := by
          cases r with
          | nil => simp at h2
          | cons y r' => exact ⟨y, r', rfl⟩
        refine ⟨1, rfl, by simp, ?_⟩
        refine ⟨_, hc 1 (by simp), ?_⟩
        refine Calls.mono (valueR_c y (hshort y (by simp)) _) ?_
        rintro e _ ⟨rfl, rfl⟩
        refine ps0.set (ttOk.get 5 _ rfl) rfl (o := 0) (by decide) rfl rfl { zeroM with kind := valR y } rfl fun V' ps' => ?_
        refine ⟨1, rfl, by simp, ?_⟩
        have hsub := hrow.sub (cap := cap) (lo := 1) (hi := (x :: y :: r').length) (by simp) (Nat.le_refl _) hcap
        have hd : ((x :: y :: r').drop 1).take ((x :: y :: r').length - 1) = y :: r' := by simp
        rw [hd] at hsub
        refine ⟨(cutBase (some ⟨b, o, none⟩) cap 1 1, cap - 1, y, r', valR y), ⟨.cons rfl (.cons rfl (.cons ?_ (.cons rfl .nil))), rfl⟩, hsub, fun z hz => hshort z (List.mem_cons_of_mem _ hz), ps', by simp at hlen ⊢; omega, ?_⟩
        · show _ = some (Value.slice (cutBase (some ⟨b, o, none⟩) cap 1 1) (y :: r').length (cap - 1))
          rfl
        · rw [h1]; exact cand_kind y r'
      · have h2 : ¬ (1 : Int) < ((x :: r).length : Nat) := of_decide_eq_false h2
        obtain rfl : r = [] := by
          cases r with
          | nil => rfl
          | cons y r' => exact absurd (show (1 : Int) < ((x :: y :: r').length : Nat) by simp; omega) h2
        refine ⟨(_, cap, x, [], 0), ⟨.cons rfl (.cons rfl (.cons rfl (.cons rfl .nil))), rfl⟩, hrow, hshort, ps0, hlen, ?_⟩
        rw [h1]; rfl
    · have h1 : ¬ x = [107, 105, 110, 100] := of_decide_eq_false h1
      refine And.intro (fun h => by cases h) (fun _ => ?_)
      exact ⟨(_, cap, x, r, 0), ⟨.cons rfl (.cons rfl (.cons rfl (.cons rfl .nil))), rfl⟩, hrow, hshort, ps0, hlen, cand_name r h1⟩
  clear hrow hcap hshort ps0
  rintro ⟨p, cap, x, r, k⟩ V ⟨hrow, hshort, ps, hlen, hcand⟩
  dsimp only at hrow hshort ps hlen hcand
  refine ⟨Unit, fun _ => ⟨[(0, strV s), (2, .pointer (some ⟨w.heap.size, 0, none⟩)), (4, .slice p (x :: r).length cap), (5, .pointer (some ⟨W1.heap.size, 0, none⟩))], []⟩,
    fun _ V => PS W1 { zeroM with kind := kfold x 12 k } V, ?_, ?_⟩
  · refine ⟨Nat, fun n => ⟨[(0, strV s), (2, .pointer (some ⟨w.heap.size, 0, none⟩)), (4, .slice p (x :: r).length cap), (5, .pointer (some ⟨W1.heap.size, 0, none⟩)), (6, .int .i64 (n : Nat))], []⟩, fun n V => n ≤ 12 ∧ PS W1 { zeroM with kind := kfold x n k } V, fun n => 12 - n, 0,
      ⟨.cons rfl (.cons rfl (.cons rfl (.cons rfl (.cons rfl .nil)))), rfl⟩, ⟨by decide, ps⟩, ?_⟩
    clear ps V
    rintro n V ⟨hn, ps⟩
    refine Calls.mono (NamesR_c V) ?_
    rintro e V1 ⟨rfl, hV1⟩
    have hbV : Below V.heap.size V V1 := by rw [hV1]; exact (Below.refl _ _).alloc (Nat.le_refl _) _
    have ps1 := ps.below hbV
    refine And.intro (fun h => ?_) (fun h => ?_)
    · have h : (n : Int) < 12 := of_decide_eq_true h
      refine DrawE.ord [] [0, 1, 2, 4, 3, 5, 6, 7] (by kernel_rfl) ?_
      have ps1d : PS W1 { zeroM with kind := kfold x n k } V1.drew := ps1.below (Below.refl _ _).drew
      obtain ⟨b, o, hp, hc⟩ := wv (hrow.below ps1d.bel) (i := 0) (by simp)
      subst hp
      refine ⟨0, rfl, by simp, ?_⟩
      refine ⟨_, hc 0 (by simp), ?_⟩
      refine Calls.mono (NamesR_c V1.drew) ?_
      rintro e V2 ⟨rfl, hV2⟩
      have hb2 : Below V1.drew.heap.size V1.drew V2 := by rw [hV2]; exact (Below.refl _ _).alloc (Nat.le_refl _) _
      refine ⟨hb2, ?_⟩
      have ps2 := ps1d.below hb2
      refine ⟨n, rfl, by omega, ?_⟩
      refine ⟨_, names_at (by rw [hV2]; exact Below.refl _ _) (show n < 12 by omega), ?_⟩
      refine ⟨_, fun w => eql_str _ _ x (namesR.getD n []) w, ?_⟩
      refine And.intro (fun h1 => ?_) (fun h1 => ?_)
      · have h1 : x = namesR.getD n [] := of_decide_eq_true h1
        have ek : kfold x (n + 1) k = UInt8.ofNat (n + 1) := by show (if _ then _ else _) = _; rw [if_pos h1]
        refine ⟨((n + 1 : Nat) : Int), (wrap_i64 (by omega)).trans (by omega), ?_⟩
        refine ⟨_, wrap_u8_nat _, ?_⟩
        refine ps2.set (ttOk.get 5 _ rfl) rfl (o := 0) (by decide) rfl rfl { zeroM with kind := kfold x (n + 1) k } (by rw [ek]; rfl) fun V' ps' => ?_
        refine ⟨((n + 1 : Nat) : Int), (wrap_i64 (by omega)).trans (by omega), ?_⟩
        exact ⟨n + 1, ⟨.cons rfl (.cons rfl (.cons rfl (.cons rfl (.cons rfl .nil)))), rfl⟩, ⟨by omega, ps'⟩, by dsimp only; omega⟩
      · have h1 : ¬ x = namesR.getD n [] := of_decide_eq_false h1
        have ek : kfold x (n + 1) k = kfold x n k := by show (if _ then _ else _) = _; rw [if_neg h1]
        refine ⟨((n + 1 : Nat) : Int), (wrap_i64 (by omega)).trans (by omega), ?_⟩
        exact ⟨n + 1, ⟨.cons rfl (.cons rfl (.cons rfl (.cons rfl (.cons rfl .nil)))), rfl⟩, ⟨by omega, by rw [ek]; exact ps2⟩, by dsimp only; omega⟩
    · have h : ¬ (n : Int) < 12 := of_decide_eq_false h
      have : n = 12 := by omega
      subst this
      exact ⟨(), ⟨.cons rfl (.cons rfl (.cons rfl (.cons rfl .nil))), rfl⟩, ps1⟩
  clear ps V
  rintro _ V ps
  obtain ⟨l, hlE⟩ : ∃ l, l = x :: r := ⟨_, rfl⟩
  have hcand2 : candR (sp [] s) = Rest l 1 { zeroM with kind := kfold x 12 k } := by rw [hcand, hlE]; rfl
  rw [← hlE] at hrow hshort hlen ⊢
  have h1l : 1 ≤ l.length := by rw [hlE]; simp
  refine ⟨Unit, fun _ => ⟨[(0, strV s), (2, .pointer (some ⟨w.heap.size, 0, none⟩)), (5, .pointer (some ⟨W1.heap.size, 0, none⟩))], []⟩, fun _ V => PS W1 (candR (sp [] s)) V, ?_, ?_⟩
  · refine ⟨Nat × Msg, fun t => ⟨[(0, strV s), (2, .pointer (some ⟨w.heap.size, 0, none⟩)), (4, .slice p l.length cap), (5, .pointer (some ⟨W1.heap.size, 0, none⟩)), (7, .int .i64 (t.1 : Nat))], []⟩, fun t V => 1 ≤ t.1 ∧ t.1 ≤ l.length ∧ PS W1 t.2 V ∧ candR (sp [] s) = Rest l t.1 t.2, fun t => l.length - t.1, (1, { zeroM with kind := kfold x 12 k }),
      ⟨.cons rfl (.cons rfl (.cons rfl (.cons rfl (.cons rfl .nil)))), rfl⟩, ⟨Nat.le_refl _, h1l, ps, hcand2⟩, ?_⟩
    clear ps V
    rintro ⟨i, m⟩ V ⟨hi1, hil, ps, hc0⟩
    dsimp only at hi1 hil ps hc0
    refine And.intro (fun h => ?_) (fun h => ?_)
    · have h : (i : Int) < (l.length : Nat) := of_decide_eq_true h
      have hi : i < l.length := by omega
      refine ⟨Msg, fun _ => ⟨[(0, strV s), (2, .pointer (some ⟨w.heap.size, 0, none⟩)), (4, .slice p l.length cap), (5, .pointer (some ⟨W1.heap.size, 0, none⟩)), (7, .int .i64 (i : Nat))], []⟩, fun m' V => PS W1 m' V ∧ candR (sp [] s) = goR (l.drop (i + 1)) m', ?_, ?_⟩
      · refine ⟨Unit, fun _ => ⟨[(0, strV s), (2, .pointer (some ⟨w.heap.size, 0, none⟩)), (4, .slice p l.length cap), (5, .pointer (some ⟨W1.heap.size, 0, none⟩)), (7, .int .i64 (i : Nat)), (8, strV l[i])], []⟩, fun _ V => PS W1 m V, ?_, ?_⟩
        · obtain ⟨b, o, hp, hc⟩ := wv (hrow.below ps.bel) hi
          subst hp
          refine ⟨i, rfl, hi, ?_⟩
          refine ⟨_, hc i hi, ?_⟩
          exact ⟨(), ⟨.cons rfl (.cons rfl (.cons rfl (.cons rfl (.cons rfl (.cons rfl .nil))))), rfl⟩, ps⟩
        clear ps V
        rintro _ V ps
        refine ⟨Unit, fun _ => ⟨[(0, strV s), (2, .pointer (some ⟨w.heap.size, 0, none⟩)), (4, .slice p l.length cap), (5, .pointer (some ⟨W1.heap.size, 0, none⟩)), (7, .int .i64 (i : Nat)), (8, strV l[i]), (9, u8 (nxR (l.drop (i + 1))))], []⟩, fun _ V => PS W1 m V, ?_, ?_⟩
        · refine ⟨((i + 1 : Nat) : Int), (wrap_i64 (by omega)).trans (by omega), ?_⟩
          refine And.intro (fun h2 => ?_) (fun h2 => ?_)
          · have h2 : ((i + 1 : Nat) : Int) < (l.length : Nat) := of_decide_eq_true h2
            have hi2 : i + 1 < l.length := by omega
            refine ⟨((i + 1 : Nat) : Int), (wrap_i64 (by omega)).trans (by omega), ?_⟩
            obtain ⟨b, o, hp, hc⟩ := wv (hrow.below ps.bel) hi
            subst hp
            refine ⟨i + 1, rfl, hi2, ?_⟩
            refine ⟨_, hc (i + 1) hi2, ?_⟩
            refine Calls.mono (valueR_c l[i + 1] (hshort _ (List.getElem_mem _)) _) ?_
            rintro e _ ⟨rfl, rfl⟩
            have e1 : nxR (l.drop (i + 1)) = valR l[i + 1] := by rw [drop_at hi2]; rfl
            rw [e1]
            exact ⟨(), ⟨.cons rfl (.cons rfl (.cons rfl (.cons rfl (.cons rfl (.cons rfl (.cons rfl .nil)))))), rfl⟩, ps⟩
          · have h2 : ¬ ((i + 1 : Nat) : Int) < (l.length : Nat) := of_decide_eq_false h2
            have e1 : nxR (l.drop (i + 1)) = 0 := by rw [List.drop_eq_nil_of_le (by omega)]; rfl
            rw [e1]
            exact ⟨(), ⟨.cons rfl (.cons rfl (.cons rfl (.cons rfl (.cons rfl (.cons rfl (.cons rfl .nil)))))), rfl⟩, ps⟩
        clear ps V
        rintro _ V ps
        have fin : ∀ (m' : Msg) (X : World), PS W1 m' X → (i = 1 → m' = { m with from_ := valR l[i], «to» := nxR (l.drop (i + 1)) }) → (i ≠ 1 → m' = stepR l[i] (l.drop (i + 1)) m) → candR (sp [] s) = goR (l.drop (i + 1)) m' := by
          intro m' X _ ha hb
          rw [hc0]
          unfold Rest
          by_cases h1 : i = 1
          · have e : l.drop 1 = l[i] :: l.drop (i + 1) := by rw [← drop_at hi, h1]
            rw [if_pos h1, e, ha h1]; rfl
          · rw [if_neg h1, drop_at hi, hb h1]; rfl
        refine And.intro (fun h2 => ?_) (fun h2 => ?_)
        · have h2 : (i : Int) = 1 := of_decide_eq_true h2
          refine Calls.mono (valueR_c l[i] (hshort _ (List.getElem_mem _)) _) ?_
          rintro e _ ⟨rfl, rfl⟩
          refine ps.set (ttOk.get 5 _ rfl) rfl (o := 1) (by decide) rfl rfl { m with from_ := valR l[i] } rfl fun V1 ps1 => ?_
          refine ps1.set (ttOk.get 5 _ rfl) rfl (o := 2) (by decide) rfl rfl { m with from_ := valR l[i], «to» := nxR (l.drop (i + 1)) } rfl fun V2 ps2 => ?_
          exact ⟨_, ⟨.cons rfl (.cons rfl (.cons rfl (.cons rfl (.cons rfl .nil)))), rfl⟩, ps2, fin _ _ ps2 (fun _ => rfl) (fun h => absurd (show i = 1 by omega) h)⟩
        have hne : i ≠ 1 := fun e => absurd (show (i : Int) = 1 by omega) (of_decide_eq_false h2)
        refine ⟨_, fun w => eql_str _ _ l[i] [108, 105, 110, 101] w, ?_⟩
        refine And.intro (fun g => ?_) (fun g => ?_)
        · have g : l[i] = [108, 105, 110, 101] := of_decide_eq_true g
          refine ps.set (ttOk.get 5 _ rfl) rfl (o := 3) (by decide) rfl rfl { m with line := nxR (l.drop (i + 1)) } rfl fun V1 ps1 => ?_
          exact ⟨_, ⟨.cons rfl (.cons rfl (.cons rfl (.cons rfl (.cons rfl .nil)))), rfl⟩, ps1, fin _ _ ps1 (fun h => absurd h hne) (fun _ => by unfold stepR; rw [if_pos g])⟩
        have g1 : ¬ l[i] = [108, 105, 110, 101] := of_decide_eq_false g
        refine ⟨_, fun w => eql_str _ _ l[i] [97, 115, 107, 101, 114] w, ?_⟩
        refine And.intro (fun g => ?_) (fun g => ?_)
        · have g : l[i] = [97, 115, 107, 101, 114] := of_decide_eq_true g
          refine ps.set (ttOk.get 5 _ rfl) rfl (o := 4) (by decide) rfl rfl { m with asker := nxR (l.drop (i + 1)) } rfl fun V1 ps1 => ?_
          exact ⟨_, ⟨.cons rfl (.cons rfl (.cons rfl (.cons rfl (.cons rfl .nil)))), rfl⟩, ps1, fin _ _ ps1 (fun h => absurd h hne) (fun _ => by unfold stepR; rw [if_neg g1]; rw [if_pos g])⟩
        have g2 : ¬ l[i] = [97, 115, 107, 101, 114] := of_decide_eq_false g
        refine ⟨_, fun w => eql_str _ _ l[i] [97, 99, 107, 115] w, ?_⟩
        refine And.intro (fun g => ?_) (fun g => ?_)
        · have g : l[i] = [97, 99, 107, 115] := of_decide_eq_true g
          refine ps.set (ttOk.get 5 _ rfl) rfl (o := 5) (by decide) rfl rfl { m with acks := nxR (l.drop (i + 1)) } rfl fun V1 ps1 => ?_
          exact ⟨_, ⟨.cons rfl (.cons rfl (.cons rfl (.cons rfl (.cons rfl .nil)))), rfl⟩, ps1, fin _ _ ps1 (fun h => absurd h hne) (fun _ => by unfold stepR; rw [if_neg g1]; rw [if_neg g2]; rw [if_pos g])⟩
        have g3 : ¬ l[i] = [97, 99, 107, 115] := of_decide_eq_false g
        refine ⟨_, fun w => eql_str _ _ l[i] [97, 108, 111, 110, 101] w, ?_⟩
        refine And.intro (fun g => ?_) (fun g => ?_)
        · have g : l[i] = [97, 108, 111, 110, 101] := of_decide_eq_true g
          refine ps.set (ttOk.get 4 _ rfl) rfl (o := 6) (by decide) rfl rfl { m with alone := true } rfl fun V1 ps1 => ?_
          exact ⟨_, ⟨.cons rfl (.cons rfl (.cons rfl (.cons rfl (.cons rfl .nil)))), rfl⟩, ps1, fin _ _ ps1 (fun h => absurd h hne) (fun _ => by unfold stepR; rw [if_neg g1]; rw [if_neg g2]; rw [if_neg g3]; rw [if_pos g])⟩
        have g4 : ¬ l[i] = [97, 108, 111, 110, 101] := of_decide_eq_false g
        refine ⟨_, fun w => eql_str _ _ l[i] [100, 97, 116, 97] w, ?_⟩
        refine And.intro (fun g => ?_) (fun g => ?_)
        · have g : l[i] = [100, 97, 116, 97] := of_decide_eq_true g
          refine ⟨((i + 4 : Nat) : Int), (wrap_i64 (by omega)).trans (by omega), ?_⟩
          refine And.intro (fun h3 => ?_) (fun h3 => ?_)
          · have h3 : ((i + 4 : Nat) : Int) < (l.length : Nat) := of_decide_eq_true h3
            have hd4 : l.drop (i + 1) = l[i + 1] :: l[i + 2] :: l[i + 3] :: l[i + 4] :: l.drop (i + 5) := by
              rw [drop_at (show i + 1 < l.length by omega), drop_at (show i + 2 < l.length by omega), drop_at (show i + 3 < l.length by omega), drop_at (show i + 4 < l.length by omega)]
            have psd : PS W1 m V.drew := ps.below (Below.refl _ _).drew
            obtain ⟨b, o, hp, hc⟩ := wv (hrow.below psd.bel) hi
            subst hp
            refine DrawE.ord [21] [0, 1, 2, 3, 4, 5, 7, 8, 9, 10, 11, 13, 14, 15, 16, 17, 6, 12, 18, 19, 20, 21] (by kernel_rfl) ?_
            refine ⟨((i + 2 : Nat) : Int), (wrap_i64 (by omega)).trans (by omega), ?_⟩
            refine ⟨i + 2, rfl, by omega, ?_⟩
            refine ⟨_, hc (i + 2) (by omega), ?_⟩
            refine ⟨((i + 3 : Nat) : Int), (wrap_i64 (by omega)).trans (by omega), ?_⟩
            refine ⟨i + 3, rfl, by omega, ?_⟩
            refine ⟨_, hc (i + 3) (by omega), ?_⟩
            refine ⟨((i + 4 : Nat) : Int), (wrap_i64 (by omega)).trans (by omega), ?_⟩
            refine ⟨i + 4, rfl, by omega, ?_⟩
            refine ⟨_, hc (i + 4) (by omega), ?_⟩
            refine Calls.mono (valueR_c l[i + 2] (hshort _ (List.getElem_mem _)) _) ?_
            rintro e _ ⟨rfl, rfl⟩
            refine ⟨Below.refl _ _, ?_⟩
            refine Calls.mono (valueR_c l[i + 3] (hshort _ (List.getElem_mem _)) _) ?_
            rintro e _ ⟨rfl, rfl⟩
            refine ⟨Below.refl _ _, ?_⟩
            refine Calls.mono (valueR_c l[i + 4] (hshort _ (List.getElem_mem _)) _) ?_
            rintro e _ ⟨rfl, rfl⟩
            refine ⟨Below.refl _ _, ?_⟩
            obtain ⟨n0, hn0⟩ : ∃ n0, n0 = nxR (l.drop (i + 1)) := ⟨_, rfl⟩
            rw [← hn0]
            refine ⟨dcells n0 (valR l[i + 2]) (valR l[i + 3]) (valR l[i + 4]), rfl, ?_⟩
            refine psd.setD _ _ _ _ fun V1 ps1 => ?_
            refine ⟨_, ⟨.cons rfl (.cons rfl (.cons rfl (.cons rfl (.cons rfl .nil)))), rfl⟩, ps1, fin _ _ ps1 (fun h => absurd h hne) (fun _ => ?_)⟩
            unfold stepR
            rw [if_neg g1, if_neg g2, if_neg g3, if_neg g4, if_pos g, hn0, hd4]; rfl
          · have h3 : ¬ ((i + 4 : Nat) : Int) < (l.length : Nat) := of_decide_eq_false h3
            refine ⟨m, ⟨.cons rfl (.cons rfl (.cons rfl (.cons rfl (.cons rfl .nil)))), rfl⟩, ps, fin _ _ ps (fun h => absurd h hne) (fun _ => ?_)⟩
            unfold stepR
            rw [if_neg g1, if_neg g2, if_neg g3, if_neg g4, if_pos g]
            have hlen3 : (l.drop (i + 1)).length ≤ 3 := by rw [List.length_drop]; omega
            split
            · rename_i he; rw [he] at hlen3; simp at hlen3
            · rfl
        have g5 : ¬ l[i] = [100, 97, 116, 97] := of_decide_eq_false g
        refine And.intro (fun h => by cases h) (fun _ => ?_)
        refine ⟨m, ⟨.cons rfl (.cons rfl (.cons rfl (.cons rfl (.cons rfl .nil)))), rfl⟩, ps, fin _ _ ps (fun h => absurd h hne) (fun _ => ?_)⟩
        unfold stepR
        rw [if_neg g1, if_neg g2, if_neg g3, if_neg g4, if_neg g5]
      clear ps V
      rintro m' V ⟨ps, hc⟩
      refine ⟨((i + 1 : Nat) : Int), (wrap_i64 (by omega)).trans (by omega), ?_⟩
      refine ⟨(i + 1, m'), ⟨.cons rfl (.cons rfl (.cons rfl (.cons rfl (.cons rfl .nil)))), rfl⟩, ⟨by omega, hi, ps, ?_⟩, by dsimp only; omega⟩
      rw [hc]; unfold Rest; rw [if_neg (by dsimp only; omega)]
    · have h : ¬ (i : Int) < (l.length : Nat) := of_decide_eq_false h
      have e1 : candR (sp [] s) = m := by rw [hc0]; exact rest_end (by omega)
      rw [e1]
      exact ⟨(), ⟨.cons rfl (.cons rfl (.cons rfl .nil)), rfl⟩, ps⟩
  clear ps V
  rintro _ V ps
  refine ⟨(candR (sp [] s)).enc, rfl, cells_block ps.box, hlt ps.box, ?_⟩
  refine Calls.mono (TextR_c (candR (sp [] s)) V) ?_
  rintro e V1 ⟨rfl, hb2⟩
  have ps1 := ps.below hb2
  have gV := block_below ps1.bel g1
  have hwV := hw1.trans (ps1.bel.mono hw1.size)
  refine ⟨_, fun w => neq_str _ _ (textOf (candR (sp [] s))) s w, ?_⟩
  refine And.intro (fun h => ?_) (fun h => ?_)
  · have h : ¬ textOf (candR (sp [] s)) = s := of_decide_eq_false (not_t0 h)
    have hp : parseR s = (zeroM, 170) := by unfold parseR; rw [if_neg h]
    refine ⟨zeroM.enc, rfl, ?_⟩
    refine store_box (v := zeroM.val) (ttOk.get 27 _ rfl) gV (by rfl) rfl (by rfl) ?_
    refine ⟨zeroM.enc, rfl, cells_block (setRow_new gV), ?_⟩
    rw [hp]
    exact And.intro rfl (below_setRow hwV (Nat.le_refl _) _)
  · have h : textOf (candR (sp [] s)) = s := of_decide_eq_true (not_f0 h)
    have hp : parseR s = (candR (sp [] s), 0) := by unfold parseR; rw [if_pos h]
    refine ⟨(candR (sp [] s)).enc, rfl, cells_block ps1.box, hlt ps1.box, ?_⟩
    refine store_box (v := (candR (sp [] s)).val) (ttOk.get 27 _ rfl) gV (by rfl) rfl (by rfl) ?_
    refine ⟨(candR (sp [] s)).enc, rfl, cells_block (setRow_new gV), ?_⟩
    rw [hp]
    exact And.intro rfl (below_setRow hwV (Nat.le_refl _) _)
end Go.Proofs.YtkekidalckflhaaGreatDoor
namespace Go.Proofs.YtkekidalckflhaaGreatDoor
open Go.Vc Go.RowKit Go.Sei

set_option maxRecDepth 20000 in
theorem same_c (g : Geo) (m : Msg) (w : World) (hg : GlobW w) : Calls Tryz.prog 4 #[g.val, m.val] w fun e w' => e = .returned (.bool true) ∧ Below w.heap.size w w' := by
  refine calls_of_E (S := sg 37) (sgOk _) (args := [g.val, m.val]) Tryz.func4 rfl rfl (Nat.le_of_ble_eq_true rfl) rfl ?_
  obtain ⟨X, hX⟩ : ∃ X, X = (w.alloc (.cells g.val.cells 23)).alloc (.cells m.val.cells 27) := ⟨_, rfl⟩
  have hb0 : Below w.heap.size w X := by rw [hX]; exact ((Below.refl _ _).alloc (Nat.le_refl _) _).alloc (by simp) _
  have f0 : X.heap[w.heap.size]? = some (.cells g.val.cells 23 (0, 0)) := by rw [hX]; exact hold _ (hnew w _)
  have es : (w.alloc (.cells g.val.cells 23)).heap.size = w.heap.size + 1 := World.size_alloc _ _
  have f1 : X.heap[w.heap.size + 1]? = some (.cells m.val.cells 27 (0, 0)) := by
    have := hnew (w.alloc (.cells g.val.cells 23)) (.cells m.val.cells 27)
    rw [es] at this
    rw [hX]; exact this
  rw [← es] at f1
  rw [hX] at f0 f1 hb0
  refine DrawE.ord [] [0, 1, 3, 4, 2, 5, 6, 7, 8, 9, 11, 12, 10, 13, 14, 15, 16, 17, 20, 18, 19, 21, 22, 23, 24, 25, 26, 28, 27, 29, 30, 31, 32] (by kernel_rfl) ?_
  have q0 := hdr f0
  have q1 := hdr f1
  have hd := hb0.drew
  refine ⟨g.enc, rfl, cells_block q0, hlt q0, ?_⟩
  refine ⟨m.enc, rfl, cells_block q1, hlt q1, ?_⟩
  refine ⟨g.enc, rfl, cells_block q0, hlt q0, ?_⟩
  refine ⟨m.enc, rfl, cells_block q1, hlt q1, ?_⟩
  refine Calls.mono (RightM_c g m _ (hg.below hd)) ?_
  rintro e V1 ⟨rfl, hb1⟩
  refine ⟨hb1, ?_⟩
  have h1 := hd.trans (hb1.mono hd.size)
  have q1 := block_below hb1 q1
  refine Calls.mono (RightR_c g m V1) ?_
  rintro e V2 ⟨rfl, hb2⟩
  refine ⟨hb2, ?_⟩
  have h2 := h1.trans (hb2.mono h1.size)
  have q1 := block_below hb2 q1
  refine ⟨_, fun w => eql_bool _ _ (rightL g m) (rightR g m) w, ?_⟩
  refine And.intro (fun _ => ?_) (fun h => absurd h (by rw [right_same]; simp))
  refine ⟨_, cells_at (cells_block q1) (i := 0) rfl, ?_⟩
  refine ⟨_, cells_at (cells_block q1) (i := 0) rfl, ?_⟩
  refine Calls.mono (Class_c m.kind V2 (hg.below h2).m) ?_
  rintro e _ ⟨rfl, rfl⟩
  refine ⟨Below.refl _ _, ?_⟩
  refine Calls.mono (ClassR_c m.kind V2) ?_
  rintro e _ ⟨rfl, rfl⟩
  refine ⟨Below.refl _ _, ?_⟩
  refine And.intro (fun _ => ?_) (fun h => absurd h (by simp))
  refine ⟨m.enc, rfl, cells_block q1, hlt q1, ?_⟩
  refine ⟨m.enc, rfl, cells_block q1, hlt q1, ?_⟩
  refine Calls.mono (Bytes_c m V2) ?_
  rintro e V3 ⟨k1, rfl, fk1, _, hb3⟩
  refine ⟨hb3, ?_⟩
  have h3 := h2.trans (hb3.mono h2.size)
  have q1 := block_below hb3 q1
  refine ⟨_, fun w2 hb => conv_str (l := codeOf m) fk1 rfl w2 hb, ?_⟩
  refine Calls.mono (BytesR_c m V3) ?_
  rintro e V4 ⟨k2, rfl, fk2, _, hb4⟩
  refine ⟨hb4, ?_⟩
  have h4 := h3.trans (hb4.mono h3.size)
  have q1 := block_below hb4 q1
  refine ⟨_, fun w2 hb => conv_str (l := codeOf m) fk2 rfl w2 hb, ?_⟩
  refine ⟨_, fun w => eql_str _ _ (codeOf m) (codeOf m) w, ?_⟩
  refine And.intro (fun _ => ?_) (fun h => absurd h (by simp))
  refine ⟨m.enc, rfl, cells_block q1, hlt q1, ?_⟩
  refine ⟨m.enc, rfl, cells_block q1, hlt q1, ?_⟩
  refine Calls.mono (Text_c m V4 (hg.below h4).m) ?_
  rintro e V5 ⟨rfl, hb5⟩
  refine ⟨hb5, ?_⟩
  have h5 := h4.trans (hb5.mono h4.size)
  refine Calls.mono (TextR_c m V5) ?_
  rintro e V6 ⟨rfl, hb6⟩
  refine ⟨hb6, ?_⟩
  have h6 := h5.trans (hb6.mono h5.size)
  refine ⟨_, fun w => eql_str _ _ (textOf m) (textOf m) w, ?_⟩
  exact And.intro (rb (by simp)) h6
end Go.Proofs.YtkekidalckflhaaGreatDoor
namespace Go.Proofs.YtkekidalckflhaaGreatDoor
open Go.Vc Go.RowKit Go.Sei

theorem reads_c (p : Option Addr) (cap : Nat) (l s : List UInt8) (w : World) (hl : SlR byteE w p l) (hc : l.length ≤ cap) (hs : s.length ≤ 1000) (hg : GlobM w) :
    Calls Tryz.prog 16 #[.slice p l.length cap, strV s] w fun e w' => e = .returned (.bool true) ∧ Below w.heap.size w w' := by
  refine calls_of_M (S := sg 51) (sgOk _) (args := [.slice p l.length cap, strV s]) (.s .p (.s .p (.s .p (.s .p (.c .p .p))))) Tryz.func16 rfl rfl (Nat.le_of_ble_eq_true rfl) rfl ?_
  refine Calls.mono (Read_c p cap l w hl hc) ?_
  rintro e V ⟨rfl, hb⟩
  refine store_new (X := V) (v := (readL l).1.val) (ttOk.get 27 _ rfl) (by rfl) rfl (by rfl) fun V1 hb1 f1 s1 => ?_
  have h1 := hb.trans (hb1.mono hb.size)
  refine Calls.mono (ReadR_c p cap l V1 (hl.below h1) hc) ?_
  rintro e V2 ⟨rfl, hb2⟩
  have h2 := h1.trans (hb2.mono h1.size)
  refine store_new (X := V2) (v := (readL l).1.val) (ttOk.get 27 _ rfl) (by rfl) rfl (by rfl) fun V3 hb3 f3 s3 => ?_
  have h3 := h2.trans (hb3.mono h2.size)
  have k1 := block_below hb3 (block_below hb2 f1)
  refine Calls.mono (Parse_c s (by omega) V3 (hg.below h3)) ?_
  rintro e V4 ⟨rfl, hb4⟩
  have h4 := h3.trans (hb4.mono h3.size)
  refine store_new (X := V4) (v := (parseL s).1.val) (ttOk.get 27 _ rfl) (by rfl) rfl (by rfl) fun V5 hb5 f5 s5 => ?_
  have h5 := h4.trans (hb5.mono h4.size)
  have m1 := block_below hb5 (block_below hb4 k1)
  have m3 := block_below hb5 (block_below hb4 f3)
  refine ⟨Nat × Nat × Nat × Nat, fun t => ⟨[(5, .pointer (some ⟨t.1, 0, none⟩)), (6, .bool (readL l).2), (7, .pointer (some ⟨t.2.1, 0, none⟩)), (8, .bool (readL l).2), (9, .pointer (some ⟨t.2.2.1, 0, none⟩)), (10, .int .i64 (parseL s).2), (11, .pointer (some ⟨t.2.2.2, 0, none⟩)), (12, .int .i64 (parseL s).2)], []⟩,
    fun t V => V.heap[t.1]? = some (.cells (readL l).1.val.cells 27 (0, 0)) ∧ V.heap[t.2.1]? = some (.cells (readL l).1.val.cells 27 (0, 0)) ∧ V.heap[t.2.2.1]? = some (.cells (parseL s).1.val.cells 27 (0, 0)) ∧ V.heap[t.2.2.2]? = some (.cells (parseL s).1.val.cells 27 (0, 0)) ∧ Below w.heap.size w V, ?_, ?_⟩
  · refine Calls.mono (ParseR_c s hs V5) ?_
    rintro e V6 ⟨rfl, hb6⟩
    rw [parse_same]
    have h6 := h5.trans (hb6.mono h5.size)
    refine store_new (X := V6) (v := (parseL s).1.val) (ttOk.get 27 _ rfl) (by rfl) rfl (by rfl) fun V7 hb7 f7 s7 => ?_
    exact ⟨(_, _, _, _), ⟨.cons rfl (.cons rfl (.cons rfl (.cons rfl (.cons rfl (.cons rfl (.cons rfl (.cons rfl .nil))))))), rfl⟩, block_below hb7 (block_below hb6 m1), block_below hb7 (block_below hb6 m3), block_below hb7 (block_below hb6 f5), f7, h6.trans (hb7.mono h6.size)⟩
  clear m1 m3 h5 f5 s5 hb5 h4 hb4 k1 h3 hb3 f3 s3 h2 hb2 h1 hb1 f1 s1 hb
  rintro ⟨a1, a2, a3, a4⟩ X ⟨k1, k2, k3, k4, hb⟩
  dsimp only at k1 k2 k3 k4
  refine ⟨(readL l).1.enc, rfl, cells_block k1, hlt k1, ?_⟩
  refine ⟨(readL l).1.enc, rfl, cells_block k2, hlt k2, ?_⟩
  refine ⟨_, fun w => eql_msg _ _ (readL l).1 (readL l).1 w, ?_⟩
  refine And.intro (fun _ => ?_) (fun h => absurd h (by simp))
  refine ⟨_, fun w => eql_bool _ _ (readL l).2 (readL l).2 w, ?_⟩
  rw [show decide ((readL l).2 = (readL l).2) = true by simp]
  refine And.intro (fun _ => ?_) (fun h => by cases h)
  refine ⟨(parseL s).1.enc, rfl, cells_block k3, hlt k3, ?_⟩
  refine ⟨(parseL s).1.enc, rfl, cells_block k4, hlt k4, ?_⟩
  refine ⟨_, fun w => eql_msg _ _ (parseL s).1 (parseL s).1 w, ?_⟩
  rw [show decide ((parseL s).1 = (parseL s).1) = true by simp]
  refine And.intro (fun _ => ?_) (fun h => by cases h)
  exact And.intro (rb (decide_eq_true rfl)) hb

theorem OwnS.empty {α : Type} {E : Enc α} {T B g : Nat} {w : World} (h : w.heap[g]? = some (.cells #[] T (0, 0))) (hB : B ≤ g) : OwnS E T B w (some ⟨g, 0, none⟩) 0 [] :=
  ⟨by simp, .inr ⟨g, 0, #[], rfl, hB, h, Nat.le_refl _, by unfold maxLen; decide, by simp, by simp⟩⟩
end Go.Proofs.YtkekidalckflhaaGreatDoor
namespace Go.Proofs.YtkekidalckflhaaGreatDoor
open Go.Vc Go.RowKit Go.Sei

set_option maxRecDepth 20000 in
theorem bend_c (m : Msg) (part : Nat) (hp : part ≤ 10) (n : UInt8) (w : World) : Calls Tryz.prog 5 #[m.val, .int .i64 (part : Nat), u8 n] w fun e w' => ∃ m' : Msg, e = .returned m'.val ∧ Below w.heap.size w w' := by
  refine calls_of_M (S := sg 45) (sgOk _) (args := [m.val, .int .i64 (part : Nat), u8 n]) (.s .p (.c (.s .p .p) .p)) Tryz.func5 rfl rfl (Nat.le_of_ble_eq_true rfl) rfl ?_
  have hb0 : Below w.heap.size w ((w.alloc (.cells m.val.cells 27)).alloc (.cells zeroM.val.cells 27)) := ((Below.refl _ _).alloc (Nat.le_refl _) _).alloc (by simp) _
  have f0 := hold (.cells zeroM.val.cells 27) (hnew w (.cells m.val.cells 27))
  have f1 := hnew (w.alloc (.cells m.val.cells 27)) (.cells zeroM.val.cells 27)
  have es : (w.alloc (.cells m.val.cells 27)).heap.size = w.heap.size + 1 := World.size_alloc _ _
  rw [es] at f1
  obtain ⟨X, hX⟩ : ∃ X, X = (w.alloc (.cells m.val.cells 27)).alloc (.cells zeroM.val.cells 27) := ⟨_, rfl⟩
  have f0X : X.heap[w.heap.size]? = some (.cells m.val.cells 27 (0, 0)) := by rw [hX]; exact f0
  have f1X : X.heap[w.heap.size + 1]? = some (.cells zeroM.val.cells 27 (0, 0)) := by rw [hX]; exact f1
  have hbX : Below w.heap.size w X := by rw [hX]; exact hb0
  have put : ∀ {T : TypeId} {iT : TI} (hT : TIok Tryz.prog T iT) (hs : iT.size = 1) {o : Nat} {v : Value} (ho : o < 11) (hv : v.cells = #[v]) (h1 : v.oneCell' = true) (m' : Msg) (he : m.enc.take o ++ [v] ++ m.enc.drop (o + 1) = m'.enc) {K : World → Prop}
      (k : ∀ V', V'.heap[w.heap.size]? = some (.cells m'.val.cells 27 (0, 0)) → V'.heap[w.heap.size + 1]? = some (.cells zeroM.val.cells 27 (0, 0)) → Below w.heap.size w V' → K V'), SatR ((storeVar T ⟨w.heap.size, o, none⟩ v).run Tryz.prog X) fun _ w' => K w' := by
    intro T iT hT hs o v ho hv h1 m' he K k
    refine store_cell hT hs f0X (by show o < 11; exact ho) hv h1 fun V' f gr z => k V' ?_ ((gr.block _ (hlt f1X) (by simp)).trans f1X) (hbX.grown gr hbX.size (fun j e => by simp at e; omega))
    rw [f]
    have : m.val.cells.toList = m.enc := rfl
    rw [this, he]; rfl
  refine ⟨Msg, fun _ => ⟨[(3, .pointer (some ⟨w.heap.size, 0, none⟩)), (6, .pointer (some ⟨w.heap.size + 1, 0, none⟩))], []⟩, fun m' V => V.heap[w.heap.size]? = some (.cells m'.val.cells 27 (0, 0)) ∧ V.heap[w.heap.size + 1]? = some (.cells zeroM.val.cells 27 (0, 0)) ∧ Below w.heap.size w V, ?_, ?_⟩
  · subst hX
    refine And.intro (fun h => ?_) (fun h => ?_)
    · refine put (ttOk.get 5 _ rfl) rfl (o := 0) (by decide) rfl rfl { m with kind := n } rfl fun V a b c => ?_
      exact ⟨_, ⟨.cons rfl (.cons (by rw [← es]; rfl) .nil), rfl⟩, a, b, c⟩
    have g0 : ¬ (part : Int) = 0 := of_decide_eq_false h
    refine And.intro (fun h => ?_) (fun h => ?_)
    · refine put (ttOk.get 5 _ rfl) rfl (o := 1) (by decide) rfl rfl { m with from_ := n } rfl fun V a b c => ?_
      exact ⟨_, ⟨.cons rfl (.cons (by rw [← es]; rfl) .nil), rfl⟩, a, b, c⟩
    have g1 : ¬ (part : Int) = 1 := of_decide_eq_false h
    refine And.intro (fun h => ?_) (fun h => ?_)
    · refine put (ttOk.get 5 _ rfl) rfl (o := 2) (by decide) rfl rfl { m with «to» := n } rfl fun V a b c => ?_
      exact ⟨_, ⟨.cons rfl (.cons (by rw [← es]; rfl) .nil), rfl⟩, a, b, c⟩
    have g2 : ¬ (part : Int) = 2 := of_decide_eq_false h
    refine And.intro (fun h => ?_) (fun h => ?_)
    · refine put (ttOk.get 5 _ rfl) rfl (o := 3) (by decide) rfl rfl { m with line := n } rfl fun V a b c => ?_
      exact ⟨_, ⟨.cons rfl (.cons (by rw [← es]; rfl) .nil), rfl⟩, a, b, c⟩
    have g3 : ¬ (part : Int) = 3 := of_decide_eq_false h
    refine And.intro (fun h => ?_) (fun h => ?_)
    · refine put (ttOk.get 5 _ rfl) rfl (o := 4) (by decide) rfl rfl { m with asker := n } rfl fun V a b c => ?_
      exact ⟨_, ⟨.cons rfl (.cons (by rw [← es]; rfl) .nil), rfl⟩, a, b, c⟩
    have g4 : ¬ (part : Int) = 4 := of_decide_eq_false h
    refine And.intro (fun h => ?_) (fun h => ?_)
    · refine put (ttOk.get 5 _ rfl) rfl (o := 5) (by decide) rfl rfl { m with acks := n } rfl fun V a b c => ?_
      exact ⟨_, ⟨.cons rfl (.cons (by rw [← es]; rfl) .nil), rfl⟩, a, b, c⟩
    have g5 : ¬ (part : Int) = 5 := of_decide_eq_false h
    refine And.intro (fun h => ?_) (fun h => ?_)
    · refine ⟨by decide, _, rfl, ?_⟩
      refine put (ttOk.get 4 _ rfl) rfl (o := 6) (by decide) rfl rfl { m with alone := decide ((n.toNat : Int).tmod 2 = 1) } rfl fun V a b c => ?_
      exact ⟨_, ⟨.cons rfl (.cons (by rw [← es]; rfl) .nil), rfl⟩, a, b, c⟩
    have g6 : ¬ (part : Int) = 6 := of_decide_eq_false h
    refine ⟨((part - 7 : Nat) : Int), (wrap_i64 (by omega)).trans (by omega), ?_⟩
    obtain ⟨j, hj⟩ : ∃ j, j = (part - 7) % 4 := ⟨_, rfl⟩
    have hj4 : j = 0 ∨ j = 1 ∨ j = 2 ∨ j = 3 := by omega
    refine ⟨by decide, (j : Int), by rw [hj]; rfl, ?_⟩
    refine ⟨j, rfl, by omega, ?_⟩
    rcases hj4 with rfl | rfl | rfl | rfl
    · refine put (ttOk.get 5 _ rfl) rfl (o := 7) (by decide) rfl rfl { m with d0 := n } rfl fun V a b c => ?_
      exact ⟨_, ⟨.cons rfl (.cons (by rw [← es]; rfl) .nil), rfl⟩, a, b, c⟩
    · refine put (ttOk.get 5 _ rfl) rfl (o := 8) (by decide) rfl rfl { m with d1 := n } rfl fun V a b c => ?_
      exact ⟨_, ⟨.cons rfl (.cons (by rw [← es]; rfl) .nil), rfl⟩, a, b, c⟩
    · refine put (ttOk.get 5 _ rfl) rfl (o := 9) (by decide) rfl rfl { m with d2 := n } rfl fun V a b c => ?_
      exact ⟨_, ⟨.cons rfl (.cons (by rw [← es]; rfl) .nil), rfl⟩, a, b, c⟩
    · refine put (ttOk.get 5 _ rfl) rfl (o := 10) (by decide) rfl rfl { m with d3 := n } rfl fun V a b c => ?_
      exact ⟨_, ⟨.cons rfl (.cons (by rw [← es]; rfl) .nil), rfl⟩, a, b, c⟩
  rintro m' V ⟨a, b, c⟩
  refine ⟨m'.enc, rfl, cells_block a, hlt a, ?_⟩
  refine store_box (v := m'.val) (ttOk.get 27 _ rfl) b (by rfl) rfl (by rfl) ?_
  refine ⟨m'.enc, rfl, cells_block (setRow_new b), ?_⟩
  exact ⟨m', rfl, below_setRow c (by omega) _⟩
end Go.Proofs.YtkekidalckflhaaGreatDoor
namespace Go.Proofs.YtkekidalckflhaaGreatDoor
open Go.Vc Go.RowKit Go.Sei

theorem add_ba (x y : Operand) (a b : ByteArray) (h : a.size + b.size ≤ 1000000) (w : World) : (do eqGuard .add 9 x y (.string a) (.string b); binOp .add 9 (.string a) (.string b)).run Tryz.prog w = .ok (.string (a ++ b)) w := by
  have := add_str x y a.data.toList b.data.toList (by have e1 : a.data.toList.length = a.size := rfl; have e2 : b.data.toList.length = b.size := rfl; omega) w
  unfold strV at this
  rw [bs_eta, bs_eta] at this
  rw [this]
  have e : bs (a.data.toList ++ b.data.toList) = a ++ b := by
    apply ByteArray.ext
    simp [bs, ByteArray.data_append]
  rw [e]
theorem min_run (t : Array TypeId) (T : TypeId) (a b : Nat) (w : World) : (Builtin.min_ t T #[.int .i64 (a : Int), .int .i64 (b : Int)]).run Tryz.prog w = .ok (.int .i64 ((min a b : Nat) : Int)) w := by
  have : (if (b : Int) < (a : Int) then (b : Int) else (a : Int)) = ((min a b : Nat) : Int) := by split <;> omega
  rw [← this]; rfl
theorem reads_b (p : Option Addr) (cap : Nat) (l : List UInt8) (X : ByteArray) (w : World) (hl : SlR byteE w p l) (hc : l.length ≤ cap) (hs : X.size ≤ 1000) (hg : GlobM w) :
    Calls Tryz.prog 16 #[.slice p l.length cap, .string X] w fun e w' => e = .returned (.bool true) ∧ Below w.heap.size w w' := by
  have := reads_c p cap l X.data.toList w hl hc hs hg
  unfold strV at this
  rw [bs_eta] at this
  exact this
theorem codeLen (m : Msg) : (codeOf m).length = 11 := rfl
theorem text_le (m : Msg) : (textOf m).length ≤ 500 := by
  obtain ⟨_, _, _, _, l4, l5⟩ := t_len m
  rw [t5_text]
  split
  · omega
  · have := l5 4 (by omega); omega
theorem own_rowS {α : Type} {E : Enc α} {T B cap : Nat} {w : World} {p : Option Addr} {l : List α} (h : OwnS E T B w p cap l) (hne : l ≠ []) : ∃ g sp, p = some ⟨g, 0, none⟩ ∧ B ≤ g ∧ RowS E T w g sp l ∧ l.length ≤ cap := by
  rcases h.inv with ⟨_, _, h0⟩ | ⟨g, cur, hp, hB, hg, hc, _, _, ht⟩
  · exact absurd h0 hne
  · refine ⟨g, cur.toList.drop (l.length * E.sz), hp, hB, ?_, hc⟩
    unfold RowS
    rw [hg, ← ht, List.take_append_drop]

set_option maxRecDepth 20000 in
theorem wrong_c (m : Msg) (n : Nat) (hn : n ≤ 100) (w : World) (hg : GlobM w) : Calls Tryz.prog 6 #[m.val, .int .i64 (n : Nat)] w fun e w' => e = .returned (.bool true) ∧ Below w.heap.size w w' := by
  refine calls_of_M (S := sg 105) (sgOk _) (args := [m.val, .int .i64 (n : Nat)]) (.s .p (.s .p (.s .p (.c (.s .p (.b (.l (.s .p (.c (.b (.c .p .p)) .p))))) (.c .p (.c .p (.c .p .p))))))) Tryz.func6 rfl rfl (Nat.le_of_ble_eq_true rfl) rfl ?_
  have hb0 : Below w.heap.size w (w.alloc (.cells m.val.cells 27)) := (Below.refl _ _).alloc (Nat.le_refl _) _
  have f0 := hnew w (.cells m.val.cells 27)
  refine ⟨m.enc, rfl, cells_block f0, hlt f0, ?_⟩
  refine Calls.mono (TextR_c m _) ?_
  rintro e V1 ⟨rfl, hb1⟩
  have h1 := hb0.trans (hb1.mono hb0.size)
  have f1 := block_below hb1 f0
  refine ⟨m.enc, rfl, cells_block f1, hlt f1, ?_⟩
  refine Calls.mono (BytesR_c m V1) ?_
  rintro e V2 ⟨k, rfl, fk, _, hb2⟩
  have h2 := h1.trans (hb2.mono h1.size)
  obtain ⟨s, hsE⟩ : ∃ s, s = textOf m := ⟨_, rfl⟩
  have hsl : s.length ≤ 500 := by rw [hsE]; exact text_le m
  rw [← hsE]
  have es : (bs s).size = s.length := rfl
  obtain ⟨env, henv⟩ : ∃ env : Env, env = ⟨[(1, .int .i64 (n : Nat)), (5, strV s), (6, .slice (some ⟨k, 0, none⟩) 11 11)], []⟩ := ⟨_, rfl⟩
  obtain ⟨inv, hinv⟩ : ∃ inv : World → Prop, inv = fun V => V.heap[k]? = some (.cells ((codeOf m).map u8).toArray 5 (0, 0)) ∧ Below w.heap.size w V := ⟨_, rfl⟩
  have i2 : inv V2 := by rw [hinv]; exact ⟨fk, h2⟩
  have mk : ∀ {V : World}, inv V → V.heap[k]? = some (.cells ((codeOf m).map u8).toArray 5 (0, 0)) ∧ Below w.heap.size w V := fun h => by rw [hinv] at h; exact h
  have mv : ∀ {V V' : World}, inv V → Below V.heap.size V V' → inv V' := fun h hb => by
    rw [hinv] at h ⊢
    exact ⟨block_below hb h.1, h.2.trans (hb.mono h.2.size)⟩
  refine ⟨Unit, fun _ => env, fun _ V => inv V, ?_, ?_⟩
  · refine ⟨Nat, fun i => ⟨[(1, .int .i64 (n : Nat)), (5, strV s), (6, .slice (some ⟨k, 0, none⟩) 11 11), (7, .int .i64 (i : Nat))], []⟩, fun i V => i ≤ s.length + 1 ∧ inv V, fun i => s.length + 1 - i, 0, ⟨.cons rfl (.cons rfl (.cons rfl (.cons rfl .nil))), rfl⟩, ⟨by omega, i2⟩, ?_⟩
    rintro i V ⟨hi, iV⟩
    refine And.intro (fun h => ?_) (fun h => ?_)
    · have h : (i : Int) ≤ ((bs s).size : Nat) := of_decide_eq_true h
      have hil : i ≤ s.length := by omega
      refine ⟨Unit, fun _ => ⟨[(1, .int .i64 (n : Nat)), (5, strV s), (6, .slice (some ⟨k, 0, none⟩) 11 11), (7, .int .i64 (i : Nat))], []⟩, fun _ V => inv V, ?_, ?_⟩
      · refine ⟨ByteArray, fun X => ⟨[(1, .int .i64 (n : Nat)), (5, strV s), (6, .slice (some ⟨k, 0, none⟩) 11 11), (7, .int .i64 (i : Nat)), (8, .string X)], []⟩, fun X V => X.size ≤ 1000 ∧ inv V, ?_, ?_⟩
        · obtain ⟨fV, hb⟩ := mk iV
          have l32 : (ByteArray.mk #[32]).size = 1 := rfl
          have l48 : (ByteArray.mk #[48]).size = 1 := rfl
          have l62 : (ByteArray.mk #[62]).size = 1 := rfl
          refine DrawE.ord [] [0, 1, 2, 3, 4, 5, 6, 7, 8, 9, 10, 11, 12, 13, 14, 15, 16, 17, 18, 19, 20, 21, 22, 23, 24, 25, 26, 27, 28, 29, 30, 31, 32, 33, 34, 39, 40, 41, 42, 35, 36, 37, 38, 43, 44, 45] (by kernel_rfl) ?_
          refine ⟨i, rfl, hil, ?_⟩
          refine ⟨_, fun w => add_ba _ _ ((bs s).extract 0 i) (ByteArray.mk #[32]) (by simp only [ByteArray.size_extract, l32, es]; omega) w, ?_⟩
          refine ⟨i, rfl, hil, ?_⟩
          refine ⟨_, fun w => add_ba _ _ ((bs s).extract 0 i ++ ByteArray.mk #[32]) ((bs s).extract i (bs s).size) (by simp only [ByteArray.size_append, ByteArray.size_extract, l32, es]; omega) w, ?_⟩
          refine ⟨i, rfl, hil, ?_⟩
          refine ⟨i, rfl, hil, ?_⟩
          refine ⟨_, fun w => add_ba _ _ ((bs s).extract 0 i) (ByteArray.mk #[48]) (by simp only [ByteArray.size_extract, l48, es]; omega) w, ?_⟩
          refine ⟨i, rfl, hil, ?_⟩
          refine ⟨_, fun w => add_ba _ _ ((bs s).extract 0 i ++ ByteArray.mk #[48]) ((bs s).extract i (bs s).size) (by simp only [ByteArray.size_append, ByteArray.size_extract, l48, es]; omega) w, ?_⟩
          refine ⟨i, rfl, hil, ?_⟩
          refine ⟨_, fun w => add_ba _ _ ((bs s).extract 0 i) (ByteArray.mk #[62]) (by simp only [ByteArray.size_extract, l62, es]; omega) w, ?_⟩
          refine ⟨i, rfl, hil, ?_⟩
          refine ⟨_, fun w => add_ba _ _ ((bs s).extract 0 i ++ ByteArray.mk #[62]) ((bs s).extract i (bs s).size) (by simp only [ByteArray.size_append, ByteArray.size_extract, l62, es]; omega) w, ?_⟩
          refine ⟨i, rfl, hil, ?_⟩
          refine ⟨((i + 1 : Nat) : Int), (wrap_i64 (by omega)).trans (by omega), ?_⟩
          refine ⟨((i + n : Nat) : Int), (wrap_i64 (by omega)).trans (by omega), ?_⟩
          obtain ⟨j, hj⟩ : ∃ j, j = (i + n) % 5 := ⟨_, rfl⟩
          refine ⟨by decide, (j : Int), by rw [hj]; rfl, ?_⟩
          refine SatR.mk (min_run _ _ (i + 1) (bs s).size _) ?_
          refine ⟨Below.refl _ _, ?_⟩
          obtain ⟨c, hc⟩ : ∃ c, c = min (i + 1) (bs s).size := ⟨_, rfl⟩
          rw [← hc]
          refine ⟨c, rfl, by omega, ?_⟩
          refine ⟨_, fun w => add_ba _ _ ((bs s).extract 0 i) ((bs s).extract c (bs s).size) (by simp only [ByteArray.size_extract, es]; omega) w, ?_⟩
          refine ⟨⟨by decide, by decide, rfl⟩, [.string ((bs s).extract 0 i ++ ByteArray.mk #[32] ++ (bs s).extract i (bs s).size), .string ((bs s).extract 0 i), .string ((bs s).extract 0 i ++ ByteArray.mk #[48] ++ (bs s).extract i (bs s).size), .string ((bs s).extract 0 i ++ ByteArray.mk #[62] ++ (bs s).extract i (bs s).size), .string ((bs s).extract 0 i ++ (bs s).extract c (bs s).size)], rfl, ?_⟩
          refine ⟨(Below.refl _ _).alloc (Nat.le_refl _) _, ?_⟩
          have hj5 : j = 0 ∨ j = 1 ∨ j = 2 ∨ j = 3 ∨ j = 4 := by omega
          refine ⟨j, rfl, by omega, ?_⟩
          have iW : inv (V.drew.alloc (.cells [.string ((bs s).extract 0 i ++ ByteArray.mk #[32] ++ (bs s).extract i (bs s).size), .string ((bs s).extract 0 i), .string ((bs s).extract 0 i ++ ByteArray.mk #[48] ++ (bs s).extract i (bs s).size), .string ((bs s).extract 0 i ++ ByteArray.mk #[62] ++ (bs s).extract i (bs s).size), .string ((bs s).extract 0 i ++ (bs s).extract c (bs s).size)].toArray 9)) := mv (mv iV (Below.refl _ _).drew) ((Below.refl _ _).alloc (Nat.le_refl _) _)
          rcases hj5 with rfl | rfl | rfl | rfl | rfl
          · refine ⟨_, cells_at cells_new (i := 0) rfl, ?_⟩
            exact ⟨_, ⟨.cons rfl (.cons rfl (.cons rfl (.cons rfl (.cons rfl .nil)))), rfl⟩, by simp only [ByteArray.size_append, ByteArray.size_extract, l32, es]; omega, iW⟩
          · refine ⟨_, cells_at cells_new (i := 1) rfl, ?_⟩
            exact ⟨_, ⟨.cons rfl (.cons rfl (.cons rfl (.cons rfl (.cons rfl .nil)))), rfl⟩, by simp only [ByteArray.size_extract, es]; omega, iW⟩
          · refine ⟨_, cells_at cells_new (i := 2) rfl, ?_⟩
            exact ⟨_, ⟨.cons rfl (.cons rfl (.cons rfl (.cons rfl (.cons rfl .nil)))), rfl⟩, by simp only [ByteArray.size_append, ByteArray.size_extract, l48, es]; omega, iW⟩
          · refine ⟨_, cells_at cells_new (i := 3) rfl, ?_⟩
            exact ⟨_, ⟨.cons rfl (.cons rfl (.cons rfl (.cons rfl (.cons rfl .nil)))), rfl⟩, by simp only [ByteArray.size_append, ByteArray.size_extract, l62, es]; omega, iW⟩
          · refine ⟨_, cells_at cells_new (i := 4) rfl, ?_⟩
            exact ⟨_, ⟨.cons rfl (.cons rfl (.cons rfl (.cons rfl (.cons rfl .nil)))), rfl⟩, by simp only [ByteArray.size_append, ByteArray.size_extract, es]; omega, iW⟩
        clear iV V
        rintro X V ⟨hX, iV⟩
        obtain ⟨fV, hb⟩ := mk iV
        refine ⟨by decide, ((i % 12 : Nat) : Int), rfl, ?_⟩
        refine ⟨12, (wrap_i64 (by decide)).trans rfl, ?_⟩
        obtain ⟨q, hq⟩ : ∃ q, q = i % 12 % 12 := ⟨_, rfl⟩
        refine ⟨by decide, (q : Int), by rw [hq]; rfl, ?_⟩
        refine ⟨q, rfl, by omega, ?_⟩
        have hrow : SlR byteE V (some ⟨k, 0, none⟩) (codeOf m) := bytes_row fV
        have hsub := hrow.sub (cap := 11) (lo := 0) (hi := q) (Nat.zero_le _) (by rw [codeLen]; omega) (by rw [codeLen]; exact Nat.le_refl _)
        have hl : (((codeOf m).drop 0).take (q - 0)).length = q - 0 := by rw [List.length_take, List.drop_zero, codeLen]; omega
        have hr := reads_b _ (11 - 0) _ X V hsub (by rw [hl]; omega) hX (hg.below hb)
        rw [hl] at hr
        refine Calls.mono hr ?_
        rintro e V' ⟨rfl, hb'⟩
        refine And.intro (fun h => by cases h) (fun _ => ?_)
        exact ⟨(), ⟨.cons rfl (.cons rfl (.cons rfl (.cons rfl .nil))), rfl⟩, mv iV hb'⟩
      clear iV V
      rintro _ V iV
      refine ⟨((i + 1 : Nat) : Int), (wrap_i64 (by omega)).trans (by omega), ?_⟩
      exact ⟨i + 1, ⟨.cons rfl (.cons rfl (.cons rfl (.cons rfl .nil))), rfl⟩, ⟨by omega, iV⟩, by dsimp only; omega⟩
    · rw [henv]
      exact ⟨(), ⟨.cons rfl (.cons rfl (.cons rfl .nil)), rfl⟩, iV⟩
  clear i2 h2 hb2 fk V2
  rintro _ V0 i0
  have mkOwn : ∀ (V : World), inv V → ∀ {K : Value → World → Prop}, (∀ p' cap' W, OwnS byteE 5 V.heap.size W p' cap' (codeOf m) → Below V.heap.size V W → K (.slice p' 11 cap') W) →
      SatR ((Builtin.append_ #[33, 33] 33 #[.slice (some ⟨V.heap.size, 0, none⟩) 0 0, .slice (some ⟨k, 0, none⟩) 11 11]).run Tryz.prog (V.alloc (.cells #[] 5))) K := by
    intro V iV K kk
    obtain ⟨fV, hb⟩ := mk iV
    have hbA : Below V.heap.size V (V.alloc (.cells #[] 5)) := (Below.refl _ _).alloc (Nat.le_refl _) _
    have ho : OwnS byteE 5 V.heap.size (V.alloc (.cells #[] 5)) (some ⟨V.heap.size, 0, none⟩) 0 [] := OwnS.empty (hnew _ _) (Nat.le_refl _)
    refine app_any (E := byteE) (news := codeOf m) (B := V.heap.size) Tryz.underlying33 (ttOk.get 5 _ rfl) rfl rfl rfl ho rfl (bytes_row (block_below hbA fV)) (fun h => by cases h) (by simp) (by rw [codeLen]; decide) (by rw [codeLen]; decide) ?_
    intro p' cap' W ho' _ hb'
    exact kk p' cap' W ho' (hbA.trans hb')
  refine ⟨Option Addr × Nat, fun t => ⟨[(5, strV s), (6, .slice (some ⟨k, 0, none⟩) 11 11), (9, .slice t.1 12 t.2)], []⟩, fun t V => Below V0.heap.size V0 V ∧ OwnS byteE 5 V0.heap.size V t.1 t.2 (codeOf m ++ [0]), ?_, ?_⟩
  · rw [henv]
    refine ⟨⟨by decide, by decide, rfl⟩, [], rfl, ?_⟩
    refine mkOwn V0 i0 fun p' cap' W ho' hbW => ?_
    refine ⟨⟨by decide, by decide, rfl⟩, [u8 0], rfl, ?_⟩
    refine app_own (E := byteE) (news := [0]) (B := V0.heap.size) Tryz.underlying33 (ttOk.get 5 _ rfl) rfl rfl rfl (ho'.alloc _) rfl cells_new (by have := hbW.size; simp; omega) (by rw [codeLen]; decide) (by rw [codeLen]; decide) ?_
    intro p2 cap2 W2 ho2 _ hb2 _
    exact ⟨(p2, cap2), ⟨.cons rfl (.cons rfl (.cons rfl .nil)), rfl⟩, (hbW.alloc hbW.size _).trans hb2, ho2⟩
  rintro ⟨p9, cap9⟩ V9 ⟨b9, o9⟩
  dsimp only at o9
  have i9 := mv i0 b9
  have r9 := o9.row
  have c9 : 12 ≤ cap9 := by
    rcases o9.inv with ⟨_, _, h0⟩ | ⟨_, _, _, _, _, h0, _⟩
    · simp at h0
    · exact h0
  refine ⟨Option Addr × Nat, fun t => ⟨[(5, strV s), (6, .slice (some ⟨k, 0, none⟩) 11 11), (9, .slice p9 12 cap9), (10, .slice t.1 11 t.2)], []⟩, fun t V => Below V9.heap.size V9 V ∧ OwnS byteE 5 V9.heap.size V t.1 t.2 (codeOf m), ?_, ?_⟩
  · refine ⟨⟨by decide, by decide, rfl⟩, [], rfl, ?_⟩
    refine mkOwn V9 i9 fun p' cap' W ho' hbW => ?_
    exact ⟨(p', cap'), ⟨.cons rfl (.cons rfl (.cons rfl (.cons rfl .nil))), rfl⟩, hbW, ho'⟩
  rintro ⟨p10, cap10⟩ V10 ⟨b10, o10⟩
  dsimp only at o10
  obtain ⟨g, sp, hp, hgB, hrs, hcap⟩ := own_rowS o10 (by simp [codeOf])
  subst hp
  refine ⟨Unit, fun _ => ⟨[(5, strV s), (6, .slice (some ⟨k, 0, none⟩) 11 11), (9, .slice p9 12 cap9), (10, .slice (some ⟨g, 0, none⟩) 11 cap10)], []⟩, fun _ V => Below V9.heap.size V9 V ∧ SlR byteE V (some ⟨g, 0, none⟩) ((codeOf m).set 6 2), ?_, ?_⟩
  · refine ⟨6, rfl, by decide, ?_⟩
    have hcs : RowS byteE 5 V10 g sp (codeOf m) := hrs
    refine store_cell (ttOk.get 5 _ rfl) rfl hcs (o := 0 + 6 * 1) (by simp [codeOf, byteE]) rfl rfl fun V' f gr z => ?_
    refine ⟨(), ⟨.cons rfl (.cons rfl (.cons rfl (.cons rfl .nil))), rfl⟩, b10.grown gr b10.size (fun j e => by simp at e; omega), ?_⟩
    have e2 : (((codeOf m).flatMap byteE.enc ++ sp).toArray.toList.take (0 + 6 * 1) ++ [Value.int .u8 2] ++ ((codeOf m).flatMap byteE.enc ++ sp).toArray.toList.drop (0 + 6 * 1 + 1)) = ((codeOf m).set 6 2).flatMap byteE.enc ++ sp := by simp [codeOf, byteE, u8]
    rw [e2] at f
    have : RowS byteE 5 V' g sp ((codeOf m).set 6 2) := f
    exact this.row
  rintro _ V ⟨bV, rV⟩
  have iV := mv i9 bV
  obtain ⟨fV, hb⟩ := mk iV
  have gV := hg.below hb
  refine Calls.mono (reads_c (some ⟨k, 0, none⟩) 11 (codeOf m) s V (bytes_row fV) (Nat.le_refl _) (by omega) gV) ?_
  rintro e W1 ⟨rfl, q1⟩
  have w1 := hb.trans (q1.mono hb.size)
  refine And.intro (fun _ => ?_) (fun h => by cases h)
  refine ⟨_, fun w => add_str _ _ s [32] (by simp; omega) w, ?_⟩
  have e9 : (codeOf m ++ [0]).length = 12 := rfl
  have hr9 := reads_c p9 cap9 (codeOf m ++ [0]) (s ++ [32]) W1 ((r9.below bV).below q1) c9 (by simp; omega) (hg.below w1)
  rw [e9] at hr9
  refine Calls.mono hr9 ?_
  rintro e W2 ⟨rfl, q2⟩
  have w2 := w1.trans (q2.mono w1.size)
  refine And.intro (fun _ => ?_) (fun h => by cases h)
  refine ⟨_, fun w => add_str _ _ [32] s (by simp; omega) w, ?_⟩
  have e10 : ((codeOf m).set 6 2).length = 11 := rfl
  have hr10 := reads_c (some ⟨g, 0, none⟩) cap10 ((codeOf m).set 6 2) ([32] ++ s) W2 ((rV.below q1).below q2) (by simpa using hcap) (by simp; omega) (hg.below w2)
  rw [e10] at hr10
  refine Calls.mono hr10 ?_
  rintro e W3 ⟨rfl, q3⟩
  have w3 := w2.trans (q3.mono w2.size)
  refine And.intro (fun _ => ?_) (fun h => by cases h)
  refine Calls.mono (reads_c none 0 [] [] W3 .nil (Nat.le_refl _) (by simp) (hg.below w3)) ?_
  rintro e W4 ⟨rfl, q4⟩
  exact And.intro rfl (w3.trans (q4.mono w3.size))
end Go.Proofs.YtkekidalckflhaaGreatDoor
namespace Go.Proofs.YtkekidalckflhaaGreatDoor
open Go.Vc Go.RowKit Go.Sei

theorem i64n {a : Int} {x : Nat} (h : a = (x : Int)) (hx : x < 1000000) : IntKind.i64.wrap a = (x : Int) := by rw [h]; exact wrap_i64 (by omega)
theorem u8w {a : Int} {x : Nat} (h : a = (x : Int)) (hx : x < 256) : IntKind.u8.wrap a = ((UInt8.ofNat x).toNat : Int) := by rw [h, u8n hx]; exact wrap_u8 (by omega)
theorem u8r {a : Int} {x : Nat} (h : a = (x : Int)) (hx : x < 256) : a = ((UInt8.ofNat x).toNat : Int) := by rw [h, u8n hx]

set_option maxRecDepth 20000 in
theorem msgEnds_c (w : World) (hg : GlobW w) : Calls Tryz.prog 3 #[] w fun e w' => e = .returned (.bool true) ∧ Below w.heap.size w w' := by
  refine calls_of_M (S := sg 116) (sgOk _) (args := [])
    (.s .p (.c (.s .p (.b (.l (.s .p (.c (.b (.c .p (.c .p (.s .p (.b (.l (.s .p (.c (.b (.c .p (.b (.l (.s .p (.c (.b (.c .p (.c .p .p))) .p)))))) .p)))))))) .p))))) .p))
    Tryz.func3 rfl rfl (Nat.le_of_ble_eq_true rfl) rfl ?_
  refine ⟨Unit, fun _ => ⟨[], []⟩, fun _ V => Below w.heap.size w V, ?_, ?_⟩
  · refine ⟨Nat, fun n => ⟨[(1, .int .i64 (n : Nat))], []⟩, fun n V => n ≤ 16 ∧ Below w.heap.size w V, fun n => 16 - n, 0, ⟨.cons rfl .nil, rfl⟩, ⟨by decide, Below.refl _ _⟩, ?_⟩
    rintro n V ⟨hn, hb⟩
    refine And.intro (fun h => ?_) (fun h => ?_)
    · have h : (n : Int) < 16 := of_decide_eq_true h
      have hn16 : n < 16 := by omega
      refine ⟨Unit, fun _ => ⟨[(1, .int .i64 (n : Nat))], []⟩, fun _ V => Below w.heap.size w V, ?_, ?_⟩
      · refine ⟨Nat × Geo, fun t => ⟨[(1, .int .i64 (n : Nat)), (2, .pointer (some ⟨t.1, 0, none⟩))], []⟩, fun t V => V.heap[t.1]? = some (.cells t.2.val.cells 23 (0, 0)) ∧ w.heap.size ≤ t.1 ∧ Below w.heap.size w V, ?_, ?_⟩
        · refine ⟨by decide, ((n % 4 : Nat) : Int), rfl, ?_⟩
          refine ⟨((1 + n % 4 : Nat) : Int), i64n (by omega) (by omega), ?_⟩
          refine ⟨by decide, ((n / 4 : Nat) : Int), i64n rfl (by omega), ?_⟩
          refine ⟨by decide, ((n / 4 % 2 : Nat) : Int), rfl, ?_⟩
          refine ⟨((1 + n / 4 % 2 : Nat) : Int), i64n (by omega) (by omega), ?_⟩
          refine ⟨by decide, ((n / 2 : Nat) : Int), i64n rfl (by omega), ?_⟩
          refine ⟨by decide, ((n / 2 % 4 : Nat) : Int), rfl, ?_⟩
          refine ⟨((1 + n / 2 % 4 : Nat) : Int), i64n (by omega) (by omega), ?_⟩
          refine ⟨by decide, ((n / 15 : Nat) : Int), i64n rfl (by omega), ?_⟩
          refine ⟨((n / 15 * 9 : Nat) : Int), i64n (by omega) (by omega), ?_⟩
          obtain ⟨g0, hg0⟩ : ∃ g0 : Geo, g0 = ⟨((1 + n % 4 : Nat) : Int), ((1 + n / 4 % 2 : Nat) : Int), ((1 + n / 2 % 4 : Nat) : Int), 1, ((n / 15 * 9 : Nat) : Int)⟩ := ⟨_, rfl⟩
          refine ⟨g0.enc, by rw [hg0]; rfl, ?_⟩
          refine store_new (X := V) (v := g0.val) (ttOk.get 23 _ rfl) (by rfl) rfl (by rfl) fun Y hbY fY sY => ?_
          exact ⟨(_, g0), ⟨.cons rfl (.cons rfl .nil), rfl⟩, fY, hb.size, hb.trans (hbY.mono hb.size)⟩
        clear hb V
        rintro ⟨a2, g0⟩ V ⟨f2, ha2, hb⟩
        dsimp only at f2 ha2
        refine ⟨Geo, fun _ => ⟨[(1, .int .i64 (n : Nat)), (2, .pointer (some ⟨a2, 0, none⟩))], []⟩, fun g V => V.heap[a2]? = some (.cells g.val.cells 23 (0, 0)) ∧ Below w.heap.size w V, ?_, ?_⟩
        · refine And.intro (fun h => ?_) (fun h => ?_)
          · refine store_cell (ttOk.get 3 _ rfl) rfl f2 (o := 0 + 4) (by show 4 < 5; decide) rfl rfl fun V' f gr z => ?_
            refine ⟨{ g0 with a := 1 }, ⟨.cons rfl (.cons rfl .nil), rfl⟩, ?_, hb.grown gr hb.size (fun j e => by simp at e; omega)⟩
            rw [f]; rfl
          · exact ⟨g0, ⟨.cons rfl (.cons rfl .nil), rfl⟩, f2, hb⟩
        clear f2 hb V
        rintro g V ⟨f2, hb⟩
        refine ⟨Nat, fun k => ⟨[(1, .int .i64 (n : Nat)), (2, .pointer (some ⟨a2, 0, none⟩)), (3, u8 (UInt8.ofNat k))], []⟩, fun k V => k ≤ 14 ∧ V.heap[a2]? = some (.cells g.val.cells 23 (0, 0)) ∧ Below w.heap.size w V, fun k => 14 - k, 0, ⟨.cons rfl (.cons rfl (.cons rfl .nil)), rfl⟩, ⟨by decide, f2, hb⟩, ?_⟩
        clear f2 hb V
        rintro k V ⟨hk, f2, hb⟩
        have hK := u8n (show k < 256 by omega)
        refine And.intro (fun h => ?_) (fun h => ?_)
        · have h : ((UInt8.ofNat k).toNat : Int) < 14 := of_decide_eq_true h
          have hk14 : k < 14 := by omega
          refine ⟨Unit, fun _ => ⟨[(1, .int .i64 (n : Nat)), (2, .pointer (some ⟨a2, 0, none⟩)), (3, u8 (UInt8.ofNat k))], []⟩, fun _ V => V.heap[a2]? = some (.cells g.val.cells 23 (0, 0)) ∧ Below w.heap.size w V, ?_, ?_⟩
          · refine ⟨Unit, fun _ => ⟨[(1, .int .i64 (n : Nat)), (2, .pointer (some ⟨a2, 0, none⟩)), (3, u8 (UInt8.ofNat k)), (4, u8 0)], []⟩, fun _ V => V.heap[a2]? = some (.cells g.val.cells 23 (0, 0)) ∧ Below w.heap.size w V, ?_, ?_⟩
            · exact ⟨(), ⟨.cons rfl (.cons rfl (.cons rfl (.cons rfl .nil))), rfl⟩, f2, hb⟩
            clear f2 hb V
            rintro _ V ⟨f2, hb⟩
            refine ⟨Nat, fun i => ⟨[(1, .int .i64 (n : Nat)), (2, .pointer (some ⟨a2, 0, none⟩)), (3, u8 (UInt8.ofNat k)), (4, u8 (UInt8.ofNat i))], []⟩, fun i V => i ≤ 25 ∧ V.heap[a2]? = some (.cells g.val.cells 23 (0, 0)) ∧ Below w.heap.size w V, fun i => 25 - i, 0, ⟨.cons rfl (.cons rfl (.cons rfl (.cons rfl .nil))), rfl⟩, ⟨by decide, f2, hb⟩, ?_⟩
            clear f2 hb V
            rintro i V ⟨hi, f2, hb⟩
            have hI := u8n (show i < 256 by omega)
            refine And.intro (fun h => ?_) (fun h => ?_)
            · have h : ((UInt8.ofNat i).toNat : Int) < 25 := of_decide_eq_true h
              have hi25 : i < 25 := by omega
              refine ⟨Unit, fun _ => ⟨[(1, .int .i64 (n : Nat)), (2, .pointer (some ⟨a2, 0, none⟩)), (3, u8 (UInt8.ofNat k)), (4, u8 (UInt8.ofNat i))], []⟩, fun _ V => V.heap[a2]? = some (.cells g.val.cells 23 (0, 0)) ∧ Below w.heap.size w V, ?_, ?_⟩
              · refine ⟨Nat × Msg, fun t => ⟨[(1, .int .i64 (n : Nat)), (2, .pointer (some ⟨a2, 0, none⟩)), (3, u8 (UInt8.ofNat k)), (4, u8 (UInt8.ofNat i)), (5, .pointer (some ⟨t.1, 0, none⟩))], []⟩, fun t V => V.heap[a2]? = some (.cells g.val.cells 23 (0, 0)) ∧ V.heap[t.1]? = some (.cells t.2.val.cells 27 (0, 0)) ∧ Below w.heap.size w V, ?_, ?_⟩
                · refine ⟨by decide, ((UInt8.ofNat (i % 5)).toNat : Int), u8r (by rw [hI]; rfl) (by omega), ?_⟩
                  refine ⟨by decide, ((UInt8.ofNat (i / 5)).toNat : Int), u8w (by rw [hI]; rfl) (by omega), ?_⟩
                  refine ⟨by decide, ((n % 3 : Nat) : Int), rfl, ?_⟩
                  refine ⟨((UInt8.ofNat (n % 3)).toNat : Int), u8w rfl (by omega), ?_⟩
                  refine ⟨((UInt8.ofNat (i + k)).toNat : Int), u8w (by rw [hI, hK]; omega) (by omega), ?_⟩
                  refine ⟨by decide, ((UInt8.ofNat ((i + k) % 4)).toNat : Int), u8r (by rw [u8n (show i + k < 256 by omega)]; rfl) (by omega), ?_⟩
                  refine ⟨by decide, ((UInt8.ofNat (k / 6)).toNat : Int), u8w (by rw [hK]; rfl) (by omega), ?_⟩
                  refine ⟨by decide, ((UInt8.ofNat (k / 6 % 2)).toNat : Int), u8r (by rw [u8n (show k / 6 < 256 by omega)]; rfl) (by omega), ?_⟩
                  have hmul : (i + k) % 4 * (k / 6 % 2) ≤ 3 := by
                    have h1 : (i + k) % 4 ≤ 3 := by omega
                    have h2 : k / 6 % 2 = 0 ∨ k / 6 % 2 = 1 := by omega
                    rcases h2 with h2 | h2 <;> rw [h2] <;> omega
                  refine ⟨((UInt8.ofNat ((i + k) % 4 * (k / 6 % 2))).toNat : Int), u8w (by rw [u8n (show (i + k) % 4 < 256 by omega), u8n (show k / 6 % 2 < 256 by omega)]; exact (Int.natCast_mul _ _).symm) (by omega), ?_⟩
                  obtain ⟨m, hm⟩ : ∃ m : Msg, m = ⟨UInt8.ofNat k, UInt8.ofNat (i % 5), UInt8.ofNat (i / 5), UInt8.ofNat (n % 3), UInt8.ofNat ((i + k) % 4 * (k / 6 % 2)), 0, false, 0, 0, 0, 0⟩ := ⟨_, rfl⟩
                  refine ⟨m.enc, by rw [hm]; rfl, ?_⟩
                  refine store_new (X := V) (v := m.val) (ttOk.get 27 _ rfl) (by rfl) rfl (by rfl) fun Y hbY fY sY => ?_
                  exact ⟨(_, m), ⟨.cons rfl (.cons rfl (.cons rfl (.cons rfl (.cons rfl .nil)))), rfl⟩, block_below hbY f2, fY, hb.trans (hbY.mono hb.size)⟩
                clear f2 hb V
                rintro ⟨a5, m⟩ V ⟨f2, f5, hb⟩
                dsimp only at f5
                refine ⟨Unit, fun _ => ⟨[(1, .int .i64 (n : Nat)), (2, .pointer (some ⟨a2, 0, none⟩)), (3, u8 (UInt8.ofNat k)), (4, u8 (UInt8.ofNat i)), (5, .pointer (some ⟨a5, 0, none⟩))], []⟩, fun _ V => V.heap[a2]? = some (.cells g.val.cells 23 (0, 0)) ∧ V.heap[a5]? = some (.cells m.val.cells 27 (0, 0)) ∧ Below w.heap.size w V, ?_, ?_⟩
                · refine DrawE.ord [] [0, 1, 2, 3, 4, 5, 6, 7, 8, 9, 10, 11, 12, 13, 14, 15, 16, 17, 18, 19, 20, 21, 22, 23, 24, 25, 26, 27, 28, 29, 30, 31, 32, 33, 34, 35] (by kernel_rfl) ?_
                  have q2 := hdr f2
                  have q5 := hdr f5
                  have hd := hb.drew
                  refine ⟨g.enc, rfl, cells_block q2, hlt q2, ?_⟩
                  refine ⟨m.enc, rfl, cells_block q5, hlt q5, ?_⟩
                  refine Calls.mono (same_c g m _ (hg.below hd)) ?_
                  rintro e V1 ⟨rfl, b1⟩
                  refine ⟨b1, ?_⟩
                  have w1 := hd.trans (b1.mono hd.size)
                  have q2 := block_below b1 q2
                  have q5 := block_below b1 q5
                  refine And.intro (fun h => by cases h) (fun _ => ?_)
                  refine ⟨g.enc, rfl, cells_block q2, hlt q2, ?_⟩
                  refine ⟨m.enc, rfl, cells_block q5, hlt q5, ?_⟩
                  refine ⟨_, wrap_u8_i64 (UInt8.ofNat i), ?_⟩
                  refine ⟨by decide, ((i % 11 : Nat) : Int), by rw [hI]; rfl, ?_⟩
                  refine ⟨((UInt8.ofNat n).toNat : Int), u8w rfl (by omega), ?_⟩
                  refine Calls.mono (bend_c m (i % 11) (by omega) (UInt8.ofNat n) V1) ?_
                  rintro e V2 ⟨m2, rfl, b2⟩
                  refine ⟨b2, ?_⟩
                  have w2 := w1.trans (b2.mono w1.size)
                  have q2 := block_below b2 q2
                  have q5 := block_below b2 q5
                  refine Calls.mono (same_c g m2 _ (hg.below w2)) ?_
                  rintro e V3 ⟨rfl, b3⟩
                  refine ⟨b3, ?_⟩
                  have w3 := w2.trans (b3.mono w2.size)
                  have q2 := block_below b3 q2
                  have q5 := block_below b3 q5
                  refine And.intro (fun h => by cases h) (fun _ => ?_)
                  refine ⟨g.enc, rfl, cells_block q2, hlt q2, ?_⟩
                  refine ⟨m.enc, rfl, cells_block q5, hlt q5, ?_⟩
                  refine ⟨((UInt8.ofNat (i + k)).toNat : Int), u8w (by rw [hI, hK]; omega) (by omega), ?_⟩
                  refine ⟨_, wrap_u8_i64 (UInt8.ofNat (i + k)), ?_⟩
                  refine ⟨by decide, (((i + k) % 11 : Nat) : Int), by rw [u8n (show i + k < 256 by omega)]; rfl, ?_⟩
                  refine Calls.mono (bend_c m ((i + k) % 11) (by omega) 255 V3) ?_
                  rintro e V4 ⟨m4, rfl, b4⟩
                  refine ⟨b4, ?_⟩
                  have w4 := w3.trans (b4.mono w3.size)
                  have q2 := block_below b4 q2
                  have q5 := block_below b4 q5
                  refine Calls.mono (same_c g m4 _ (hg.below w4)) ?_
                  rintro e V5 ⟨rfl, b5⟩
                  refine ⟨b5, ?_⟩
                  have w5 := w4.trans (b5.mono w4.size)
                  have q2 := block_below b5 q2
                  have q5 := block_below b5 q5
                  refine And.intro (fun h => by cases h) (fun _ => ?_)
                  refine ⟨g.enc, rfl, cells_block q2, hlt q2, ?_⟩
                  refine ⟨m.enc, rfl, cells_block q5, hlt q5, ?_⟩
                  refine Calls.mono (bend_c m 7 (by decide) 3 V5) ?_
                  rintro e V6 ⟨m6, rfl, b6⟩
                  refine ⟨b6, ?_⟩
                  have w6 := w5.trans (b6.mono w5.size)
                  refine Calls.mono (bend_c m6 5 (by decide) 1 V6) ?_
                  rintro e V7 ⟨m7, rfl, b7⟩
                  refine ⟨b7, ?_⟩
                  have w7 := w6.trans (b7.mono w6.size)
                  refine Calls.mono (same_c g m7 _ (hg.below w7)) ?_
                  rintro e V8 ⟨rfl, b8⟩
                  refine ⟨b8, ?_⟩
                  have w8 := w7.trans (b8.mono w7.size)
                  refine And.intro (fun h => by cases h) (fun _ => ?_)
                  exact ⟨(), ⟨.cons rfl (.cons rfl (.cons rfl (.cons rfl (.cons rfl .nil)))), rfl⟩, block_below b8 (block_below b7 (block_below b6 q2)), block_below b8 (block_below b7 (block_below b6 q5)), w8⟩
                clear f2 f5 hb V
                rintro _ V ⟨f2, f5, hb⟩
                refine ⟨by decide, _, rfl, ?_⟩
                refine And.intro (fun h => ?_) (fun h => ?_)
                · refine ⟨m.enc, rfl, cells_block f5, hlt f5, ?_⟩
                  refine ⟨((UInt8.ofNat (i + k)).toNat : Int), u8w (by rw [hI, hK]; omega) (by omega), ?_⟩
                  refine ⟨_, wrap_u8_i64 (UInt8.ofNat (i + k)), ?_⟩
                  refine ⟨by decide, (((i + k) % 11 : Nat) : Int), by rw [u8n (show i + k < 256 by omega)]; rfl, ?_⟩
                  refine ⟨((n * 17 : Nat) : Int), i64n (by omega) (by omega), ?_⟩
                  refine ⟨((1 + n * 17 : Nat) : Int), i64n (by omega) (by omega), ?_⟩
                  refine ⟨_, wrap_u8_nat (1 + n * 17), ?_⟩
                  refine Calls.mono (bend_c m ((i + k) % 11) (by omega) (UInt8.ofNat (1 + n * 17)) V) ?_
                  rintro e V2 ⟨m2, rfl, b2⟩
                  have w2 := hb.trans (b2.mono hb.size)
                  refine ⟨_, wrap_u8_i64 (UInt8.ofNat k), ?_⟩
                  refine ⟨by decide, ((k % 4 : Nat) : Int), by rw [hK]; rfl, ?_⟩
                  refine ⟨((k % 4 + 7 : Nat) : Int), i64n (by omega) (by omega), ?_⟩
                  refine Calls.mono (bend_c m2 (k % 4 + 7) (by omega) (UInt8.ofNat i) V2) ?_
                  rintro e V3 ⟨m3, rfl, b3⟩
                  have w3 := w2.trans (b3.mono w2.size)
                  refine ⟨((i : Nat) : Int), by rw [hI]; exact i64n rfl (by omega), ?_⟩
                  refine Calls.mono (wrong_c m3 i (by omega) V3 (hg.below w3).m) ?_
                  rintro e V4 ⟨rfl, b4⟩
                  refine And.intro (fun h => by cases h) (fun _ => ?_)
                  exact ⟨(), ⟨.cons rfl (.cons rfl (.cons rfl (.cons rfl .nil))), rfl⟩, block_below b4 (block_below b3 (block_below b2 f2)), w3.trans (b4.mono w3.size)⟩
                · refine And.intro (fun h => by cases h) (fun _ => ?_)
                  exact ⟨(), ⟨.cons rfl (.cons rfl (.cons rfl (.cons rfl .nil))), rfl⟩, f2, hb⟩
              clear f2 hb V
              rintro _ V ⟨f2, hb⟩
              refine ⟨((UInt8.ofNat (i + 1)).toNat : Int), u8w (by rw [hI]; rfl) (by omega), ?_⟩
              exact ⟨i + 1, ⟨.cons rfl (.cons rfl (.cons rfl (.cons rfl .nil))), rfl⟩, ⟨hi25, f2, hb⟩, by dsimp only; omega⟩
            · exact ⟨(), ⟨.cons rfl (.cons rfl (.cons rfl .nil)), rfl⟩, f2, hb⟩
          clear f2 hb V
          rintro _ V ⟨f2, hb⟩
          refine ⟨((UInt8.ofNat (k + 1)).toNat : Int), u8w (by rw [hK]; rfl) (by omega), ?_⟩
          exact ⟨k + 1, ⟨.cons rfl (.cons rfl (.cons rfl .nil)), rfl⟩, ⟨hk14, f2, hb⟩, by dsimp only; omega⟩
        · exact ⟨(), ⟨.cons rfl .nil, rfl⟩, hb⟩
      clear hb V
      rintro _ V hb
      refine ⟨((n + 1 : Nat) : Int), i64n (by omega) (by omega), ?_⟩
      exact ⟨n + 1, ⟨.cons rfl .nil, rfl⟩, ⟨hn16, hb⟩, by dsimp only; omega⟩
    · exact ⟨(), ⟨.nil, rfl⟩, hb⟩
  rintro _ V hb
  refine Calls.mono (awake_c V (hg.below hb).m) ?_
  rintro e V1 ⟨rfl, b1⟩
  exact And.intro rfl (hb.trans (b1.mono hb.size))
end Go.Proofs.YtkekidalckflhaaGreatDoor
namespace Go.Proofs.YtkekidalckflhaaGreatDoor
open Go.Vc Go.RowKit Go.Sei

section
variable {H : Type} {enc : TypeId × Value → H} {P : Program} {w : World} {base : Nat} {spare : Nat → Bool} {held : Bool} {fuel : Nat} {t : TypeId} {cs : List Value} {x : DataW H × List MemPlace}

theorem open_u8 (ht : P.underlying t = some (.int .u8)) (h : DataW.trod enc P w base spare held fuel t cs = some x) : ∃ b : UInt8, cs = [u8 b] ∧ x.1 = .lit (.int .u8 b.toNat) := by
  obtain ⟨n, rfl, rfl, hw⟩ := DataW.trod_int ht h
  have hb := bounds_u8 hw
  have e : ((UInt8.ofNat n.toNat).toNat : Int) = n := by
    rw [UInt8.toNat_ofNat']; omega
  exact ⟨UInt8.ofNat n.toNat, by rw [u8, e], by rw [e]⟩

theorem open_u8s {n : Nat} {e : TypeId} (ht : P.underlying t = some (.array n e)) (he : P.underlying e = some (.int .u8)) (hc : P.cellsOf e = 1) (hn : P.cellsOf t = n)
    (h : DataW.trod enc P w base spare held fuel t cs = some x) : ∃ bs : List UInt8, bs.length = n ∧ cs = bs.map u8 ∧ x.1 = .agg (bs.map fun b => .lit (.int .u8 b.toNat)) := by
  obtain ⟨xs, m, rfl, rfl, hl, hx, hel⟩ := DataW.trod_array ht h
  rw [hn] at hl
  have each : ∀ i (h : i < n), ∃ b : UInt8, cs[i]? = some (u8 b) ∧ xs[i]?.map (·.1) = some (.lit (.int .u8 b.toNat)) := fun i hi => by
    have h1 := hel i hi
    rw [hc, List.getElem?_eq_getElem (by omega)] at h1
    obtain ⟨b, h2, h3⟩ := open_u8 he h1
    refine ⟨b, ?_, by rw [List.getElem?_eq_getElem (by omega), Option.map_some, h3]⟩
    have : ((cs.drop (i * 1)).take 1)[0]? = some (u8 b) := by rw [h2]; rfl
    simpa using this
  have : ∀ k, k ≤ n → ∃ bs : List UInt8, bs.length = k ∧ cs.take k = bs.map u8 ∧ (xs.take k).map (·.1) = bs.map fun b => .lit (.int .u8 b.toNat) := by
    intro k
    induction k with
    | zero => exact fun _ => ⟨[], rfl, by simp, by simp⟩
    | succ k ih =>
      intro hk
      obtain ⟨bs, h1, h2, h3⟩ := ih (by omega)
      obtain ⟨b, h4, h5⟩ := each k (by omega)
      have hk1 : k < cs.length := by omega
      have hk2 : k < xs.length := by omega
      rw [List.getElem?_eq_getElem hk1] at h4
      rw [List.getElem?_eq_getElem hk2] at h5
      refine ⟨bs ++ [b], by simp [h1], ?_, ?_⟩
      · rw [List.take_succ_eq_append_getElem hk1, h2, Option.some.inj h4]; simp
      · rw [List.take_succ_eq_append_getElem hk2, List.map_append, h3]
        simp at h5
        simp [h5]
  obtain ⟨bs, h1, h2, h3⟩ := this n (Nat.le_refl _)
  rw [List.take_of_length_le (by omega)] at h2 h3
  exact ⟨bs, h1, h2, by rw [← h3]⟩

theorem open_strs {n : Nat} {e : TypeId} (ht : P.underlying t = some (.array n e)) (he : P.underlying e = some .string) (hc : P.cellsOf e = 1) (hn : P.cellsOf t = n)
    (h : DataW.trod enc P w base spare held fuel t cs = some x) : ∃ ls : List (List UInt8), ls.length = n ∧ cs = ls.map strV ∧ x.1 = .agg (ls.map fun b => .lit (.string b)) := by
  obtain ⟨xs, m, rfl, rfl, hl, hx, hel⟩ := DataW.trod_array ht h
  rw [hn] at hl
  have each : ∀ i (h : i < n), ∃ b : List UInt8, cs[i]? = some (strV b) ∧ xs[i]?.map (·.1) = some (.lit (.string b)) := fun i hi => by
    have h1 := hel i hi
    rw [hc, List.getElem?_eq_getElem (by omega)] at h1
    obtain ⟨s, h2, h3, _⟩ := DataW.trod_string he h1
    have es : Value.string s = strV s.data.toList := by unfold strV bs; cases s; rfl
    refine ⟨s.data.toList, ?_, by rw [List.getElem?_eq_getElem (by omega), Option.map_some, h3]⟩
    have : ((cs.drop (i * 1)).take 1)[0]? = some (strV s.data.toList) := by rw [h2, es]; rfl
    simpa using this
  have : ∀ k, k ≤ n → ∃ ls : List (List UInt8), ls.length = k ∧ cs.take k = ls.map strV ∧ (xs.take k).map (·.1) = ls.map fun b => .lit (.string b) := by
    intro k
    induction k with
    | zero => exact fun _ => ⟨[], rfl, by simp, by simp⟩
    | succ k ih =>
      intro hk
      obtain ⟨ls, h1, h2, h3⟩ := ih (by omega)
      obtain ⟨b, h4, h5⟩ := each k (by omega)
      have hk1 : k < cs.length := by omega
      have hk2 : k < xs.length := by omega
      rw [List.getElem?_eq_getElem hk1] at h4
      rw [List.getElem?_eq_getElem hk2] at h5
      refine ⟨ls ++ [b], by simp [h1], ?_, ?_⟩
      · rw [List.take_succ_eq_append_getElem hk1, h2, Option.some.inj h4]; simp
      · rw [List.take_succ_eq_append_getElem hk2, List.map_append, h3]
        simp at h5
        simp [h5]
  obtain ⟨ls, h1, h2, h3⟩ := this n (Nat.le_refl _)
  rw [List.take_of_length_le (by omega)] at h2 h3
  exact ⟨ls, h1, h2, by rw [← h3]⟩
end

abbrev seatLaid : List (String × DataW Unit) := [("math/bits.deBruijn32tab", Rows.laid_math_bits_deBruijn32tab), ("math/bits.deBruijn64tab", Rows.laid_math_bits_deBruijn64tab), ("internal/strconv.uint64pow10", Rows.laid_internal_strconv_uint64pow10), ("unicode/utf8.acceptRanges", Rows.laid_unicode_utf8_acceptRanges),
  ("strconv.ErrRange", Rows.laid_strconv_ErrRange), ("strconv.ErrSyntax", Rows.laid_strconv_ErrSyntax), ("seisin/msg.classes", Rows.laid_seisin_msg_classes), ("seisin/msg.names", Rows.laid_seisin_msg_names), ("unicode/utf8.first", Rows.laid_unicode_utf8_first)]

theorem glob_of_laid {W : World} (h : laidMetH Tryz.prog seatLaid W) (hsh : W.ShapedOpen Tryz.prog) : GlobM W := by
  have h0 : laidMet Tryz.prog seatLaid W := h
  have h2 := h0.tail.tail
  have h4 := h2.tail.tail
  have h5 := h4.tail
  have h6 := h5.tail
  have h7 := h6.tail
  have pow : Lib.TabIs Tryz.prog W "internal/strconv.uint64pow10" .u64 Lib.pow10Tab :=
    Lib.tabIs_of_head (g := 4) (by kernel_rfl) (by kernel_rfl) Tryz.underlying110 Tryz.underlying78 (by kernel_rfl) (by kernel_rfl) h2
  have err : ∀ (n : String) (g : Nat) (nm : String) (d : DataW Unit) (r : List (String × DataW Unit)), Tryz.prog.globalNamed n = some g → (Tryz.prog.globals[g]?).map (·.type) = some 72 → laidMet Tryz.prog ((n, .iface nm d) :: r) W →
      ∃ ev, W.cell? ⟨g, 0, none⟩ = some ev ∧ (ev = .nilIface ∨ ∃ te pe, ev = .iface te pe) := fun n g nm d r hg ht h => by
    obtain ⟨ps, ⟨g', t', cs, fuel, p, q, hg', ht', hv, hd, _, _⟩, _⟩ := h
    obtain rfl := Option.some.inj (hg.symm.trans hg')
    obtain rfl := Option.some.inj (ht.symm.trans ht')
    obtain ⟨_, u, v, hc, _, _⟩ := iface_of_trod Tryz.underlying72 hd
    have := World.var?_cell hg hv 0
    have h0 : cs[0]? = some (.iface u v) := by
      have : cs.toList[0]? = some (.iface u v) := by rw [hc]; rfl
      simpa using this
    exact ⟨_, this.trans h0, .inr ⟨u, v, rfl⟩⟩
  have cls : Cells W ⟨1, 0, none⟩ (classes.map u8) := by
    obtain ⟨ps, ⟨g', t', cs, fuel, p, q, hg', ht', hv, hd, _, _⟩, _⟩ := h6
    obtain rfl := Option.some.inj ((show Tryz.prog.globalNamed "seisin/msg.classes" = some 1 by kernel_rfl).symm.trans hg')
    obtain rfl := Option.some.inj ((show (Tryz.prog.globals[1]?).map (·.type) = some 42 by kernel_rfl).symm.trans ht')
    obtain ⟨bs, h1, h2, h3⟩ := open_u8s Tryz.underlying42 Tryz.underlying5 (by kernel_rfl) (by kernel_rfl) hd
    have hbs : bs = classes := by
      match bs, h1 with
      | [b0, b1, b2, b3, b4, b5, b6, b7, b8, b9, b10, b11, b12], _ =>
        simp only [Rows.laid_seisin_msg_classes, List.map_cons, List.map_nil, DataW.agg.injEq, List.cons.injEq, DataW.lit.injEq, Lit.int.injEq, true_and, and_true] at h3
        simp only [classes, List.cons.injEq, and_true]
        obtain ⟨a0, a1, a2, a3, a4, a5, a6, a7, a8, a9, a10, a11, a12⟩ := h3
        refine ⟨?_, ?_, ?_, ?_, ?_, ?_, ?_, ?_, ?_, ?_, ?_, ?_, ?_⟩ <;> (apply UInt8.toNat_inj.1; simp; omega)
    subst hbs
    refine cells_mk fun i v hvv => ?_
    have hc := World.var?_cell hg' hv i
    rw [← hvv, ← h2]
    simpa using hc
  have nms : Cells W ⟨2, 0, none⟩ (kindNames.map strV) := by
    obtain ⟨ps, ⟨g', t', cs, fuel, p, q, hg', ht', hv, hd, _, _⟩, _⟩ := h7
    obtain rfl := Option.some.inj ((show Tryz.prog.globalNamed "seisin/msg.names" = some 2 by kernel_rfl).symm.trans hg')
    obtain rfl := Option.some.inj ((show (Tryz.prog.globals[2]?).map (·.type) = some 52 by kernel_rfl).symm.trans ht')
    obtain ⟨bs, h1, h2, h3⟩ := open_strs Tryz.underlying52 Tryz.underlying9 (by kernel_rfl) (by kernel_rfl) hd
    have hbs : bs = kindNames := by
      have h3' : (DataW.agg (kindNames.map fun b => .lit (.string b)) : DataW Unit) = .agg (bs.map fun b => .lit (.string b)) := h3
      have h4 := DataW.agg.inj h3'
      have hinj : ∀ (a b : List (List UInt8)), (a.map fun b => (DataW.lit (.string b) : DataW Unit)) = (b.map fun b => .lit (.string b)) → a = b := by
        intro a
        induction a with
        | nil => intro b h; cases b with
          | nil => rfl
          | cons y t => simp at h
        | cons x r ih => intro b h; cases b with
          | nil => simp at h
          | cons y t =>
            simp only [List.map_cons, List.cons.injEq, DataW.lit.injEq, Lit.string.injEq] at h
            rw [h.1, ih t h.2]
      exact (hinj _ _ h4).symm
    subst hbs
    refine cells_mk fun i v hvv => ?_
    have hc := World.var?_cell hg' hv i
    rw [← hvv, ← h2]
    simpa using hc
  have max : ∃ m, W.cell? ⟨5, 0, none⟩ = some (.int .i64 m) :=
    cell_of_shapedOpen_int (zero := #[.int .i64 0]) (t := 3) hsh (of_decide_eq_true (by kernel_rfl)) (by kernel_rfl) rfl (by kernel_rfl) (by kernel_rfl) Tryz.underlying3
  refine ⟨cls, nms, World.block_lt_of_cell? W _ (cells_head nms), pow, max, err "strconv.ErrSyntax" 6 _ _ _ (by kernel_rfl) (by kernel_rfl) h5, err "strconv.ErrRange" 7 _ _ _ (by kernel_rfl) (by kernel_rfl) h4⟩
end Go.Proofs.YtkekidalckflhaaGreatDoor
