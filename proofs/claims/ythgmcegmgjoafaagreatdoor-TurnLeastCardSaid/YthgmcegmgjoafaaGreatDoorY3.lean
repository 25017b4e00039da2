/- Contracts: names; the locations of a program. Contracts: parts of an instruction. Contract: an instruction without the fields that it does not need. The engine, part Q: '==' of nested structs and arrays, cell by cell. '==' at structs and arrays: the general part. Contracts: the conditions of an instruction. Contracts: the conditions of an instruction together; a thread. Contracts: is a condition right?. Contracts: a condition as a whole; the locations of a program. Contracts: what is demanded of a program. Contracts: is a program right?. Plain: permutations of what's below four. Contracts: is a list a permutation?. Contracts: is a permutation of pairs?. Contracts: does a world turn; does a permutation suit it?. make, all zero; a store of one cell at a place. Contracts: Fits, reorder, Then, Back, Ints. Contracts: Then, Back, Ints. Contracts: threads reordered, compared. Contracts: does a permutation keep a program?. Contracts: the next permutation. Contracts: advance. -/
import Derived.Test.YthgmcegmgjoafaaGreatDoorY2
import Derived.Test.YthgmcegmgjoafaaGreatDoorY1
import Derived.Laws.StructEq
import Derived.ChangeKeysEq
import Derived.Laws.MakeOwn
set_option linter.unusedSimpArgs false
set_option linter.unusedVariables false
namespace Go.Proofs.YthgmcegmgjoafaaGreatDoor
open Go.Vc Go.RowKit Go.Sei
theorem Kept_c (s : List UInt8) (w : World) : Calls Tryz.prog 244 #[strV s] w fun e w' => e = .returned (.bool (keptL s)) ∧ w = w' := by
  refine calls_of_E (S := sg 22) (sgOk _) (args := [strV s]) Tryz.func244 rfl rfl (Nat.le_of_ble_eq_true rfl) rfl ?_
  refine ⟨_, fun w => eql_str _ _ s [116, 101, 115, 116] w, ?_⟩
  refine And.intro (fun h => ?_) (fun h0 => ?_)
  · refine brE h ?_
    exact ⟨rb (List.any_eq_true.2 ⟨[116, 101, 115, 116], by decide, h⟩).symm, rfl⟩
  refine ⟨_, fun w => eql_str _ _ s [105, 110, 105, 116] w, ?_⟩
  refine And.intro (fun h => ?_) (fun h1 => ?_)
  · refine brE h ?_
    exact ⟨rb (List.any_eq_true.2 ⟨[105, 110, 105, 116], by decide, h⟩).symm, rfl⟩
  refine ⟨_, fun w => eql_str _ _ s [116, 104, 114, 101, 97, 100] w, ?_⟩
  refine And.intro (fun h => ?_) (fun h2 => ?_)
  · refine brE h ?_
    exact ⟨rb (List.any_eq_true.2 ⟨[116, 104, 114, 101, 97, 100], by decide, h⟩).symm, rfl⟩
  refine ⟨_, fun w => eql_str _ _ s [115, 111, 109, 101] w, ?_⟩
  refine And.intro (fun h => ?_) (fun h3 => ?_)
  · refine brE h ?_
    exact ⟨rb (List.any_eq_true.2 ⟨[115, 111, 109, 101], by decide, h⟩).symm, rfl⟩
  refine ⟨_, fun w => eql_str _ _ s [110, 111, 110, 101] w, ?_⟩
  refine And.intro (fun h => ?_) (fun h4 => ?_)
  · refine brE h ?_
    exact ⟨rb (List.any_eq_true.2 ⟨[110, 111, 110, 101], by decide, h⟩).symm, rfl⟩
  refine ⟨_, fun w => eql_str _ _ s [97, 108, 108] w, ?_⟩
  refine And.intro (fun h => ?_) (fun h5 => ?_)
  · refine brE h ?_
    exact ⟨rb (List.any_eq_true.2 ⟨[97, 108, 108], by decide, h⟩).symm, rfl⟩
  refine ⟨_, fun w => eql_str _ _ s [97, 99, 113] w, ?_⟩
  refine And.intro (fun h => ?_) (fun h6 => ?_)
  · refine brE h ?_
    exact ⟨rb (List.any_eq_true.2 ⟨[97, 99, 113], by decide, h⟩).symm, rfl⟩
  refine ⟨_, fun w => eql_str _ _ s [114, 101, 108] w, ?_⟩
  refine And.intro (fun h => ?_) (fun h7 => ?_)
  · refine brE h ?_
    exact ⟨rb (List.any_eq_true.2 ⟨[114, 101, 108], by decide, h⟩).symm, rfl⟩
  refine ⟨_, fun w => eql_str _ _ s [115, 119, 97, 112] w, ?_⟩
  refine And.intro (fun h => ?_) (fun h8 => ?_)
  · refine brE h ?_
    exact ⟨rb (List.any_eq_true.2 ⟨[115, 119, 97, 112], by decide, h⟩).symm, rfl⟩
  refine ⟨_, fun w => eql_str _ _ s [102, 101, 116, 99, 104] w, ?_⟩
  refine And.intro (fun h => ?_) (fun h9 => ?_)
  · refine brE h ?_
    exact ⟨rb (List.any_eq_true.2 ⟨[102, 101, 116, 99, 104], by decide, h⟩).symm, rfl⟩
  refine ⟨_, fun w => eql_str _ _ s [99, 97, 115] w, ?_⟩
  refine And.intro (fun h => ?_) (fun h10 => ?_)
  · refine brE h ?_
    exact ⟨rb (List.any_eq_true.2 ⟨[99, 97, 115], by decide, h⟩).symm, rfl⟩
  refine ⟨_, fun w => eql_str _ _ s [102, 101, 110, 99, 101] w, ?_⟩
  refine And.intro (fun h => ?_) (fun h11 => ?_)
  · refine brE h ?_
    exact ⟨rb (List.any_eq_true.2 ⟨[102, 101, 110, 99, 101], by decide, h⟩).symm, rfl⟩
  refine ⟨_, fun w => eql_str _ _ s [108, 111, 97, 100, 115] w, ?_⟩
  refine And.intro (fun h => ?_) (fun h12 => ?_)
  · refine brE h ?_
    exact ⟨rb (List.any_eq_true.2 ⟨[108, 111, 97, 100, 115], by decide, h⟩).symm, rfl⟩
  refine ⟨_, fun w => eql_str _ _ s [115, 116, 111, 114, 101, 115] w, ?_⟩
  refine And.intro (fun h => ?_) (fun h13 => ?_)
  · refine brE h ?_
    exact ⟨rb (List.any_eq_true.2 ⟨[115, 116, 111, 114, 101, 115], by decide, h⟩).symm, rfl⟩
  refine ⟨_, fun w => eql_str _ _ s [115, 107, 105, 112] w, ?_⟩
  refine And.intro (fun h => ?_) (fun h14 => ?_)
  · refine brE h ?_
    exact ⟨rb (List.any_eq_true.2 ⟨[115, 107, 105, 112], by decide, h⟩).symm, rfl⟩
  refine ⟨_, fun w => eql_str _ _ s [105, 102] w, ?_⟩
  refine And.intro (fun h => ?_) (fun h15 => ?_)
  · refine brE h ?_
    exact ⟨rb (List.any_eq_true.2 ⟨[105, 102], by decide, h⟩).symm, rfl⟩
  refine ⟨_, fun w => eql_str _ _ s [116, 114, 117, 101] w, ?_⟩
  refine And.intro (fun h => ?_) (fun h16 => ?_)
  · exact ⟨rb (List.any_eq_true.2 ⟨[116, 114, 117, 101], by decide, h⟩).symm, rfl⟩
  exact ⟨rb (by unfold keptL keptW; simp only [List.any_cons, List.any_nil, h0, h1, h2, h3, h4, h5, h6, h7, h8, h9, h10, h11, h12, h13, h14, h15, h16]; rfl), rfl⟩
theorem Name_c (s : List UInt8) (hs : s.length ≤ 140737488351232) (w : World) : Calls Tryz.prog 234 #[strV s] w fun e w' => e = .returned (.bool (nameL s)) ∧ w = w' := by
  refine calls_of_M (S := sg 55) (sgOk _) (args := [strV s]) (.s .p (.c .p (.s .p (.c .p .p)))) Tryz.func234 rfl rfl (Nat.le_of_ble_eq_true rfl) rfl ?_
  refine ⟨Unit, fun _ => ⟨[(0, strV s)], []⟩, fun _ X => (∃ c r, s = c :: r ∧ r.length + 1 ≤ 16 ∧ clsL c = 3 ∧ keptL s = false) ∧ w = X, ?_, ?_⟩
  · refine And.intro (fun h => ?_) (fun h => ?_)
    · have h : (s.length : Int) < 1 := of_decide_eq_true h
      have h0 : s = [] := List.eq_nil_of_length_eq_zero (by omega)
      subst h0
      refine brT ?_
      refine brT ?_
      refine brT ?_
      exact ⟨rfl, rfl⟩
    have h : ¬ (s.length : Int) < 1 := of_decide_eq_false h
    obtain ⟨c, r, rfl⟩ : ∃ c r, s = c :: r := by
      cases s with
      | nil => simp at h
      | cons c r => exact ⟨c, r, rfl⟩
    have hdef : nameL (c :: r) = (decide (r.length + 1 ≤ 16) && (decide (clsL c = 3) && (!keptL (c :: r) && (r.all inWordL && (!decide (c = 114) || (decide (digitsL r = 0) || decide (digitsL r < r.length))))))) := rfl
    have hsz : (((bs (c :: r)).size : Nat) : Int) = (r.length + 1 : Nat) := rfl
    refine And.intro (fun h2 => ?_) (fun h2 => ?_)
    · have h2 : (16 : Int) < ((r.length + 1 : Nat) : Int) := of_decide_eq_true h2
      refine brT ?_
      refine brT ?_
      exact ⟨rb (by rw [hdef, decide_eq_false (by omega)]; rfl), rfl⟩
    have h2 : ¬ (16 : Int) < ((r.length + 1 : Nat) : Int) := of_decide_eq_false h2
    refine ⟨0, rfl, Nat.succ_pos _, c, rfl, ?_⟩
    refine Calls.mono (classOf_c c _) ?_
    rintro e _ ⟨rfl, rfl⟩
    refine And.intro (fun h3 => ?_) (fun h3 => ?_)
    · have h3 : ¬ clsL c = 3 := by
        have h1 : (!decide ((clsL c : Int) = 3)) = true := h3
        simp at h1; omega
      refine brT ?_
      exact ⟨rb (by rw [hdef, decide_eq_false h3]; simp), rfl⟩
    have h3 : clsL c = 3 := by
      have h1 : (!decide ((clsL c : Int) = 3)) = false := h3
      simp at h1; omega
    refine Calls.mono (Kept_c (c :: r) _) ?_
    rintro e _ ⟨rfl, rfl⟩
    refine And.intro (fun h4 => ?_) (fun h4 => ?_)
    · have h4 : keptL (c :: r) = true := h4
      exact ⟨rb (by rw [hdef, h4]; simp), rfl⟩
    · exact ⟨(), ⟨.cons rfl .nil, rfl⟩, ⟨c, r, rfl, by omega, h3, h4⟩, rfl⟩
  rintro _ _ ⟨⟨c, r, rfl, h1, h3, h4⟩, rfl⟩
  have hdef : nameL (c :: r) = (r.all inWordL && (!decide (c = 114) || (decide (digitsL r = 0) || decide (digitsL r < r.length)))) := by
    show (decide (r.length + 1 ≤ 16) && (decide (clsL c = 3) && (!keptL (c :: r) && (r.all inWordL && (!decide (c = 114) || (decide (digitsL r = 0) || decide (digitsL r < r.length))))))) = _
    rw [decide_eq_true h1, decide_eq_true h3, h4]; rfl
  rw [hdef]
  refine ⟨Unit, fun _ => ⟨[(0, strV (c :: r)), (3, i64 (digitsL r : Nat))], []⟩, fun _ X => r.all inWordL = true ∧ w = X, ?_, ?_⟩
  · refine ⟨Nat, fun k => ⟨[(0, strV (c :: r)), (3, i64 (digitsL (r.take k) : Nat)), (4, i64 (k + 1 : Nat))], []⟩, fun k X => k ≤ r.length ∧ (∀ d ∈ r.take k, inWordL d = true) ∧ digitsL (r.take k) ≤ k ∧ w = X, fun k => r.length - k, 0, ⟨.cons rfl (.cons rfl (.cons rfl .nil)), rfl⟩, ⟨Nat.zero_le _, by simp, Nat.le_refl _, rfl⟩, ?_⟩
    rintro k _ ⟨hk, hw, hdk, rfl⟩
    dsimp only at hk hw hdk ⊢
    refine And.intro (fun hc => ?_) (fun hc => ?_)
    · have hc : ((k + 1 : Nat) : Int) < ((r.length + 1 : Nat) : Int) := of_decide_eq_true hc
      have hl : k < r.length := by omega
      have hat : (bs (c :: r)).data.toList[k + 1]? = some r[k] := by
        show (c :: r)[k + 1]? = _
        rw [List.getElem?_cons_succ, List.getElem?_eq_getElem hl]
      refine ⟨k + 1, rfl, (by show k + 1 < r.length + 1; omega), r[k], hat, ?_⟩
      refine Calls.mono (inWord_c _ _) ?_
      rintro e _ ⟨rfl, rfl⟩
      refine And.intro (fun hi => ?_) (fun hi => ?_)
      · have hi : (!inWordL r[k]) = true := hi
        have hi : inWordL r[k] = false := by simpa using hi
        have : r.all inWordL = false := by
          rw [List.all_eq_false]
          exact ⟨r[k], List.getElem_mem _, by rw [hi]; simp⟩
        exact ⟨rb (by rw [this]; rfl), rfl⟩
      have hi : (!inWordL r[k]) = false := hi
      have hi : inWordL r[k] = true := by simpa using hi
      have hw' : ∀ d ∈ r.take (k + 1), inWordL d = true := by
        rw [List.take_succ_eq_append_getElem hl]
        intro d hd
        rcases List.mem_append.1 hd with hd | hd
        · exact hw d hd
        · simp only [List.mem_singleton] at hd
          rw [hd]; exact hi
      have hds : digitsL (r.take (k + 1)) = digitsL (r.take k) + (if digB r[k] = true then 1 else 0) := by
        unfold digitsL
        rw [List.take_succ_eq_append_getElem hl, List.filter_append, List.length_append]
        congr 1
        by_cases h : digB r[k] = true
        · rw [if_pos h, List.filter_cons_of_pos h]; rfl
        · rw [if_neg h, List.filter_cons_of_neg h]; rfl
      refine ⟨k + 1, rfl, (by show k + 1 < r.length + 1; omega), r[k], hat, ?_⟩
      refine Calls.mono (classOf_c _ _) ?_
      rintro e _ ⟨rfl, rfl⟩
      have hd : decide ((clsL r[k] : Int) = 4) = digB r[k] := nat_dec (b := 4)
      refine And.intro (fun hg => ?_) (fun hg => ?_)
      · have hg : digB r[k] = true := hd.symm.trans hg
        rw [if_pos hg] at hds
        refine ⟨(digitsL (r.take (k + 1)) : Int), (wrap_i64 (by omega)).trans (by omega), ?_⟩
        refine ⟨((k + 1 + 1 : Nat) : Int), (wrap_i64 (by omega)).trans (by omega), ?_⟩
        exact ⟨k + 1, ⟨.cons rfl (.cons rfl (.cons rfl .nil)), rfl⟩, ⟨hl, hw', by omega, rfl⟩, by show r.length - (k + 1) < r.length - k; omega⟩
      · have hg : ¬ digB r[k] = true := by rw [Bool.not_eq_true]; exact hd.symm.trans hg
        rw [if_neg hg] at hds
        refine ⟨((k + 1 + 1 : Nat) : Int), (wrap_i64 (by omega)).trans (by omega), ?_⟩
        exact ⟨k + 1, ⟨.cons rfl (.cons (by rw [hds]; rfl) (.cons rfl .nil)), rfl⟩, ⟨hl, hw', by omega, rfl⟩, by show r.length - (k + 1) < r.length - k; omega⟩
    · have hc : ¬ ((k + 1 : Nat) : Int) < ((r.length + 1 : Nat) : Int) := of_decide_eq_false hc
      obtain rfl : k = r.length := by omega
      rw [List.take_length] at hw
      exact ⟨(), ⟨.cons rfl (.cons (by rw [List.take_length]; rfl) .nil), rfl⟩, List.all_eq_true.2 hw, rfl⟩
  rintro _ _ ⟨hall, rfl⟩
  rw [hall, Bool.true_and]
  have hdl : digitsL r ≤ r.length := List.length_filter_le _ _
  refine ⟨0, rfl, Nat.succ_pos _, c, rfl, ?_⟩
  have cd : decide ((c.toNat : Int) = 114) = decide (c = 114) := by rw [decide_eq_decide]; exact u8_eq (y := 114)
  refine And.intro (fun h => ?_) (fun h => ?_)
  · have h : (!decide (c = 114)) = true := by
      have h : (!decide ((c.toNat : Int) = 114)) = true := h
      rwa [cd] at h
    refine brT ?_
    exact ⟨rb (by rw [h]; rfl), rfl⟩
  have h : (!decide (c = 114)) = false := by
    have h : (!decide ((c.toNat : Int) = 114)) = false := h
    rwa [cd] at h
  rw [h, Bool.false_or]
  refine And.intro (fun h5 => ?_) (fun h5 => ?_)
  · have h5 : digitsL r = 0 := by have h5 : (digitsL r : Int) = 0 := of_decide_eq_true h5; omega
    exact ⟨rb (by rw [decide_eq_true h5]; rfl), rfl⟩
  have h5 : ¬ digitsL r = 0 := by have h5 : ¬ (digitsL r : Int) = 0 := of_decide_eq_false h5; omega
  refine ⟨(r.length : Nat), (wrap_i64 (by show -9223372036854775808 ≤ ((r.length + 1 : Nat) : Int) - 1 ∧ ((r.length + 1 : Nat) : Int) - 1 ≤ 9223372036854775807; omega)).trans (by show ((r.length + 1 : Nat) : Int) - 1 = _; omega), ?_⟩
  exact ⟨rb (by rw [decide_eq_false h5, Bool.false_or, decide_eq_decide]; omega), rfl⟩
theorem Index_c (p : Option Addr) (cap : Nat) (l : List (List UInt8)) (s : List UInt8) (w : World) (hl : SlR namE w p l) (hn : l.length ≤ 140737488351232) :
    Calls Tryz.prog 246 #[.slice p l.length cap, strV s] w fun e w' => ∃ n : Int, e = .returned (i64 n) ∧ decide (0 ≤ n) = l.any (fun q => decide (q = s)) ∧ w = w' := by
  refine calls_of_E (S := sg 19) (sgOk _) (args := [.slice p l.length cap, strV s]) Tryz.func246 rfl rfl (Nat.le_of_ble_eq_true rfl) rfl ?_
  refine ⟨Nat, fun k => ⟨[(0, .slice p l.length cap), (1, strV s), (7, i64 l.length), (8, i64 (k : Nat))], []⟩, fun k X => k ≤ l.length ∧ (∀ q ∈ l.take k, ¬ q = s) ∧ w = X, fun k => l.length - k, 0, ⟨.cons rfl (.cons rfl (.cons rfl (.cons rfl .nil))), rfl⟩, ⟨Nat.zero_le _, by simp, rfl⟩, ?_⟩
  rintro k _ ⟨hk, hno, rfl⟩
  dsimp only at hk hno ⊢
  refine And.intro (fun hc => ?_) (fun hc => ?_)
  · have hc : (k : Int) < (l.length : Int) := of_decide_eq_true hc
    have hkl : k < l.length := by omega
    obtain ⟨b, o, rfl, hb, hat⟩ := hl.at hkl
    refine ⟨k, rfl, hkl, ?_⟩
    refine ⟨_, cells_at (hat k hkl) (i := 0) rfl, ?_⟩
    refine ⟨_, fun w => eql_str _ _ s l[k] w, ?_⟩
    refine And.intro (fun h => ?_) (fun h => ?_)
    · have h : s = l[k] := of_decide_eq_true h
      refine ⟨k, rfl, ?_, rfl⟩
      rw [decide_eq_true (by omega)]
      symm
      rw [List.any_eq_true]
      exact ⟨l[k], List.getElem_mem _, decide_eq_true h.symm⟩
    · have h : ¬ s = l[k] := of_decide_eq_false h
      refine ⟨(k + 1 : Nat), (wrap_i64 (by omega)).trans (by omega), ?_⟩
      refine ⟨k + 1, ⟨.cons rfl (.cons rfl (.cons rfl (.cons rfl .nil))), rfl⟩, ⟨hkl, ?_, rfl⟩, by show l.length - (k + 1) < l.length - k; omega⟩
      rw [List.take_succ_eq_append_getElem hkl]
      intro q hq
      rcases List.mem_append.1 hq with hq | hq
      · exact hno q hq
      · simp only [List.mem_singleton] at hq
        rw [hq]; exact fun e => h e.symm
  · have hc : ¬ (k : Int) < (l.length : Int) := of_decide_eq_false hc
    obtain rfl : k = l.length := by omega
    rw [List.take_length] at hno
    refine ⟨-1, rfl, ?_, rfl⟩
    symm
    show _ = false
    rw [List.any_eq_false]
    exact fun q hq => by simpa using hno q hq
theorem Contains_c (p : Option Addr) (cap : Nat) (l : List (List UInt8)) (s : List UInt8) (w : World) (hl : SlR namE w p l) (hn : l.length ≤ 140737488351232) :
    Calls Tryz.prog 235 #[.slice p l.length cap, strV s] w fun e w' => e = .returned (.bool (l.any fun q => decide (q = s))) ∧ w = w' := by
  refine calls_of_E (S := sg 9) (sgOk _) (args := [.slice p l.length cap, strV s]) Tryz.func235 rfl rfl (Nat.le_of_ble_eq_true rfl) rfl ?_
  refine Calls.mono (Index_c p cap l s w hl hn) ?_
  rintro e _ ⟨n, rfl, h, rfl⟩
  exact ⟨rb h, rfl⟩
end Go.Proofs.YthgmcegmgjoafaaGreatDoor
namespace Go.Proofs.YthgmcegmgjoafaaGreatDoor
open Go.Vc Go.RowKit Go.Sei
def GlobC (w : World) : Prop := Cells w ⟨3, 0, none⟩ (needL.map u8)
theorem GlobC.below {w w2 : World} (h : GlobC w) (hb : Below w.heap.size w w2) : GlobC w2 := cells_below hb h
def spC (x : InsD) (locs after : Nat) : List Value := [u8 x.op, u8 x.dst, u8 x.loc, .bool x.ar, u8 x.an, .bool x.br, u8 x.bn, u8 x.fn, u8 x.mode, u8 x.skip, i64 locs, i64 after]
theorem u8d (x k : UInt8) : decide ((x.toNat : Int) = (k.toNat : Int)) = decide (x = k) := by rw [decide_eq_decide]; exact u8_eq
theorem u8_and (a b : UInt8) : IntKind.u8.wrap ((BitVec.ofInt IntKind.u8.bits (a.toNat : Int) &&& BitVec.ofInt IntKind.u8.bits (b.toNat : Int)).toNat : Int) = ((a &&& b).toNat : Int) := by
  have h : ∀ x : UInt8, BitVec.ofInt 8 (x.toNat : Int) = x.toBitVec := fun x => by
    apply BitVec.eq_of_toNat_eq
    rw [BitVec.toNat_ofInt]
    have := x.toNat_lt
    show ((x.toNat : Int) % (2 ^ 8 : Nat)).toNat = x.toNat
    omega
  show IntKind.u8.wrap ((BitVec.ofInt 8 (a.toNat : Int) &&& BitVec.ofInt 8 (b.toNat : Int)).toNat : Int) = _
  rw [h, h]
  have e : (a.toBitVec &&& b.toBitVec).toNat = (a &&& b).toNat := rfl
  rw [e]
  have := (a &&& b).toNat_lt
  exact wrap_u8 (by omega)
theorem has_c {g locs after : Nat} {x : InsD} {w : World} (bit : UInt8) (h : Cells w ⟨g, 0, none⟩ (spC x locs after)) (hop : x.op.toNat ≤ 8) (hG : GlobC w) :
    Calls Tryz.prog 252 #[.pointer (some ⟨g, 0, none⟩), u8 bit] w fun e w' => e = .returned (.bool (hasL x.op bit)) ∧ w = w' := by
  refine calls_of_E (S := sg 15) (sgOk _) (args := [.pointer (some ⟨g, 0, none⟩), u8 bit]) Tryz.func252 rfl rfl (Nat.le_of_ble_eq_true rfl) rfl ?_
  refine ⟨_, cells_at h (i := 0) rfl, ?_⟩
  refine ⟨x.op.toNat, rfl, (by show x.op.toNat < 9; omega), ?_⟩
  have hn : (needL.map u8)[x.op.toNat]? = some (u8 (needL.getD x.op.toNat 0)) := by
    have hl : x.op.toNat < needL.length := by show _ < 9; omega
    rw [List.getElem?_map, List.getElem?_eq_getElem hl, List.getD_eq_getElem?_getD, List.getElem?_eq_getElem hl]; rfl
  refine ⟨u8 (needL.getD x.op.toNat 0), by rw [Nat.mul_one]; exact cells_at hG hn, ?_⟩
  refine ⟨((needL.getD x.op.toNat 0 &&& bit).toNat : Int), u8_and _ _, ?_⟩
  exact ⟨rb (by unfold hasL; rw [← u8d]; rfl), rfl⟩
theorem argRight_c (r : Bool) (n : UInt8) (w : World) : Calls Tryz.prog 254 #[.agg #[.bool r, u8 n]] w fun e w' => e = .returned (.bool (argL r n)) ∧ Below w.heap.size w w' := by
  refine calls_of_E (S := sg 11) (sgOk _) (args := [.agg #[.bool r, u8 n]]) Tryz.func254 rfl rfl (Nat.le_of_ble_eq_true rfl) rfl ?_
  have hb0 : Below w.heap.size w (w.alloc (.cells #[.bool r, u8 n] 168)) := (Below.refl _ _).alloc (Nat.le_refl _) _
  have c0 := cells_block (hnew w (.cells #[.bool r, u8 n] 168))
  refine ⟨_, cells_at c0 (i := 0) rfl, ?_⟩
  cases r with
  | false =>
    refine brT ?_
    exact ⟨rfl, hb0⟩
  | true =>
    refine brF ?_
    refine ⟨_, cells_at c0 (i := 1) rfl, ?_⟩
    refine ⟨rb ?_, hb0⟩
    show decide ((n.toNat : Int) < 8) = decide (n.toNat < 8)
    rw [decide_eq_decide]; omega
theorem modeRight_c {g locs after : Nat} {x : InsD} {w : World} (h : Cells w ⟨g, 0, none⟩ (spC x locs after)) :
    Calls Tryz.prog 255 #[.pointer (some ⟨g, 0, none⟩)] w fun e w' => e = .returned (.bool (modeL x)) ∧ w = w' := by
  refine calls_of_E (S := sg 64) (sgOk _) (args := [.pointer (some ⟨g, 0, none⟩)]) Tryz.func255 rfl rfl (Nat.le_of_ble_eq_true rfl) rfl ?_
  refine ⟨_, cells_at h (i := 0) rfl, ?_⟩
  refine And.intro (fun h1 => ?_) (fun h1 => ?_)
  · have h1 : x.op = 1 := of_decide_eq_true ((u8d x.op 1).symm.trans h1)
    have e : modeL x = (decide (x.mode = 0) || decide (x.mode = 1)) := by unfold modeL; rw [if_pos h1]
    rw [e, ← u8d, ← u8d]
    refine ⟨_, cells_at h (i := 8) rfl, ?_⟩
    refine And.intro (fun h2 => ?_) (fun h2 => ?_)
    · exact ⟨rb (by have h2 : decide ((x.mode.toNat : Int) = ((0 : UInt8).toNat : Int)) = true := h2
                    rw [h2]; rfl), rfl⟩
    · refine ⟨_, cells_at h (i := 8) rfl, ?_⟩
      exact ⟨rb (by have h2 : decide ((x.mode.toNat : Int) = ((0 : UInt8).toNat : Int)) = false := h2
                    rw [h2]; rfl), rfl⟩
  have h1 : ¬ x.op = 1 := of_decide_eq_false ((u8d x.op 1).symm.trans h1)
  refine And.intro (fun h2 => ?_) (fun h2 => ?_)
  · have h2 : x.op = 2 := of_decide_eq_true ((u8d x.op 2).symm.trans h2)
    have e : modeL x = (decide (x.mode = 0) || decide (x.mode = 2)) := by unfold modeL; rw [if_neg h1, if_pos h2]
    rw [e, ← u8d, ← u8d]
    refine ⟨_, cells_at h (i := 8) rfl, ?_⟩
    refine And.intro (fun h2 => ?_) (fun h2 => ?_)
    · exact ⟨rb (by have h2 : decide ((x.mode.toNat : Int) = ((0 : UInt8).toNat : Int)) = true := h2
                    rw [h2]; rfl), rfl⟩
    · refine ⟨_, cells_at h (i := 8) rfl, ?_⟩
      exact ⟨rb (by have h2 : decide ((x.mode.toNat : Int) = ((0 : UInt8).toNat : Int)) = false := h2
                    rw [h2]; rfl), rfl⟩
  have h2 : ¬ x.op = 2 := of_decide_eq_false ((u8d x.op 2).symm.trans h2)
  refine And.intro (fun h3 => ?_) (fun h3 => ?_)
  · have h3 : x.op = 7 := of_decide_eq_true ((u8d x.op 7).symm.trans h3)
    have e : modeL x = (decide (x.mode = 3) || (decide (x.mode = 4) || decide (x.mode = 5))) := by unfold modeL; rw [if_neg h1, if_neg h2, if_pos h3]
    rw [e, ← u8d, ← u8d, ← u8d]
    refine ⟨_, cells_at h (i := 8) rfl, ?_⟩
    refine And.intro (fun h4 => ?_) (fun h4 => ?_)
    · refine brT ?_
      exact ⟨rb (by have h4 : decide ((x.mode.toNat : Int) = ((3 : UInt8).toNat : Int)) = true := h4
                    rw [h4]; rfl), rfl⟩
    have h4 : decide ((x.mode.toNat : Int) = ((3 : UInt8).toNat : Int)) = false := h4
    refine ⟨_, cells_at h (i := 8) rfl, ?_⟩
    refine And.intro (fun h5 => ?_) (fun h5 => ?_)
    · exact ⟨rb (by have h5 : decide ((x.mode.toNat : Int) = ((4 : UInt8).toNat : Int)) = true := h5
                    rw [h4, h5]; rfl), rfl⟩
    have h5 : decide ((x.mode.toNat : Int) = ((4 : UInt8).toNat : Int)) = false := h5
    refine ⟨_, cells_at h (i := 8) rfl, ?_⟩
    exact ⟨rb (by rw [h4, h5]; rfl), rfl⟩
  have h3 : ¬ x.op = 7 := of_decide_eq_false ((u8d x.op 7).symm.trans h3)
  exact ⟨rb (by unfold modeL; rw [if_neg h1, if_neg h2, if_neg h3]), rfl⟩
theorem fnRight_c {g locs after : Nat} {x : InsD} {w : World} (h : Cells w ⟨g, 0, none⟩ (spC x locs after)) :
    Calls Tryz.prog 256 #[.pointer (some ⟨g, 0, none⟩)] w fun e w' => e = .returned (.bool (fnL x)) ∧ w = w' := by
  refine calls_of_E (S := sg 56) (sgOk _) (args := [.pointer (some ⟨g, 0, none⟩)]) Tryz.func256 rfl rfl (Nat.le_of_ble_eq_true rfl) rfl ?_
  refine ⟨_, cells_at h (i := 0) rfl, ?_⟩
  refine And.intro (fun h1 => ?_) (fun h1 => ?_)
  · have h1 : x.op = 3 := of_decide_eq_true ((u8d x.op 3).symm.trans h1)
    have e : fnL x = (decide (x.fn = 1) || (decide (x.fn = 2) || decide (x.fn = 3))) := by unfold fnL; rw [if_pos h1]
    rw [e, ← u8d, ← u8d, ← u8d]
    refine ⟨_, cells_at h (i := 7) rfl, ?_⟩
    refine And.intro (fun h4 => ?_) (fun h4 => ?_)
    · refine brT ?_
      exact ⟨rb (by have h4 : decide ((x.fn.toNat : Int) = ((1 : UInt8).toNat : Int)) = true := h4
                    rw [h4]; rfl), rfl⟩
    have h4 : decide ((x.fn.toNat : Int) = ((1 : UInt8).toNat : Int)) = false := h4
    refine ⟨_, cells_at h (i := 7) rfl, ?_⟩
    refine And.intro (fun h5 => ?_) (fun h5 => ?_)
    · exact ⟨rb (by have h5 : decide ((x.fn.toNat : Int) = ((2 : UInt8).toNat : Int)) = true := h5
                    rw [h4, h5]; rfl), rfl⟩
    have h5 : decide ((x.fn.toNat : Int) = ((2 : UInt8).toNat : Int)) = false := h5
    refine ⟨_, cells_at h (i := 7) rfl, ?_⟩
    exact ⟨rb (by rw [h4, h5]; rfl), rfl⟩
  have h1 : ¬ x.op = 3 := of_decide_eq_false ((u8d x.op 3).symm.trans h1)
  refine And.intro (fun h2 => ?_) (fun h2 => ?_)
  · have h2 : x.op = 8 := of_decide_eq_true ((u8d x.op 8).symm.trans h2)
    have e : fnL x = (decide (x.fn = 4) || (decide (x.fn = 5) || decide (x.fn = 6))) := by unfold fnL; rw [if_neg h1, if_pos h2]
    rw [e, ← u8d, ← u8d, ← u8d]
    refine ⟨_, cells_at h (i := 7) rfl, ?_⟩
    refine And.intro (fun h4 => ?_) (fun h4 => ?_)
    · refine brT ?_
      exact ⟨rb (by have h4 : decide ((x.fn.toNat : Int) = ((4 : UInt8).toNat : Int)) = true := h4
                    rw [h4]; rfl), rfl⟩
    have h4 : decide ((x.fn.toNat : Int) = ((4 : UInt8).toNat : Int)) = false := h4
    refine ⟨_, cells_at h (i := 7) rfl, ?_⟩
    refine And.intro (fun h5 => ?_) (fun h5 => ?_)
    · exact ⟨rb (by have h5 : decide ((x.fn.toNat : Int) = ((5 : UInt8).toNat : Int)) = true := h5
                    rw [h4, h5]; rfl), rfl⟩
    have h5 : decide ((x.fn.toNat : Int) = ((5 : UInt8).toNat : Int)) = false := h5
    refine ⟨_, cells_at h (i := 7) rfl, ?_⟩
    exact ⟨rb (by rw [h4, h5]; rfl), rfl⟩
  have h2 : ¬ x.op = 8 := of_decide_eq_false ((u8d x.op 8).symm.trans h2)
  exact ⟨rb (by unfold fnL; rw [if_neg h1, if_neg h2]), rfl⟩
end Go.Proofs.YthgmcegmgjoafaaGreatDoor
namespace Go.Proofs.YthgmcegmgjoafaaGreatDoor
open Go.Vc Go.RowKit Go.Sei
set_option maxRecDepth 4000
def zIns : InsD := ⟨0, 0, 0, false, 0, false, 0, 0, 0, 0⟩
def nd0 (x : InsD) : InsD := { zIns with op := x.op }
def nd1 (x : InsD) : InsD := { nd0 x with dst := if hasL x.op 1 then x.dst else 0 }
def nd2 (x : InsD) : InsD := { nd1 x with loc := if hasL x.op 2 then x.loc else 0 }
def nd3 (x : InsD) : InsD := { nd2 x with ar := hasL x.op 4 && x.ar, an := if hasL x.op 4 then x.an else 0 }
def nd4 (x : InsD) : InsD := { nd3 x with br := hasL x.op 8 && x.br, bn := if hasL x.op 8 then x.bn else 0 }
def nd5 (x : InsD) : InsD := { nd4 x with fn := if hasL x.op 16 then x.fn else 0 }
def nd6 (x : InsD) : InsD := { nd5 x with mode := if hasL x.op 32 then x.mode else 0 }
def nd7 (x : InsD) : InsD := { nd6 x with skip := if hasL x.op 64 then x.skip else 0 }
theorem nd_eq (x : InsD) : nd7 x = neededL x := rfl
theorem needed_c {g locs after : Nat} {x : InsD} {w : World} (h : Cells w ⟨g, 0, none⟩ (spC x locs after)) (hg : g < w.heap.size) (hop : x.op.toNat ≤ 8) (hG : GlobC w) :
    Calls Tryz.prog 249 #[.pointer (some ⟨g, 0, none⟩)] w fun e w' => e = .returned (.agg (insE.enc (neededL x)).toArray) ∧ Below w.heap.size w w' := by
  refine calls_of_M (S := sg 67) (sgOk _) (args := [.pointer (some ⟨g, 0, none⟩)]) (.s .p (.c .p (.c .p (.c .p (.c .p (.c .p (.c .p (.c .p (.c .p .p))))))))) Tryz.func249 rfl rfl (Nat.le_of_ble_eq_true rfl) rfl ?_
  obtain ⟨r, hr⟩ : ∃ r, r = w.heap.size := ⟨_, rfl⟩
  obtain ⟨W0, hW0⟩ : ∃ W0, W0 = w.alloc (.cells (insE.enc zIns).toArray 170) := ⟨_, rfl⟩
  have hb0 : Below w.heap.size w W0 := by rw [hW0]; exact (Below.refl _ _).alloc (Nat.le_refl _) _
  have f0 : W0.heap[r]? = some (.cells (insE.enc zIns).toArray 170 (0, 0)) := by rw [hW0, hr]; exact hnew w _
  have s0 : W0.heap.size = r + 1 := by rw [hW0, World.size_alloc, hr]
  let Good : InsD → World → Prop := fun y X => Below w.heap.size w X ∧ X.heap[r]? = some (.cells (insE.enc zIns).toArray 170 (0, 0)) ∧ X.heap[r + 1]? = some (.cells (insE.enc y).toArray 170 (0, 0))
  have good : ∀ y X, Good y X → Cells X ⟨g, 0, none⟩ (spC x locs after) ∧ GlobC X ∧ g < X.heap.size := fun y X ⟨hb, _, _⟩ => ⟨cells_belowB hb hg h, hG.below hb, by have := hb.size; omega⟩
  have turn : ∀ y z X Y, Good y X → X.grownBy Y (some (r + 1)) → Y.heap[r + 1]? = some (.cells (insE.enc z).toArray 170 (0, 0)) → Good z Y := fun y z X Y ⟨hb, h1, h2⟩ hg' h3 =>
    ⟨hb.grown hg' hb.size (fun k e => by simp only [Option.some.injEq] at e; omega), (hg'.block _ (hlt h1) (fun e => by simp only [Option.some.injEq] at e; omega)).trans h1, h3⟩
  have start : ∀ Y, Below W0.heap.size W0 Y → Y.heap[W0.heap.size]? = some (.cells (Value.agg (insE.enc (nd0 x)).toArray).cells 170 (0, 0)) → Good (nd0 x) Y := fun Y hY fY =>
    ⟨hb0.trans (hY.mono hb0.size), block_below hY f0, by rw [← s0]; exact fY⟩
  have h0 : Cells W0 ⟨g, 0, none⟩ (spC x locs after) := cells_belowB hb0 hg h
  have p2 : some (Value.pointer (some ⟨w.heap.size, 0, none⟩)) = some (Value.pointer (some ⟨r, 0, none⟩)) := by rw [hr]
  have p3 : some (Value.pointer (some ⟨W0.heap.size, 0, none⟩)) = some (Value.pointer (some ⟨r + 1, 0, none⟩)) := by rw [s0]
  refine ⟨Unit, fun _ => ⟨[(0, .pointer (some ⟨g, 0, none⟩)), (2, .pointer (some ⟨r, 0, none⟩)), (3, .pointer (some ⟨r + 1, 0, none⟩))], []⟩, fun _ X => Good (nd0 x) X, ?_, ?_⟩
  · subst hW0
    refine ⟨_, cells_at h0 (i := 0) rfl, ?_⟩
    refine ⟨insE.enc (nd0 x), rfl, ?_⟩
    refine store_new (v := .agg (insE.enc (nd0 x)).toArray) (ttOk.get 170 _ rfl) rfl rfl rfl fun Y hbY fY sY => ?_
    exact ⟨(), ⟨.cons rfl (.cons p2 (.cons p3 .nil)), rfl⟩, start Y hbY fY⟩
  clear start h0 f0 hb0 p2 p3 s0
  rintro _ Y hY
  refine ⟨Unit, fun _ => ⟨[(0, .pointer (some ⟨g, 0, none⟩)), (2, .pointer (some ⟨r, 0, none⟩)), (3, .pointer (some ⟨r + 1, 0, none⟩))], []⟩, fun _ X => Good (nd1 x) X, ?_, ?_⟩
  · obtain ⟨hc, hGY, hgY⟩ := good _ Y hY
    refine Calls.mono (has_c 1 hc hop hGY) ?_
    rintro e _ ⟨rfl, rfl⟩
    refine And.intro (fun hh => ?_) (fun hh => ?_)
    · have hh : hasL x.op 1 = true := hh
      have e : nd1 x = { nd0 x with dst := x.dst } := by unfold nd1; rw [if_pos hh]
      refine ⟨_, cells_at hc (i := 1) rfl, ?_⟩
      refine store_cell (ttOk.get 5 _ rfl) rfl (hY.2.2) (o := 1) (by show 1 < 10; omega) (v := u8 x.dst) rfl rfl fun Z fZ gZ sZ => ?_
      exact ⟨(), ⟨.cons rfl (.cons rfl (.cons rfl .nil)), rfl⟩, turn _ _ Y Z hY gZ (by rw [e]; exact fZ)⟩
    · have hh : hasL x.op 1 = false := hh
      have e : nd1 x = nd0 x := by unfold nd1; rw [if_neg (by rw [hh]; decide)]; rfl
      exact ⟨(), ⟨.cons rfl (.cons rfl (.cons rfl .nil)), rfl⟩, by rw [e]; exact hY⟩
  clear hY Y
  rintro _ Y hY
  refine ⟨Unit, fun _ => ⟨[(0, .pointer (some ⟨g, 0, none⟩)), (2, .pointer (some ⟨r, 0, none⟩)), (3, .pointer (some ⟨r + 1, 0, none⟩))], []⟩, fun _ X => Good (nd2 x) X, ?_, ?_⟩
  · obtain ⟨hc, hGY, hgY⟩ := good _ Y hY
    refine Calls.mono (has_c 2 hc hop hGY) ?_
    rintro e _ ⟨rfl, rfl⟩
    refine And.intro (fun hh => ?_) (fun hh => ?_)
    · have hh : hasL x.op 2 = true := hh
      have e : nd2 x = { nd1 x with loc := x.loc } := by unfold nd2; rw [if_pos hh]
      refine ⟨_, cells_at hc (i := 2) rfl, ?_⟩
      refine store_cell (ttOk.get 5 _ rfl) rfl (hY.2.2) (o := 2) (by show 2 < 10; omega) (v := u8 x.loc) rfl rfl fun Z fZ gZ sZ => ?_
      exact ⟨(), ⟨.cons rfl (.cons rfl (.cons rfl .nil)), rfl⟩, turn _ _ Y Z hY gZ (by rw [e]; exact fZ)⟩
    · have hh : hasL x.op 2 = false := hh
      have e : nd2 x = nd1 x := by unfold nd2; rw [if_neg (by rw [hh]; decide)]; rfl
      exact ⟨(), ⟨.cons rfl (.cons rfl (.cons rfl .nil)), rfl⟩, by rw [e]; exact hY⟩
  clear hY Y
  rintro _ Y hY
  refine ⟨Unit, fun _ => ⟨[(0, .pointer (some ⟨g, 0, none⟩)), (2, .pointer (some ⟨r, 0, none⟩)), (3, .pointer (some ⟨r + 1, 0, none⟩))], []⟩, fun _ X => Good (nd3 x) X, ?_, ?_⟩
  · obtain ⟨hc, hGY, hgY⟩ := good _ Y hY
    refine Calls.mono (has_c 4 hc hop hGY) ?_
    rintro e _ ⟨rfl, rfl⟩
    refine And.intro (fun hh => ?_) (fun hh => ?_)
    · have hh : hasL x.op 4 = true := hh
      have e : nd3 x = { nd2 x with ar := x.ar, an := x.an } := by unfold nd3; rw [hh, Bool.true_and, if_pos rfl]
      refine ⟨[.bool x.ar, u8 x.an], rfl, cells_sub (n := 3) (m := 2) hc, hgY, ?_⟩
      refine store_part (ttOk.get 168 _ rfl) hY.2.2 (o := 3) (v := .agg #[.bool x.ar, u8 x.an]) rfl (by show 3 + 2 ≤ 10; omega) rfl fun Z fZ gZ sZ => ?_
      exact ⟨(), ⟨.cons rfl (.cons rfl (.cons rfl .nil)), rfl⟩, turn _ _ Y Z hY gZ (by rw [e]; exact fZ)⟩
    · have hh : hasL x.op 4 = false := hh
      have e : nd3 x = nd2 x := by unfold nd3; rw [hh, Bool.false_and, if_neg (by decide)]; rfl
      exact ⟨(), ⟨.cons rfl (.cons rfl (.cons rfl .nil)), rfl⟩, by rw [e]; exact hY⟩
  clear hY Y
  rintro _ Y hY
  refine ⟨Unit, fun _ => ⟨[(0, .pointer (some ⟨g, 0, none⟩)), (2, .pointer (some ⟨r, 0, none⟩)), (3, .pointer (some ⟨r + 1, 0, none⟩))], []⟩, fun _ X => Good (nd4 x) X, ?_, ?_⟩
  · obtain ⟨hc, hGY, hgY⟩ := good _ Y hY
    refine Calls.mono (has_c 8 hc hop hGY) ?_
    rintro e _ ⟨rfl, rfl⟩
    refine And.intro (fun hh => ?_) (fun hh => ?_)
    · have hh : hasL x.op 8 = true := hh
      have e : nd4 x = { nd3 x with br := x.br, bn := x.bn } := by unfold nd4; rw [hh, Bool.true_and, if_pos rfl]
      refine ⟨[.bool x.br, u8 x.bn], rfl, cells_sub (n := 5) (m := 2) hc, hgY, ?_⟩
      refine store_part (ttOk.get 168 _ rfl) hY.2.2 (o := 5) (v := .agg #[.bool x.br, u8 x.bn]) rfl (by show 5 + 2 ≤ 10; omega) rfl fun Z fZ gZ sZ => ?_
      exact ⟨(), ⟨.cons rfl (.cons rfl (.cons rfl .nil)), rfl⟩, turn _ _ Y Z hY gZ (by rw [e]; exact fZ)⟩
    · have hh : hasL x.op 8 = false := hh
      have e : nd4 x = nd3 x := by unfold nd4; rw [hh, Bool.false_and, if_neg (by decide)]; rfl
      exact ⟨(), ⟨.cons rfl (.cons rfl (.cons rfl .nil)), rfl⟩, by rw [e]; exact hY⟩
  clear hY Y
  rintro _ Y hY
  refine ⟨Unit, fun _ => ⟨[(0, .pointer (some ⟨g, 0, none⟩)), (2, .pointer (some ⟨r, 0, none⟩)), (3, .pointer (some ⟨r + 1, 0, none⟩))], []⟩, fun _ X => Good (nd5 x) X, ?_, ?_⟩
  · obtain ⟨hc, hGY, hgY⟩ := good _ Y hY
    refine Calls.mono (has_c 16 hc hop hGY) ?_
    rintro e _ ⟨rfl, rfl⟩
    refine And.intro (fun hh => ?_) (fun hh => ?_)
    · have hh : hasL x.op 16 = true := hh
      have e : nd5 x = { nd4 x with fn := x.fn } := by unfold nd5; rw [if_pos hh]
      refine ⟨_, cells_at hc (i := 7) rfl, ?_⟩
      refine store_cell (ttOk.get 5 _ rfl) rfl (hY.2.2) (o := 7) (by show 7 < 10; omega) (v := u8 x.fn) rfl rfl fun Z fZ gZ sZ => ?_
      exact ⟨(), ⟨.cons rfl (.cons rfl (.cons rfl .nil)), rfl⟩, turn _ _ Y Z hY gZ (by rw [e]; exact fZ)⟩
    · have hh : hasL x.op 16 = false := hh
      have e : nd5 x = nd4 x := by unfold nd5; rw [if_neg (by rw [hh]; decide)]; rfl
      exact ⟨(), ⟨.cons rfl (.cons rfl (.cons rfl .nil)), rfl⟩, by rw [e]; exact hY⟩
  clear hY Y
  rintro _ Y hY
  refine ⟨Unit, fun _ => ⟨[(0, .pointer (some ⟨g, 0, none⟩)), (2, .pointer (some ⟨r, 0, none⟩)), (3, .pointer (some ⟨r + 1, 0, none⟩))], []⟩, fun _ X => Good (nd6 x) X, ?_, ?_⟩
  · obtain ⟨hc, hGY, hgY⟩ := good _ Y hY
    refine Calls.mono (has_c 32 hc hop hGY) ?_
    rintro e _ ⟨rfl, rfl⟩
    refine And.intro (fun hh => ?_) (fun hh => ?_)
    · have hh : hasL x.op 32 = true := hh
      have e : nd6 x = { nd5 x with mode := x.mode } := by unfold nd6; rw [if_pos hh]
      refine ⟨_, cells_at hc (i := 8) rfl, ?_⟩
      refine store_cell (ttOk.get 5 _ rfl) rfl (hY.2.2) (o := 8) (by show 8 < 10; omega) (v := u8 x.mode) rfl rfl fun Z fZ gZ sZ => ?_
      exact ⟨(), ⟨.cons rfl (.cons rfl (.cons rfl .nil)), rfl⟩, turn _ _ Y Z hY gZ (by rw [e]; exact fZ)⟩
    · have hh : hasL x.op 32 = false := hh
      have e : nd6 x = nd5 x := by unfold nd6; rw [if_neg (by rw [hh]; decide)]; rfl
      exact ⟨(), ⟨.cons rfl (.cons rfl (.cons rfl .nil)), rfl⟩, by rw [e]; exact hY⟩
  clear hY Y
  rintro _ Y hY
  refine ⟨Unit, fun _ => ⟨[(0, .pointer (some ⟨g, 0, none⟩)), (2, .pointer (some ⟨r, 0, none⟩)), (3, .pointer (some ⟨r + 1, 0, none⟩))], []⟩, fun _ X => Good (nd7 x) X, ?_, ?_⟩
  · obtain ⟨hc, hGY, hgY⟩ := good _ Y hY
    refine Calls.mono (has_c 64 hc hop hGY) ?_
    rintro e _ ⟨rfl, rfl⟩
    refine And.intro (fun hh => ?_) (fun hh => ?_)
    · have hh : hasL x.op 64 = true := hh
      have e : nd7 x = { nd6 x with skip := x.skip } := by unfold nd7; rw [if_pos hh]
      refine ⟨_, cells_at hc (i := 9) rfl, ?_⟩
      refine store_cell (ttOk.get 5 _ rfl) rfl (hY.2.2) (o := 9) (by show 9 < 10; omega) (v := u8 x.skip) rfl rfl fun Z fZ gZ sZ => ?_
      exact ⟨(), ⟨.cons rfl (.cons rfl (.cons rfl .nil)), rfl⟩, turn _ _ Y Z hY gZ (by rw [e]; exact fZ)⟩
    · have hh : hasL x.op 64 = false := hh
      have e : nd7 x = nd6 x := by unfold nd7; rw [if_neg (by rw [hh]; decide)]; rfl
      exact ⟨(), ⟨.cons rfl (.cons rfl (.cons rfl .nil)), rfl⟩, by rw [e]; exact hY⟩
  clear hY Y
  rintro _ Y hY
  refine ⟨_, rfl, cells_block hY.2.2, hlt hY.2.2, ?_⟩
  refine store_box (v := .agg (insE.enc (nd7 x)).toArray) (ttOk.get 170 _ rfl) hY.2.1 rfl rfl rfl ?_
  refine ⟨_, rfl, cells_block (setRow_new hY.2.1), ?_⟩
  exact ⟨rfl, below_setRow hY.1 (by omega) _⟩
end Go.Proofs.YthgmcegmgjoafaaGreatDoor
namespace Go.Vc
open Go.RowKit
def chunk (cs : List Value) (o n : Nat) : List Value := (cs.drop o).take n
theorem chunk_add (cs : List Value) (o n m : Nat) : chunk cs o (n + m) = chunk cs o n ++ chunk cs (o + n) m := by
  unfold chunk; rw [List.take_add, List.drop_drop]
theorem chunk_len {cs : List Value} {o n : Nat} (h : o + n ≤ cs.length) : (chunk cs o n).length = n := by
  unfold chunk; rw [List.length_take, List.length_drop]; omega
def vOf (g : Bool) (a : List Value) : Value := match g with | true => .agg a.toArray | false => a.headD undef
structure TyEq (P : Program) (T : TypeId) (g : Bool) (n k : Nat) (G : List Value → Prop) : Prop where
  ag : ∀ w, (isAgg T).run P w = .ok g w
  info : ∃ i, P.info? T = some i
  cl : P.cellsOf T = n
  one : g = false → n = 1
  eq : ∀ d w a b, a.length = n → b.length = n → G a → G b → ∃ r : Bool, (Op.equalIn (d + k) T (vOf g a) (vOf g b)).run P w = .ok r w ∧ (r = true ↔ a = b)
section
variable {P : Program}
theorem TyEq.up {T : TypeId} {g : Bool} {n k : Nat} {G : List Value → Prop} (h : TyEq P T g n k G) (m : Nat) : TyEq P T g n (m + k) G :=
  ⟨h.ag, h.info, h.cl, h.one, fun d w a b h1 h2 h3 h4 => by have := h.eq (d + m) w a b h1 h2 h3 h4; rwa [Nat.add_assoc] at this⟩
theorem TyEq.part {T : TypeId} {g : Bool} {n k : Nat} {G : List Value → Prop} (h : TyEq P T g n k G) (xs : Array Value) (o : Nat) (hs : o + n ≤ xs.size) (w : World) : (Go.part T xs o).run P w = .ok (vOf g (chunk xs.toList o n)) w := by
  obtain ⟨i, hi⟩ := h.info
  have hsz := run_sizeOf w hi
  rw [h.cl] at hsz
  simp only [Go.part, Sem.run_bind, h.ag, Result.andThen_ok]
  cases g with
  | true =>
    simp only [if_true, Sem.run_bind, hsz, Result.andThen_ok, Sem.run_pure, vOf]
    congr 2
    apply Array.toList_inj.1
    simp [chunk, Array.toList_extract, List.extract_eq_take_drop]
  | false =>
    have h1 := h.one rfl
    subst h1
    have ho : o < xs.size := by omega
    simp only [Bool.false_eq_true, if_false, Array.getElem?_eq_getElem ho, Sem.run_pure, vOf]
    congr 1
    unfold chunk
    rw [List.drop_eq_getElem_cons (by simpa using ho)]
    simp
inductive Tile (P : Program) (k : Nat) : List Field → Nat → Nat → (List Value → Prop) → Prop
  | nil {s : Nat} : Tile P k [] s s (fun _ => True)
  | cons {f : Field} {fs : List Field} {s e n : Nat} {g : Bool} {G G' : List Value → Prop} (hn : f.name ≠ "_") (ho : f.offset = s) (ht : TyEq P f.type g n k G) (hr : Tile P k fs (s + n) e G') : Tile P k (f :: fs) s e (fun cs => G (cs.take n) ∧ G' (cs.drop n))
theorem Tile.le {k : Nat} {fs : List Field} {s e : Nat} {G : List Value → Prop} (h : Tile P k fs s e G) : s ≤ e := by
  induction h with
  | nil => exact Nat.le_refl _
  | cons _ _ _ _ ih => omega
theorem Tile.eq {k : Nat} {fs : List Field} {s e : Nat} {G : List Value → Prop} (h : Tile P k fs s e G) : ∀ (d : Nat) (xs ys : Array Value) (w : World), e ≤ xs.size → e ≤ ys.size → G (chunk xs.toList s (e - s)) → G (chunk ys.toList s (e - s)) →
    ∃ r : Bool, (Op.eqFields (d + k) xs ys fs).run P w = .ok r w ∧ (r = true ↔ chunk xs.toList s (e - s) = chunk ys.toList s (e - s)) := by
  induction h with
  | nil => intro d xs ys w _ _ _ _; exact ⟨true, rfl, by simp [chunk]⟩
  | @cons f fs s e n g G G' hn ho ht hr ih =>
    intro d xs ys w hx hy hgx hgy
    have hle := hr.le
    have e1 : e - s = n + (e - (s + n)) := by omega
    rw [e1, chunk_add] at hgx hgy
    rw [e1, chunk_add, chunk_add]
    have lx : (chunk xs.toList s n).length = n := chunk_len (by simp; omega)
    have ly : (chunk ys.toList s n).length = n := chunk_len (by simp; omega)
    obtain ⟨gx1, gx2⟩ := hgx
    obtain ⟨gy1, gy2⟩ := hgy
    rw [List.take_append_of_le_length (by omega), List.take_of_length_le (by omega)] at gx1 gy1
    rw [List.drop_append_of_le_length (by omega), List.drop_of_length_le (by omega), List.nil_append] at gx2 gy2
    obtain ⟨r1, h1, h2⟩ := ht.eq d w _ _ lx ly gx1 gy1
    obtain ⟨r2, h3, h4⟩ := ih d xs ys w hx hy gx2 gy2
    simp only [Op.eqFields, hn, ne_eq, not_false_eq_true, if_true, Sem.run_bind, ho, ht.part xs s (by omega) w, ht.part ys s (by omega) w, Result.andThen_ok, h1]
    have hap : (chunk xs.toList s n ++ chunk xs.toList (s + n) (e - (s + n)) = chunk ys.toList s n ++ chunk ys.toList (s + n) (e - (s + n))) ↔ (chunk xs.toList s n = chunk ys.toList s n ∧ chunk xs.toList (s + n) (e - (s + n)) = chunk ys.toList (s + n) (e - (s + n))) :=
      ⟨fun h => List.append_inj h (by rw [lx, ly]), fun h => by rw [h.1, h.2]⟩
    rw [hap, ← h2, ← h4]
    cases r1 with
    | true => exact ⟨r2, by simpa using h3, by simp⟩
    | false => exact ⟨false, by simp, by simp⟩
theorem TyEq.struct {T : TypeId} {k n : Nat} {G : List Value → Prop} (hu : P.underlying T = some (.struct (P.fieldsOf T))) (hp : P.stoodInHeld T = false) (hag : ∀ w, (isAgg T).run P w = .ok true w) (hi : ∃ i, P.info? T = some i) (hc : P.cellsOf T = n)
    (ht : Tile P k (P.fieldsOf T).toList 0 n G) : TyEq P T true n (k + 1) G :=
  ⟨hag, hi, hc, fun h => (by cases h), fun d w a b ha hb ga gb => by
    have e : ∀ l : List Value, l.length = n → chunk l.toArray.toList 0 (n - 0) = l := fun l hl => by
      unfold chunk; rw [List.drop_zero, Nat.sub_zero]; exact List.take_of_length_le (by show l.length ≤ n; omega)
    obtain ⟨r, h1, h2⟩ := ht.eq d a.toArray b.toArray w (by simp; omega) (by simp; omega) (by rw [e a ha]; exact ga) (by rw [e b hb]; exact gb)
    rw [e a ha, e b hb] at h2
    refine ⟨r, ?_, h2⟩
    have := run_equalIn_struct (P := P) w (d + k) T a.toArray b.toArray hu hp
    rw [← Nat.add_assoc]
    exact this.trans h1⟩
theorem chunks_eq {n m : Nat} (hn : 0 < n) {a b : List Value} (ha : a.length = m * n) (hb : b.length = m * n) (h : ∀ i, i < m → chunk a (i * n) n = chunk b (i * n) n) : a = b := by
  apply List.ext_getElem?
  intro j
  by_cases hj : j < m * n
  · have hd : j / n < m := Nat.div_lt_of_lt_mul (by rw [Nat.mul_comm]; exact hj)
    have h1 := congrArg (fun l => l[j % n]?) (h _ hd)
    simp only [chunk, List.getElem?_take, if_pos (Nat.mod_lt j hn), List.getElem?_drop] at h1
    rw [Nat.mul_comm, Nat.div_add_mod] at h1
    exact h1
  · rw [List.getElem?_eq_none (by omega), List.getElem?_eq_none (by omega)]
theorem TyEq.array {T e : TypeId} {g : Bool} {n k m : Nat} {G : List Value → Prop} (hn : 0 < n) (hu : P.underlying T = some (.array m e)) (hag : ∀ w, (isAgg T).run P w = .ok true w) (hi : ∃ i, P.info? T = some i) (hc : P.cellsOf T = m * n) (ht : TyEq P e g n k G) :
    TyEq P T true (m * n) (k + 1) (fun cs => ∀ i, i < m → G (chunk cs (i * n) n)) :=
  ⟨hag, hi, hc, fun h => (by cases h), fun d w a b ha hb ga gb => by
    obtain ⟨ie, hie⟩ := ht.info
    have key : ∀ is : List Nat, (∀ i ∈ is, i < m) → ∃ r : Bool, (Op.eqItems (d + k) e n a.toArray b.toArray is).run P w = .ok r w ∧ (r = true ↔ ∀ i ∈ is, chunk a (i * n) n = chunk b (i * n) n) := by
      intro is
      induction is with
      | nil => intro _; exact ⟨true, rfl, by simp⟩
      | cons i is ih =>
        intro him
        have hi := him i List.mem_cons_self
        have hle : i * n + n ≤ m * n := by rw [← Nat.succ_mul]; exact Nat.mul_le_mul_right _ hi
        obtain ⟨r2, h3, h4⟩ := ih fun j hj => him j (List.mem_cons_of_mem _ hj)
        obtain ⟨r1, h1, h2⟩ := ht.eq d w (chunk a (i * n) n) (chunk b (i * n) n) (chunk_len (by omega)) (chunk_len (by omega)) (ga i hi) (gb i hi)
        have p1 := ht.part a.toArray (i * n) (by simp; omega) w
        have p2 := ht.part b.toArray (i * n) (by simp; omega) w
        have ea : a.toArray.toList = a := rfl
        have eb : b.toArray.toList = b := rfl
        rw [ea] at p1
        rw [eb] at p2
        simp only [Op.eqItems, Sem.run_bind, p1, p2, Result.andThen_ok, h1]
        cases r1 with
        | true =>
          refine ⟨r2, by simpa using h3, ?_⟩
          rw [h4]
          have := h2.1 rfl
          simp [this]
        | false =>
          refine ⟨false, by simp, ?_⟩
          simp only [Bool.false_eq_true, false_iff]
          intro h
          have := h2.2 (h i List.mem_cons_self)
          cases this
    obtain ⟨r, h1, h2⟩ := key (List.range m) fun i hi => List.mem_range.1 hi
    refine ⟨r, ?_, ?_⟩
    · have := run_equalIn_array (P := P) w (d + k) a.toArray b.toArray hu hie
      rw [ht.cl] at this
      rw [← Nat.add_assoc]
      exact this.trans h1
    · rw [h2]
      exact ⟨fun h => chunks_eq hn ha hb fun i hi => h i (List.mem_range.2 hi), fun h i _ => by rw [h]⟩⟩
theorem TyEq.int {T : TypeId} {q : IntKind} (hu : P.underlying T = some (.int q)) (hag : ∀ w, (isAgg T).run P w = .ok false w) (hi : ∃ i, P.info? T = some i) (hc : P.cellsOf T = 1) : TyEq P T false 1 1 (fun cs => ∃ x, cs = [.int q x]) :=
  ⟨hag, hi, hc, fun _ => rfl, fun d w a b _ _ ⟨x, hx⟩ ⟨y, hy⟩ => by
    subst hx hy
    refine ⟨decide (x = y), ?_, by simp⟩
    simp only [vOf, List.headD_cons, Op.equalIn, Sem.run_bind, run_underlying hu, Result.andThen_ok, if_true, Sem.run_pure]
    congr 1⟩
theorem TyEq.bool {T : TypeId} (hu : P.underlying T = some .bool) (hag : ∀ w, (isAgg T).run P w = .ok false w) (hi : ∃ i, P.info? T = some i) (hc : P.cellsOf T = 1) : TyEq P T false 1 1 (fun cs => ∃ x, cs = [.bool x]) :=
  ⟨hag, hi, hc, fun _ => rfl, fun d w a b _ _ ⟨x, hx⟩ ⟨y, hy⟩ => by
    subst hx hy
    refine ⟨x == y, ?_, by simp⟩
    simp only [vOf, List.headD_cons, Op.equalIn, Sem.run_bind, run_underlying hu, Result.andThen_ok, Sem.run_pure]⟩
end
end Go.Vc
namespace Go.Proofs.YthgmcegmgjoafaaGreatDoor
open Go.Vc Go.RowKit Go.Sei
def GInt (q : IntKind) (cs : List Value) : Prop := ∃ x, cs = [.int q x]
def GBool (cs : List Value) : Prop := ∃ x, cs = [.bool x]
def GArr (m n : Nat) (G : List Value → Prop) (cs : List Value) : Prop := ∀ i, i < m → G (chunk cs (i * n) n)
theorem tU8 : TyEq Tryz.prog 5 false 1 1 (GInt .u8) := .int Tryz.underlying5 (fun w => Tryz.isAgg5 w) (known_of (by kernel_rfl) (by kernel_rfl)).1 (by kernel_rfl)
theorem tBool : TyEq Tryz.prog 4 false 1 1 GBool := .bool Tryz.underlying4 (fun w => Tryz.isAgg4 w) (known_of (by kernel_rfl) (by kernel_rfl)).1 (by kernel_rfl)
theorem uf {T : TypeId} {F : Array Field} (h : Tryz.prog.underlying T = some (.struct F)) : Tryz.prog.underlying T = some (.struct (Tryz.prog.fieldsOf T)) ∧ Tryz.prog.fieldsOf T = F := by
  have : Tryz.prog.fieldsOf T = F := by unfold Program.fieldsOf; rw [h]
  exact ⟨by rw [this]; exact h, this⟩
open Classical in
noncomputable def cdec (p : Prop) : Bool := decide p
theorem cdec_eq {p : Prop} [h : Decidable p] : cdec p = decide p := by unfold cdec; congr
theorem cdec_iff {p q : Prop} [Decidable q] (h : p ↔ q) : cdec p = decide q := by
  have : p = q := propext h
  subst this
  exact cdec_eq
section
variable {T : TypeId} {n k : Nat} {G : List Value → Prop} (h : TyEq Tryz.prog T true n k G) (d : Nat) (hd : d + k = 10000) (hg : Tryz.prog.eqGuardType Tryz.prog.depth T = false) {a b : List Value} (ha : a.length = n) (hb : b.length = n) (ga : G a) (gb : G b)
include h hd hg ha hb ga gb
omit hg in
theorem equal_ty (w : World) : (Op.equal T (.agg a.toArray) (.agg b.toArray)).run Tryz.prog w = .ok (cdec (a = b)) w := by
  obtain ⟨r, h1, h2⟩ := h.eq d w a b ha hb ga gb
  have e : r = cdec (a = b) := by
    unfold cdec
    cases r with
    | true => simp [h2.1 rfl]
    | false =>
      have : ¬ a = b := fun e => by have := h2.2 e; cases this
      simp [this]
  rw [hd] at h1
  rw [← e]
  exact h1
theorem neq_ty (x y : Operand) (w : World) : (do eqGuard .neq T x y (.agg a.toArray) (.agg b.toArray); binOp .neq T (.agg a.toArray) (.agg b.toArray)).run Tryz.prog w = .ok (.bool (!cdec (a = b))) w := by
  have he := equal_ty h d hd ha hb ga gb w
  have h1 : (eqGuard .neq T x y (.agg a.toArray) (.agg b.toArray)).run Tryz.prog w = .ok () w := by
    simp only [eqGuard, Bool.not_true, Bool.false_eq_true, if_false, Sem.run_bind, run_program, Result.andThen_ok, hg, Bool.not_false, if_true, Sem.run_pure]
  rw [Sem.run_bind, h1]
  simp only [Result.andThen_ok, binOp, Sem.run_bind, he, Sem.run_pure]
theorem eql_ty (x y : Operand) (w : World) : (do eqGuard .eql T x y (.agg a.toArray) (.agg b.toArray); binOp .eql T (.agg a.toArray) (.agg b.toArray)).run Tryz.prog w = .ok (.bool (cdec (a = b))) w := by
  have he := equal_ty h d hd ha hb ga gb w
  have h1 : (eqGuard .eql T x y (.agg a.toArray) (.agg b.toArray)).run Tryz.prog w = .ok () w := by
    simp only [eqGuard, Bool.not_true, Bool.false_eq_true, if_false, Sem.run_bind, run_program, Result.andThen_ok, hg, Bool.not_false, if_true, Sem.run_pure]
  rw [Sem.run_bind, h1]
  simp only [Result.andThen_ok, binOp, Sem.run_bind, he, Sem.run_pure]
end
end Go.Proofs.YthgmcegmgjoafaaGreatDoor
namespace Go.Proofs.YthgmcegmgjoafaaGreatDoor
open Go.Vc Go.RowKit Go.Sei
theorem tArg : ∃ G, TyEq Tryz.prog 168 true 2 2 G ∧ ∀ r n, G [.bool r, u8 n] := by
  refine ⟨_, .struct (uf Tryz.underlying168).1 (by kernel_rfl) (fun w => Tryz.isAgg168 w) (known_of (by kernel_rfl) (by kernel_rfl)).1 (by kernel_rfl)
    (by rw [(uf Tryz.underlying168).2]; exact .cons (by decide) rfl tBool (.cons (by decide) rfl tU8 .nil)), fun r n => ?_⟩
  exact ⟨⟨_, rfl⟩, ⟨_, rfl⟩, trivial⟩
theorem tIns : ∃ G, TyEq Tryz.prog 170 true 10 3 G ∧ ∀ x, G (insE.enc x) := by
  obtain ⟨G, h1, h2⟩ := tArg
  refine ⟨_, .struct (uf Tryz.underlying170).1 (by kernel_rfl) (fun w => Tryz.isAgg170 w) (known_of (by kernel_rfl) (by kernel_rfl)).1 (by kernel_rfl)
    (by rw [(uf Tryz.underlying170).2]; exact .cons (by decide) rfl (tU8.up 1) (.cons (by decide) rfl (tU8.up 1) (.cons (by decide) rfl (tU8.up 1) (.cons (by decide) rfl h1 (.cons (by decide) rfl h1 (.cons (by decide) rfl (tU8.up 1) (.cons (by decide) rfl (tU8.up 1) (.cons (by decide) rfl (tU8.up 1) .nil)))))))), fun x => ?_⟩
  exact ⟨⟨_, rfl⟩, ⟨_, rfl⟩, ⟨_, rfl⟩, h2 _ _, h2 _ _, ⟨_, rfl⟩, ⟨_, rfl⟩, ⟨_, rfl⟩, trivial⟩
theorem u8v_inj {a b : UInt8} (h : u8 a = u8 b) : a = b := by
  unfold u8 at h
  simp only [Value.int.injEq, true_and] at h
  exact u8_eq.1 h
theorem ins_inj {a b : InsD} : insE.enc a = insE.enc b ↔ a = b := by
  constructor
  · intro h
    obtain ⟨a0, a1, a2, a3, a4, a5, a6, a7, a8, a9⟩ := a
    obtain ⟨b0, b1, b2, b3, b4, b5, b6, b7, b8, b9⟩ := b
    simp only [insE, List.cons.injEq, and_true, Value.bool.injEq] at h
    obtain ⟨h0, h1, h2, rfl, h4, rfl, h6, h7, h8, h9⟩ := h
    rw [u8v_inj h0, u8v_inj h1, u8v_inj h2, u8v_inj h4, u8v_inj h6, u8v_inj h7, u8v_inj h8, u8v_inj h9]
  · exact fun h => by rw [h]
theorem eql_ins (x y : Operand) (a b : InsD) (w : World) : (do eqGuard .eql 170 x y (.agg (insE.enc a).toArray) (.agg (insE.enc b).toArray); binOp .eql 170 (.agg (insE.enc a).toArray) (.agg (insE.enc b).toArray)).run Tryz.prog w = .ok (.bool (decide (a = b))) w := by
  obtain ⟨G, h, hG⟩ := tIns
  rw [eql_ty h 9997 rfl (by kernel_rfl) rfl rfl (hG a) (hG b) x y w, cdec_iff ins_inj]
structure SpV (X : World) (g bx : Nat) (x : InsD) (locs after : Nat) : Prop where
  c : X.heap[g]? = some (.cells (spC x locs after).toArray 327 (0, 0))
  b : X.heap[bx]? = some (.cells #[.pointer (some ⟨g, 0, none⟩)] 341 (0, 0))
  G : GlobC X
theorem SpV.below {X Y : World} {g bx locs after : Nat} {x : InsD} (h : SpV X g bx x locs after) (hb : Below X.heap.size X Y) : SpV Y g bx x locs after := ⟨block_below hb h.c, block_below hb h.b, h.G.below hb⟩
theorem SpV.cells {X : World} {g bx locs after : Nat} {x : InsD} (h : SpV X g bx x locs after) : Cells X ⟨g, 0, none⟩ (spC x locs after) := cells_block h.c
section
variable {g bx locs after : Nat} {x : InsD} {w : World}
theorem cond1_c (h : SpV w g bx x locs after) : Calls Tryz.prog 247 #[.pointer (some ⟨bx, 0, none⟩)] w fun e w' => e = .returned (.bool (decide (1 ≤ x.op.toNat) && decide (x.op.toNat ≤ 8))) ∧ Below w.heap.size w w' := by
  refine calls_of_E (S := sg 16) (sgOk _) (args := [.pointer (some ⟨bx, 0, none⟩)]) Tryz.func247 rfl rfl (Nat.le_of_ble_eq_true rfl) rfl ?_
  refine ⟨_, cells_at (cells_block h.b) (i := 0) rfl, ?_⟩
  refine ⟨_, cells_at h.cells (i := 0) rfl, ?_⟩
  refine And.intro (fun h1 => ?_) (fun h1 => ?_)
  · have h1 : (1 : Int) ≤ x.op.toNat := of_decide_eq_true h1
    refine ⟨_, cells_at (cells_block h.b) (i := 0) rfl, ?_⟩
    refine ⟨_, cells_at h.cells (i := 0) rfl, ?_⟩
    refine ⟨rb ?_, Below.refl _ _⟩
    rw [decide_eq_true (p := 1 ≤ x.op.toNat) (by omega), Bool.true_and, decide_eq_decide]
    show (x.op.toNat : Int) ≤ 8 ↔ _
    omega
  · have h1 : ¬ (1 : Int) ≤ x.op.toNat := of_decide_eq_false h1
    refine ⟨rb ?_, Below.refl _ _⟩
    rw [decide_eq_false (p := 1 ≤ x.op.toNat) (by omega)]; rfl
theorem cond2_c (h : SpV w g bx x locs after) (hop : x.op.toNat ≤ 8) : Calls Tryz.prog 248 #[.pointer (some ⟨bx, 0, none⟩)] w fun e w' => e = .returned (.bool (decide (x = neededL x))) ∧ Below w.heap.size w w' := by
  refine calls_of_E (S := sg 9) (sgOk _) (args := [.pointer (some ⟨bx, 0, none⟩)]) Tryz.func248 rfl rfl (Nat.le_of_ble_eq_true rfl) rfl ?_
  have hd : SpV w.drew g bx x locs after := h.below (Below.refl _ w).drew
  refine DrawE.ord [] [0, 1, 2, 3, 4, 5, 6, 7] (by kernel_rfl) ?_
  refine ⟨_, cells_at (cells_block hd.b) (i := 0) rfl, ?_⟩
  refine ⟨insE.enc x, rfl, cells_sub (n := 0) (m := 10) hd.cells, hlt hd.c, ?_⟩
  refine ⟨_, cells_at (cells_block hd.b) (i := 0) rfl, ?_⟩
  refine Calls.mono (needed_c hd.cells (hlt hd.c) hop hd.G) ?_
  rintro e V ⟨rfl, hb⟩
  refine ⟨hb, ?_⟩
  refine ⟨_, fun w => eql_ins _ _ x (neededL x) w, ?_⟩
  exact ⟨rfl, (Below.refl _ w).drew.trans hb⟩
theorem cond3_c (h : SpV w g bx x locs after) : Calls Tryz.prog 250 #[.pointer (some ⟨bx, 0, none⟩)] w fun e w' => e = .returned (.bool (decide (x.dst.toNat < 8))) ∧ Below w.heap.size w w' := by
  refine calls_of_E (S := sg 8) (sgOk _) (args := [.pointer (some ⟨bx, 0, none⟩)]) Tryz.func250 rfl rfl (Nat.le_of_ble_eq_true rfl) rfl ?_
  refine ⟨_, cells_at (cells_block h.b) (i := 0) rfl, ?_⟩
  refine ⟨_, cells_at h.cells (i := 1) rfl, ?_⟩
  refine ⟨rb ?_, Below.refl _ _⟩
  show decide ((x.dst.toNat : Int) < 8) = _
  rw [decide_eq_decide]; omega
theorem cond4_c (h : SpV w g bx x locs after) (hop : x.op.toNat ≤ 8) : Calls Tryz.prog 251 #[.pointer (some ⟨bx, 0, none⟩)] w fun e w' => e = .returned (.bool (!hasL x.op 2 || decide (x.loc.toNat < locs))) ∧ Below w.heap.size w w' := by
  refine calls_of_E (S := sg 18) (sgOk _) (args := [.pointer (some ⟨bx, 0, none⟩)]) Tryz.func251 rfl rfl (Nat.le_of_ble_eq_true rfl) rfl ?_
  have hd : SpV w.drew g bx x locs after := h.below (Below.refl _ w).drew
  refine DrawE.ord [] [0, 1, 2, 3, 4, 5, 6, 7, 8, 9, 10, 11, 12, 13, 14, 15, 16] (by kernel_rfl) ?_
  refine ⟨_, cells_at (cells_block hd.b) (i := 0) rfl, ?_⟩
  refine Calls.mono (has_c 2 hd.cells hop hd.G) ?_
  rintro e _ ⟨rfl, rfl⟩
  refine ⟨Below.refl _ _, ?_⟩
  refine And.intro (fun h1 => ?_) (fun h1 => ?_)
  · have h1 : (!hasL x.op 2) = true := h1
    exact ⟨rb (by rw [h1]; rfl), (Below.refl _ w).drew⟩
  · have h1 : (!hasL x.op 2) = false := h1
    refine ⟨_, cells_at (cells_block hd.b) (i := 0) rfl, ?_⟩
    refine ⟨_, cells_at hd.cells (i := 2) rfl, ?_⟩
    refine ⟨_, wrap_u8_i64 _, ?_⟩
    refine ⟨_, cells_at (cells_block hd.b) (i := 0) rfl, ?_⟩
    refine ⟨_, cells_at hd.cells (i := 10) rfl, ?_⟩
    refine ⟨rb ?_, (Below.refl _ w).drew⟩
    rw [h1, Bool.false_or, decide_eq_decide]
    omega
theorem cond5_c (h : SpV w g bx x locs after) : Calls Tryz.prog 253 #[.pointer (some ⟨bx, 0, none⟩)] w fun e w' => e = .returned (.bool (argL x.ar x.an && argL x.br x.bn)) ∧ Below w.heap.size w w' := by
  refine calls_of_E (S := sg 16) (sgOk _) (args := [.pointer (some ⟨bx, 0, none⟩)]) Tryz.func253 rfl rfl (Nat.le_of_ble_eq_true rfl) rfl ?_
  refine ⟨_, cells_at (cells_block h.b) (i := 0) rfl, ?_⟩
  refine ⟨[.bool x.ar, u8 x.an], rfl, cells_sub (n := 3) (m := 2) h.cells, hlt h.c, ?_⟩
  refine Calls.mono (argRight_c x.ar x.an w) ?_
  rintro e V ⟨rfl, hb⟩
  have hV := h.below hb
  refine And.intro (fun h1 => ?_) (fun h1 => ?_)
  · have h1 : argL x.ar x.an = true := h1
    refine ⟨_, cells_at (cells_block hV.b) (i := 0) rfl, ?_⟩
    refine ⟨[.bool x.br, u8 x.bn], rfl, cells_sub (n := 5) (m := 2) hV.cells, hlt hV.c, ?_⟩
    refine Calls.mono (argRight_c x.br x.bn V) ?_
    rintro e U ⟨rfl, hb2⟩
    exact ⟨rb (by rw [h1, Bool.true_and]), hb.trans (hb2.mono hb.size)⟩
  · have h1 : argL x.ar x.an = false := h1
    exact ⟨rb (by rw [h1, Bool.false_and]), hb⟩
theorem cond8_c (h : SpV w g bx x locs after) (hop : x.op.toNat ≤ 8) : Calls Tryz.prog 257 #[.pointer (some ⟨bx, 0, none⟩)] w fun e w' => e = .returned (.bool (!hasL x.op 64 || (decide (1 ≤ x.skip.toNat) && decide (x.skip.toNat ≤ after)))) ∧ Below w.heap.size w w' := by
  refine calls_of_E (S := sg 26) (sgOk _) (args := [.pointer (some ⟨bx, 0, none⟩)]) Tryz.func257 rfl rfl (Nat.le_of_ble_eq_true rfl) rfl ?_
  have hd : SpV w.drew g bx x locs after := h.below (Below.refl _ w).drew
  refine DrawE.ord [] [0, 1, 2, 3, 4, 5, 6, 7, 8, 9, 10, 11, 12, 13, 14, 15, 16, 17, 18, 19, 20, 21, 22, 23, 24] (by kernel_rfl) ?_
  refine ⟨_, cells_at (cells_block hd.b) (i := 0) rfl, ?_⟩
  refine Calls.mono (has_c 64 hd.cells hop hd.G) ?_
  rintro e _ ⟨rfl, rfl⟩
  refine ⟨Below.refl _ _, ?_⟩
  refine And.intro (fun h1 => ?_) (fun h1 => ?_)
  · have h1 : (!hasL x.op 64) = true := h1
    exact ⟨rb (by rw [h1]; rfl), (Below.refl _ w).drew⟩
  · have h1 : (!hasL x.op 64) = false := h1
    rw [h1, Bool.false_or]
    refine ⟨_, cells_at (cells_block hd.b) (i := 0) rfl, ?_⟩
    refine ⟨_, cells_at hd.cells (i := 9) rfl, ?_⟩
    refine And.intro (fun h2 => ?_) (fun h2 => ?_)
    · have h2 : (1 : Int) ≤ x.skip.toNat := of_decide_eq_true h2
      refine ⟨_, cells_at (cells_block hd.b) (i := 0) rfl, ?_⟩
      refine ⟨_, cells_at hd.cells (i := 9) rfl, ?_⟩
      refine ⟨_, wrap_u8_i64 _, ?_⟩
      refine ⟨_, cells_at (cells_block hd.b) (i := 0) rfl, ?_⟩
      refine ⟨_, cells_at hd.cells (i := 11) rfl, ?_⟩
      refine ⟨rb ?_, (Below.refl _ w).drew⟩
      rw [decide_eq_true (p := 1 ≤ x.skip.toNat) (by omega), Bool.true_and, decide_eq_decide]
      omega
    · have h2 : ¬ (1 : Int) ≤ x.skip.toNat := of_decide_eq_false h2
      refine ⟨rb ?_, (Below.refl _ w).drew⟩
      rw [decide_eq_false (p := 1 ≤ x.skip.toNat) (by omega)]; rfl
end
end Go.Proofs.YthgmcegmgjoafaaGreatDoor
namespace Go.Proofs.YthgmcegmgjoafaaGreatDoor
open Go.Vc Go.RowKit Go.Sei
def condFs (g bx : Nat) : List Value := [.func (.func 247) #[] #[.pointer (some ⟨bx, 0, none⟩)], .func (.func 248) #[] #[.pointer (some ⟨bx, 0, none⟩)], .func (.func 250) #[] #[.pointer (some ⟨bx, 0, none⟩)],
  .func (.func 251) #[] #[.pointer (some ⟨bx, 0, none⟩)], .func (.func 253) #[] #[.pointer (some ⟨bx, 0, none⟩)], .func (.func 255) #[.pointer (some ⟨g, 0, none⟩)] #[], .func (.func 256) #[.pointer (some ⟨g, 0, none⟩)] #[],
  .func (.func 257) #[] #[.pointer (some ⟨bx, 0, none⟩)]]
theorem conds_c {g : Nat} {w : World} : Calls Tryz.prog 236 #[.pointer (some ⟨g, 0, none⟩)] w fun e w' => e = .returned (.slice (some ⟨w.heap.size + 1, 0, none⟩) 8 8) ∧
    w'.heap[w.heap.size]? = some (.cells #[.pointer (some ⟨g, 0, none⟩)] 341 (0, 0)) ∧ w'.heap[w.heap.size + 1]? = some (.cells (condFs g w.heap.size).toArray 49 (0, 0)) ∧ w'.heap.size = w.heap.size + 2 ∧ Below w.heap.size w w' := by
  refine calls_of_E (S := sg 14) (sgOk _) (args := [.pointer (some ⟨g, 0, none⟩)]) Tryz.func236 rfl rfl (Nat.le_of_ble_eq_true rfl) rfl ?_
  obtain ⟨W, hW⟩ : ∃ W, W = w.alloc (.cells #[.pointer (some ⟨g, 0, none⟩)] 341) := ⟨_, rfl⟩
  have hb : W.heap[w.heap.size]? = some (.cells #[.pointer (some ⟨g, 0, none⟩)] 341 (0, 0)) := by rw [hW]; exact hnew w _
  have hs : W.heap.size = w.heap.size + 1 := by rw [hW, World.size_alloc]
  have hbb : Below w.heap.size w W := by rw [hW]; exact (Below.refl _ w).alloc (Nat.le_refl _) _
  refine ⟨_, cells_at (cells_block (hnew w _)) (i := 0) rfl, ?_⟩
  refine ⟨_, cells_at (cells_block (hnew w _)) (i := 0) rfl, ?_⟩
  refine ⟨⟨by decide, by decide, rfl⟩, condFs g w.heap.size, rfl, ?_⟩
  have hs1 := World.size_alloc w (.cells #[.pointer (some ⟨g, 0, none⟩)] 341)
  refine ⟨?_, ?_, ?_, ?_, ?_⟩
  · show Ending.returned (.slice (some ⟨(w.alloc (.cells #[.pointer (some ⟨g, 0, none⟩)] 341)).heap.size, 0, none⟩) 8 8) = _
    rw [hs1]
  · exact hold _ (hnew w _)
  · rw [← hs1]; exact hnew _ _
  · rw [World.size_alloc, World.size_alloc]
  · exact ((Below.refl _ w).alloc (Nat.le_refl _) _).alloc (by simp) _
structure ThI (X : World) (L : Nat) (x : InsD) (locs after : Nat) : Prop where
  c : X.heap[L]? = some (.cells (spC x locs after).toArray 327 (0, 0))
  b : X.heap[L + 1]? = some (.cells #[.pointer (some ⟨L, 0, none⟩)] 341 (0, 0))
  s : X.heap[L + 2]? = some (.cells (condFs L (L + 1)).toArray 49 (0, 0))
theorem ThI.below {X Y : World} {L : Nat} {x : InsD} {locs after : Nat} (h : ThI X L x locs after) (hb : Below X.heap.size X Y) : ThI Y L x locs after := ⟨block_below hb h.c, block_below hb h.b, block_below hb h.s⟩
def ins0 : InsD := ⟨0, 0, 0, false, 0, false, 0, 0, 0, 0⟩
theorem all_take {l : List Bool} : ∀ {n : Nat}, (∀ j, j < n → l[j]? = some true) → n = l.length → l.all id = true := by
  intro n h e
  rw [List.all_eq_true]
  intro b hb
  obtain ⟨j, hj, rfl⟩ := List.getElem_of_mem hb
  have := h j (by omega)
  rw [List.getElem?_eq_getElem hj] at this
  exact Option.some.inj this
theorem all_no {l : List Bool} {j : Nat} (h : l[j]? = some false) : l.all id = false := by
  rw [List.all_eq_false]
  obtain ⟨hj, e⟩ := List.getElem?_eq_some_iff.1 h
  exact ⟨l[j], List.getElem_mem _, by rw [e]; decide⟩
theorem fin_no {l : List InsD} {k locs : Nat} (hkl : k < l.length) {i : Nat} (h : (insC l[k] locs (l.length - 1 - k))[i]? = some false) {w X : World} (hb : Below w.heap.size w X) :
    Ending.returned (.bool false) = .returned (.bool (threadB l locs)) ∧ Below w.heap.size w X := by
  refine ⟨rb ?_, hb⟩
  symm
  unfold threadB
  rw [Bool.and_eq_false_iff]
  refine .inr ?_
  rw [List.all_eq_false]
  refine ⟨k, List.mem_range.2 hkl, ?_⟩
  rw [List.getElem?_eq_getElem hkl]
  show ¬ insB l[k] locs (l.length - 1 - k) = true
  unfold insB
  rw [all_no h]; simp
theorem Thread_c {p : Option Addr} {cap locs : Nat} {l : List InsD} {w : World} (hl : SlR insE w p l) (hG : GlobC w) (hn : l.length ≤ 140737488351232) :
    Calls Tryz.prog 212 #[.slice p l.length cap, i64 locs] w fun e w' => e = .returned (.bool (threadB l locs)) ∧ Below w.heap.size w w' := by
  refine calls_of_E (S := sg 43) (sgOk _) (args := [.slice p l.length cap, i64 locs]) Tryz.func212 rfl rfl (Nat.le_of_ble_eq_true rfl) rfl ?_
  obtain ⟨L, hL⟩ : ∃ L, L = w.heap.size := ⟨_, rfl⟩
  refine And.intro (fun h => ?_) (fun h => ?_)
  · have h : (12 : Int) < l.length := of_decide_eq_true h
    exact ⟨rb (by unfold threadB; rw [decide_eq_false (by omega)]; rfl), Below.refl _ _⟩
  have h12 : ¬ (12 : Int) < l.length := of_decide_eq_false h
  refine ⟨spC ins0 locs 0, rfl, ?_⟩
  refine store_new (X := w) (v := .agg (spC ins0 locs 0).toArray) (ttOk.get 327 _ rfl) rfl rfl rfl fun V hbV fV sV => ?_
  refine Calls.mono conds_c ?_
  rintro e W0 ⟨rfl, hbx, hsl, hsz, hb0⟩
  rw [sV, ← hL] at hsz hbx hsl
  have hI0 : ThI W0 L ins0 locs 0 := ⟨hL ▸ block_below hb0 fV, hbx, hsl⟩
  have hbw : Below w.heap.size w W0 := hbV.trans (hb0.mono hbV.size)
  have p1 : some (Value.pointer (some ⟨w.heap.size, 0, none⟩)) = some (Value.pointer (some ⟨L, 0, none⟩)) := by rw [hL]
  have p2 : some (Value.slice (some ⟨V.heap.size + 1, 0, none⟩) 8 8) = some (Value.slice (some ⟨L + 2, 0, none⟩) 8 8) := by rw [sV, hL]
  clear hbx hsl fV sV hb0 hbV
  refine ⟨Nat, fun k => ⟨[(0, .slice p l.length cap), (1, i64 locs), (5, .pointer (some ⟨L, 0, none⟩)), (6, .slice (some ⟨L + 2, 0, none⟩) 8 8), (17, .slice p l.length cap), (18, i64 l.length), (19, i64 (k : Nat))], []⟩,
    fun k X => k ≤ l.length ∧ (∀ i, i < k → ∀ x, l[i]? = some x → insB x locs (l.length - 1 - i) = true) ∧ (∃ x aft, ThI X L x locs aft) ∧ Below w.heap.size w X, fun k => l.length - k, 0,
    ⟨.cons rfl (.cons rfl (.cons p1 (.cons p2 (.cons rfl (.cons rfl (.cons rfl .nil)))))), rfl⟩, ⟨Nat.zero_le _, fun i hi => by omega, ⟨ins0, 0, hI0⟩, hbw⟩, ?_⟩
  rintro k X ⟨hk, hdone, ⟨x0, a0, hI⟩, hbX⟩
  dsimp only at hk hdone ⊢
  refine And.intro (fun hc => ?_) (fun hc => ?_)
  · have hc : (k : Int) < (l.length : Int) := of_decide_eq_true hc
    have hkl : k < l.length := by omega
    obtain ⟨b, o, rfl, hbl, hat⟩ := hl.at hkl
    refine ⟨k, rfl, hkl, ?_⟩
    have hx := hat k hkl
    refine ⟨insE.enc l[k], rfl, cells_belowB hbX hbl hx, Nat.lt_of_lt_of_le hbl hbX.size, ?_⟩
    refine store_new (X := X) (v := .agg (insE.enc l[k]).toArray) (ttOk.get 170 _ rfl) rfl rfl rfl fun Y hbY fY sY => ?_
    refine ⟨insE.enc l[k], rfl, cells_block fY, hlt fY, ?_⟩
    refine ⟨((l.length - 1 : Nat) : Int), (wrap_i64 (by omega)).trans (by omega), ?_⟩
    refine ⟨((l.length - 1 - k : Nat) : Int), (wrap_i64 (by omega)).trans (by omega), ?_⟩
    have hY := hI.below hbY
    refine store_part (ttOk.get 170 _ rfl) hY.c (o := 0) (v := .agg (insE.enc l[k]).toArray) rfl (by show 0 + 10 ≤ 12; omega) rfl fun Z fZ gZ sZ => ?_
    refine store_part (ttOk.get 3 _ rfl) fZ (o := 11) (v := i64 (l.length - 1 - k : Nat)) rfl (by show 11 + 1 ≤ 12; omega) rfl fun U fU gU sU => ?_
    have hIU : ThI U L l[k] locs (l.length - 1 - k) := ⟨fU, (gU.block _ (by have := hlt hY.b; omega) (by simp)).trans ((gZ.block _ (hlt hY.b) (by simp)).trans hY.b), (gU.block _ (by have := hlt hY.s; omega) (by simp)).trans ((gZ.block _ (hlt hY.s) (by simp)).trans hY.s)⟩
    have hbU : Below w.heap.size w U := by
      have h1 : Below w.heap.size w Y := hbX.trans (hbY.mono hbX.size)
      have h2 : ∀ (A B : World), Below w.heap.size w A → A.grownBy B (some L) → Below w.heap.size w B := fun A B ha hg => ha.trans ⟨hg.os, hg.tape, hg.output, hg.size, fun j hj => hg.block j (Nat.lt_of_lt_of_le hj ha.size) (by simp; omega)⟩
      exact h2 _ _ (h2 _ _ h1 gZ) gU
    refine ⟨Nat, fun j => ⟨[(0, .slice (some ⟨b, o, none⟩) l.length cap), (1, i64 locs), (5, .pointer (some ⟨L, 0, none⟩)), (6, .slice (some ⟨L + 2, 0, none⟩) 8 8), (17, .slice (some ⟨b, o, none⟩) l.length cap), (18, i64 l.length), (19, i64 (k : Nat)), (32, .slice (some ⟨L + 2, 0, none⟩) 8 8), (33, i64 8), (34, i64 (j : Nat))], []⟩,
      fun j X => j ≤ 8 ∧ (∀ i, i < j → (insC l[k] locs (l.length - 1 - k))[i]? = some true) ∧ ThI X L l[k] locs (l.length - 1 - k) ∧ Below w.heap.size w X, fun j => 8 - j, 0,
      ⟨.cons rfl (.cons rfl (.cons rfl (.cons rfl (.cons rfl (.cons rfl (.cons rfl (.cons rfl (.cons rfl (.cons rfl .nil))))))))), rfl⟩, ⟨Nat.zero_le _, fun i hi => by omega, hIU, hbU⟩, ?_⟩
    clear hIU hbU
    rintro j X2 ⟨hj, hpre, hI2, hb2⟩
    dsimp only at hj hpre ⊢
    have hG2 : GlobC X2 := hG.below hb2
    have hS : SpV X2 L (L + 1) l[k] locs (l.length - 1 - k) := ⟨hI2.c, hI2.b, hG2⟩
    refine And.intro (fun hc2 => ?_) (fun hc2 => ?_)
    · have hc2 : (j : Int) < 8 := of_decide_eq_true hc2
      refine ⟨j, rfl, (by omega), ?_⟩
      have ho : 0 < j → l[k].op.toNat ≤ 8 := fun h0 => by
        have := Option.some.inj (hpre 0 h0)
        rw [Bool.and_eq_true] at this
        exact of_decide_eq_true this.2
      have hat2 : ∀ {v : Value}, (condFs L (L + 1))[j]? = some v → X2.cell? ⟨L + 2, 0 + j * 1, none⟩ = some v := fun hv => by
        have := cells_at (cells_block hI2.s) (i := j) (by simpa using hv)
        rw [Nat.mul_one]; exact this
      have hcs : j = 0 ∨ j = 1 ∨ j = 2 ∨ j = 3 ∨ j = 4 ∨ j = 5 ∨ j = 6 ∨ j = 7 := by omega
      rcases hcs with rfl | rfl | rfl | rfl | rfl | rfl | rfl | rfl
      · refine ⟨_, hat2 rfl, ?_⟩
        refine Calls.mono (cond1_c hS) ?_
        rintro e W ⟨rfl, hbW⟩
        have hI3 := hI2.below hbW
        refine And.intro (fun hb => ?_) (fun hb => ?_)
        · have hb : (!((insC l[k] locs (l.length - 1 - k))[0]'(by show 0 < 8; decide))) = true := hb
          have hb : (insC l[k] locs (l.length - 1 - k))[0]? = some false := by rw [List.getElem?_eq_getElem (by show 0 < 8; decide)]; exact congrArg some (by rw [← Bool.not_not ((insC l[k] locs (l.length - 1 - k))[0]'(by show 0 < 8; decide)), hb]; rfl)
          exact fin_no hkl hb (hb2.trans (hbW.mono hb2.size))
        · have hb : (!((insC l[k] locs (l.length - 1 - k))[0]'(by show 0 < 8; decide))) = false := hb
          have hb : (insC l[k] locs (l.length - 1 - k))[0]? = some true := by rw [List.getElem?_eq_getElem (by show 0 < 8; decide)]; exact congrArg some (by rw [← Bool.not_not ((insC l[k] locs (l.length - 1 - k))[0]'(by show 0 < 8; decide)), hb]; rfl)
          refine ⟨_, (wrap_i64 (by omega)).trans rfl, ?_⟩
          refine ⟨1, ⟨.cons rfl (.cons rfl (.cons rfl (.cons rfl (.cons rfl (.cons rfl (.cons rfl (.cons rfl (.cons rfl (.cons rfl .nil))))))))), rfl⟩, ⟨by omega, fun i hi => ?_, hI3, hb2.trans (hbW.mono hb2.size)⟩, by decide⟩
          by_cases hik : i = 0
          · rw [hik]; exact hb
          · exact hpre i (by omega)
      · refine ⟨_, hat2 rfl, ?_⟩
        refine Calls.mono (cond2_c hS (ho (by omega))) ?_
        rintro e W ⟨rfl, hbW⟩
        have hI3 := hI2.below hbW
        refine And.intro (fun hb => ?_) (fun hb => ?_)
        · have hb : (!((insC l[k] locs (l.length - 1 - k))[1]'(by show 1 < 8; decide))) = true := hb
          have hb : (insC l[k] locs (l.length - 1 - k))[1]? = some false := by rw [List.getElem?_eq_getElem (by show 1 < 8; decide)]; exact congrArg some (by rw [← Bool.not_not ((insC l[k] locs (l.length - 1 - k))[1]'(by show 1 < 8; decide)), hb]; rfl)
          exact fin_no hkl hb (hb2.trans (hbW.mono hb2.size))
        · have hb : (!((insC l[k] locs (l.length - 1 - k))[1]'(by show 1 < 8; decide))) = false := hb
          have hb : (insC l[k] locs (l.length - 1 - k))[1]? = some true := by rw [List.getElem?_eq_getElem (by show 1 < 8; decide)]; exact congrArg some (by rw [← Bool.not_not ((insC l[k] locs (l.length - 1 - k))[1]'(by show 1 < 8; decide)), hb]; rfl)
          refine ⟨_, (wrap_i64 (by omega)).trans rfl, ?_⟩
          refine ⟨2, ⟨.cons rfl (.cons rfl (.cons rfl (.cons rfl (.cons rfl (.cons rfl (.cons rfl (.cons rfl (.cons rfl (.cons rfl .nil))))))))), rfl⟩, ⟨by omega, fun i hi => ?_, hI3, hb2.trans (hbW.mono hb2.size)⟩, by decide⟩
          by_cases hik : i = 1
          · rw [hik]; exact hb
          · exact hpre i (by omega)
      · refine ⟨_, hat2 rfl, ?_⟩
        refine Calls.mono (cond3_c hS) ?_
        rintro e W ⟨rfl, hbW⟩
        have hI3 := hI2.below hbW
        refine And.intro (fun hb => ?_) (fun hb => ?_)
        · have hb : (!((insC l[k] locs (l.length - 1 - k))[2]'(by show 2 < 8; decide))) = true := hb
          have hb : (insC l[k] locs (l.length - 1 - k))[2]? = some false := by rw [List.getElem?_eq_getElem (by show 2 < 8; decide)]; exact congrArg some (by rw [← Bool.not_not ((insC l[k] locs (l.length - 1 - k))[2]'(by show 2 < 8; decide)), hb]; rfl)
          exact fin_no hkl hb (hb2.trans (hbW.mono hb2.size))
        · have hb : (!((insC l[k] locs (l.length - 1 - k))[2]'(by show 2 < 8; decide))) = false := hb
          have hb : (insC l[k] locs (l.length - 1 - k))[2]? = some true := by rw [List.getElem?_eq_getElem (by show 2 < 8; decide)]; exact congrArg some (by rw [← Bool.not_not ((insC l[k] locs (l.length - 1 - k))[2]'(by show 2 < 8; decide)), hb]; rfl)
          refine ⟨_, (wrap_i64 (by omega)).trans rfl, ?_⟩
          refine ⟨3, ⟨.cons rfl (.cons rfl (.cons rfl (.cons rfl (.cons rfl (.cons rfl (.cons rfl (.cons rfl (.cons rfl (.cons rfl .nil))))))))), rfl⟩, ⟨by omega, fun i hi => ?_, hI3, hb2.trans (hbW.mono hb2.size)⟩, by decide⟩
          by_cases hik : i = 2
          · rw [hik]; exact hb
          · exact hpre i (by omega)
      · refine ⟨_, hat2 rfl, ?_⟩
        refine Calls.mono (cond4_c hS (ho (by omega))) ?_
        rintro e W ⟨rfl, hbW⟩
        have hI3 := hI2.below hbW
        refine And.intro (fun hb => ?_) (fun hb => ?_)
        · have hb : (!((insC l[k] locs (l.length - 1 - k))[3]'(by show 3 < 8; decide))) = true := hb
          have hb : (insC l[k] locs (l.length - 1 - k))[3]? = some false := by rw [List.getElem?_eq_getElem (by show 3 < 8; decide)]; exact congrArg some (by rw [← Bool.not_not ((insC l[k] locs (l.length - 1 - k))[3]'(by show 3 < 8; decide)), hb]; rfl)
          exact fin_no hkl hb (hb2.trans (hbW.mono hb2.size))
        · have hb : (!((insC l[k] locs (l.length - 1 - k))[3]'(by show 3 < 8; decide))) = false := hb
          have hb : (insC l[k] locs (l.length - 1 - k))[3]? = some true := by rw [List.getElem?_eq_getElem (by show 3 < 8; decide)]; exact congrArg some (by rw [← Bool.not_not ((insC l[k] locs (l.length - 1 - k))[3]'(by show 3 < 8; decide)), hb]; rfl)
          refine ⟨_, (wrap_i64 (by omega)).trans rfl, ?_⟩
          refine ⟨4, ⟨.cons rfl (.cons rfl (.cons rfl (.cons rfl (.cons rfl (.cons rfl (.cons rfl (.cons rfl (.cons rfl (.cons rfl .nil))))))))), rfl⟩, ⟨by omega, fun i hi => ?_, hI3, hb2.trans (hbW.mono hb2.size)⟩, by decide⟩
          by_cases hik : i = 3
          · rw [hik]; exact hb
          · exact hpre i (by omega)
      · refine ⟨_, hat2 rfl, ?_⟩
        refine Calls.mono (cond5_c hS) ?_
        rintro e W ⟨rfl, hbW⟩
        have hI3 := hI2.below hbW
        refine And.intro (fun hb => ?_) (fun hb => ?_)
        · have hb : (!((insC l[k] locs (l.length - 1 - k))[4]'(by show 4 < 8; decide))) = true := hb
          have hb : (insC l[k] locs (l.length - 1 - k))[4]? = some false := by rw [List.getElem?_eq_getElem (by show 4 < 8; decide)]; exact congrArg some (by rw [← Bool.not_not ((insC l[k] locs (l.length - 1 - k))[4]'(by show 4 < 8; decide)), hb]; rfl)
          exact fin_no hkl hb (hb2.trans (hbW.mono hb2.size))
        · have hb : (!((insC l[k] locs (l.length - 1 - k))[4]'(by show 4 < 8; decide))) = false := hb
          have hb : (insC l[k] locs (l.length - 1 - k))[4]? = some true := by rw [List.getElem?_eq_getElem (by show 4 < 8; decide)]; exact congrArg some (by rw [← Bool.not_not ((insC l[k] locs (l.length - 1 - k))[4]'(by show 4 < 8; decide)), hb]; rfl)
          refine ⟨_, (wrap_i64 (by omega)).trans rfl, ?_⟩
          refine ⟨5, ⟨.cons rfl (.cons rfl (.cons rfl (.cons rfl (.cons rfl (.cons rfl (.cons rfl (.cons rfl (.cons rfl (.cons rfl .nil))))))))), rfl⟩, ⟨by omega, fun i hi => ?_, hI3, hb2.trans (hbW.mono hb2.size)⟩, by decide⟩
          by_cases hik : i = 4
          · rw [hik]; exact hb
          · exact hpre i (by omega)
      · refine ⟨_, hat2 rfl, ?_⟩
        refine Calls.mono (modeRight_c hS.cells) ?_
        rintro e _ ⟨rfl, rfl⟩
        have hbW : Below X2.heap.size X2 X2 := Below.refl _ _
        have hI3 := hI2
        refine And.intro (fun hb => ?_) (fun hb => ?_)
        · have hb : (!((insC l[k] locs (l.length - 1 - k))[5]'(by show 5 < 8; decide))) = true := hb
          have hb : (insC l[k] locs (l.length - 1 - k))[5]? = some false := by rw [List.getElem?_eq_getElem (by show 5 < 8; decide)]; exact congrArg some (by rw [← Bool.not_not ((insC l[k] locs (l.length - 1 - k))[5]'(by show 5 < 8; decide)), hb]; rfl)
          exact fin_no hkl hb (hb2.trans (hbW.mono hb2.size))
        · have hb : (!((insC l[k] locs (l.length - 1 - k))[5]'(by show 5 < 8; decide))) = false := hb
          have hb : (insC l[k] locs (l.length - 1 - k))[5]? = some true := by rw [List.getElem?_eq_getElem (by show 5 < 8; decide)]; exact congrArg some (by rw [← Bool.not_not ((insC l[k] locs (l.length - 1 - k))[5]'(by show 5 < 8; decide)), hb]; rfl)
          refine ⟨_, (wrap_i64 (by omega)).trans rfl, ?_⟩
          refine ⟨6, ⟨.cons rfl (.cons rfl (.cons rfl (.cons rfl (.cons rfl (.cons rfl (.cons rfl (.cons rfl (.cons rfl (.cons rfl .nil))))))))), rfl⟩, ⟨by omega, fun i hi => ?_, hI3, hb2.trans (hbW.mono hb2.size)⟩, by decide⟩
          by_cases hik : i = 5
          · rw [hik]; exact hb
          · exact hpre i (by omega)
      · refine ⟨_, hat2 rfl, ?_⟩
        refine Calls.mono (fnRight_c hS.cells) ?_
        rintro e _ ⟨rfl, rfl⟩
        have hbW : Below X2.heap.size X2 X2 := Below.refl _ _
        have hI3 := hI2
        refine And.intro (fun hb => ?_) (fun hb => ?_)
        · have hb : (!((insC l[k] locs (l.length - 1 - k))[6]'(by show 6 < 8; decide))) = true := hb
          have hb : (insC l[k] locs (l.length - 1 - k))[6]? = some false := by rw [List.getElem?_eq_getElem (by show 6 < 8; decide)]; exact congrArg some (by rw [← Bool.not_not ((insC l[k] locs (l.length - 1 - k))[6]'(by show 6 < 8; decide)), hb]; rfl)
          exact fin_no hkl hb (hb2.trans (hbW.mono hb2.size))
        · have hb : (!((insC l[k] locs (l.length - 1 - k))[6]'(by show 6 < 8; decide))) = false := hb
          have hb : (insC l[k] locs (l.length - 1 - k))[6]? = some true := by rw [List.getElem?_eq_getElem (by show 6 < 8; decide)]; exact congrArg some (by rw [← Bool.not_not ((insC l[k] locs (l.length - 1 - k))[6]'(by show 6 < 8; decide)), hb]; rfl)
          refine ⟨_, (wrap_i64 (by omega)).trans rfl, ?_⟩
          refine ⟨7, ⟨.cons rfl (.cons rfl (.cons rfl (.cons rfl (.cons rfl (.cons rfl (.cons rfl (.cons rfl (.cons rfl (.cons rfl .nil))))))))), rfl⟩, ⟨by omega, fun i hi => ?_, hI3, hb2.trans (hbW.mono hb2.size)⟩, by decide⟩
          by_cases hik : i = 6
          · rw [hik]; exact hb
          · exact hpre i (by omega)
      · refine ⟨_, hat2 rfl, ?_⟩
        refine Calls.mono (cond8_c hS (ho (by omega))) ?_
        rintro e W ⟨rfl, hbW⟩
        have hI3 := hI2.below hbW
        refine And.intro (fun hb => ?_) (fun hb => ?_)
        · have hb : (!((insC l[k] locs (l.length - 1 - k))[7]'(by show 7 < 8; decide))) = true := hb
          have hb : (insC l[k] locs (l.length - 1 - k))[7]? = some false := by rw [List.getElem?_eq_getElem (by show 7 < 8; decide)]; exact congrArg some (by rw [← Bool.not_not ((insC l[k] locs (l.length - 1 - k))[7]'(by show 7 < 8; decide)), hb]; rfl)
          exact fin_no hkl hb (hb2.trans (hbW.mono hb2.size))
        · have hb : (!((insC l[k] locs (l.length - 1 - k))[7]'(by show 7 < 8; decide))) = false := hb
          have hb : (insC l[k] locs (l.length - 1 - k))[7]? = some true := by rw [List.getElem?_eq_getElem (by show 7 < 8; decide)]; exact congrArg some (by rw [← Bool.not_not ((insC l[k] locs (l.length - 1 - k))[7]'(by show 7 < 8; decide)), hb]; rfl)
          refine ⟨_, (wrap_i64 (by omega)).trans rfl, ?_⟩
          refine ⟨8, ⟨.cons rfl (.cons rfl (.cons rfl (.cons rfl (.cons rfl (.cons rfl (.cons rfl (.cons rfl (.cons rfl (.cons rfl .nil))))))))), rfl⟩, ⟨by omega, fun i hi => ?_, hI3, hb2.trans (hbW.mono hb2.size)⟩, by decide⟩
          by_cases hik : i = 7
          · rw [hik]; exact hb
          · exact hpre i (by omega)
    · have hc2 : ¬ (j : Int) < 8 := of_decide_eq_false hc2
      obtain rfl : j = 8 := by omega
      have hok : insB l[k] locs (l.length - 1 - k) = true := all_take hpre rfl
      refine ⟨((k + 1 : Nat) : Int), (wrap_i64 (by omega)).trans (by omega), ?_⟩
      refine ⟨k + 1, ⟨.cons rfl (.cons rfl (.cons rfl (.cons rfl (.cons rfl (.cons rfl (.cons rfl .nil)))))), rfl⟩, ⟨hkl, fun i hi x hlx => ?_, ⟨_, _, hI2⟩, hb2⟩, by show l.length - (k + 1) < l.length - k; omega⟩
      by_cases hik : i = k
      · subst hik
        rw [List.getElem?_eq_getElem hkl] at hlx
        rw [← Option.some.inj hlx]; exact hok
      · exact hdone i (by omega) x hlx
  · have hc : ¬ (k : Int) < (l.length : Int) := of_decide_eq_false hc
    obtain rfl : k = l.length := by omega
    refine ⟨rb ?_, hbX⟩
    unfold threadB
    rw [decide_eq_true (by omega), Bool.true_and, Eq.comm, List.all_eq_true]
    intro i hi
    have hi : i < l.length := List.mem_range.1 hi
    rw [List.getElem?_eq_getElem hi]
    exact hdone i hi _ (List.getElem?_eq_getElem hi)
end Go.Proofs.YthgmcegmgjoafaaGreatDoor
namespace Go.Proofs.YthgmcegmgjoafaaGreatDoor
open Go.Vc Go.RowKit Go.Sei
theorem nat_ltd {a b : Nat} : decide ((a : Int) < (b : Int)) = decide (a < b) := by rw [decide_eq_decide]; omega
def bareL (c : Cnd) : Bool := decide (c.thread = 0) && (decide (c.n = 0) && decide (c.val = 0))
theorem condB_succ {threads locs d : Nat} (c : Cnd) : condB threads locs (d + 1) c = (if c.kind = 0 then bareL c && decide (c.kids.length = 0) else
    if c.kind = 1 then decide (c.thread.toNat < threads) && (decide (c.n.toNat < 8) && decide (c.kids.length = 0)) else
    if c.kind = 2 then decide (c.n.toNat < locs) && (decide (c.thread = 0) && decide (c.kids.length = 0)) else
    if c.kind = 3 ∨ c.kind = 4 then bareL c && (decide (2 ≤ c.kids.length) && c.kids.all (condB threads locs d)) else
    if c.kind = 5 then bareL c && (decide (c.kids.length = 1) && c.kids.all (condB threads locs d)) else false) := by
  obtain ⟨k, t, n, v, kids⟩ := c
  rfl
def asksL (c : Cnd) : Prop := (c.kind = 3 ∨ c.kind = 4) ∧ bareL c = true ∧ 2 ≤ c.kids.length ∨ c.kind = 5 ∧ bareL c = true ∧ c.kids.length = 1
theorem condB_asks {threads locs d : Nat} {c : Cnd} (h : asksL c) : condB threads locs (d + 1) c = c.kids.all (condB threads locs d) := by
  rw [condB_succ]
  rcases h with ⟨h1, h2, h3⟩ | ⟨h1, h2, h3⟩
  · rw [if_neg (by rcases h1 with h | h <;> rw [h] <;> decide), if_neg (by rcases h1 with h | h <;> rw [h] <;> decide), if_neg (by rcases h1 with h | h <;> rw [h] <;> decide), if_pos h1, h2, decide_eq_true h3]; rfl
  · rw [if_neg (by rw [h1]; decide), if_neg (by rw [h1]; decide), if_neg (by rw [h1]; decide), if_neg (by rw [h1]; decide), if_pos h1, h2, decide_eq_true h3]; rfl
theorem condRight_c {B threads locs : Nat} {w : World} (hB : B ≤ w.heap.size) : ∀ (d : Nat) (c : Cnd) (b o : Nat) (p : Option Addr) (cap : Nat), d ≤ 1000 → b < B → Cells w ⟨b, o, none⟩ (cndCells c p cap) → KidsV B w p c.kids →
    Calls Tryz.prog 237 #[.pointer (some ⟨b, o, none⟩), i64 threads, i64 locs, i64 d] w fun e w' => e = .returned (.bool (condB threads locs d c)) ∧ w = w' := by
  intro d
  induction d with
  | zero =>
    intro c b o p cap _ hb hc hk
    refine calls_of_E (S := sg 141) (sgOk _) (args := [.pointer (some ⟨b, o, none⟩), i64 threads, i64 locs, i64 0]) Tryz.func237 rfl rfl (Nat.le_of_ble_eq_true rfl) rfl ?_
    refine brT ?_
    exact ⟨rfl, rfl⟩
  | succ d ih =>
    intro c b o p cap hd hb hc hk
    refine calls_of_M (S := sg 141) (sgOk _) (args := [.pointer (some ⟨b, o, none⟩), i64 threads, i64 locs, i64 (d + 1 : Nat)]) (.s .p (.s .p (.c .p (.c .p .p)))) Tryz.func237 rfl rfl (Nat.le_of_ble_eq_true rfl) rfl ?_
    have hbl : b < w.heap.size := Nat.lt_of_lt_of_le hb hB
    refine And.intro (fun h => ?_) (fun h => ?_)
    · have h : ((d + 1 : Nat) : Int) = 0 := of_decide_eq_true h
      omega
    clear h
    refine ⟨Unit, fun _ => ⟨[(0, .pointer (some ⟨b, o, none⟩)), (1, i64 threads), (2, i64 locs), (3, i64 (d + 1 : Nat)), (9, .bool (bareL c))], []⟩, fun _ X => w = X, ?_, ?_⟩
    · have fin : ∀ {v : Bool}, v = bareL c → some (Value.bool v) = some (.bool (bareL c)) := fun h => by rw [h]
      refine ⟨_, cells_at hc (i := 1) rfl, ?_⟩
      refine And.intro (fun h1 => ?_) (fun h1 => ?_)
      · have h1 : decide (c.thread = 0) = true := (u8d c.thread 0).symm.trans h1
        refine ⟨_, cells_at hc (i := 2) rfl, ?_⟩
        refine And.intro (fun h2 => ?_) (fun h2 => ?_)
        · have h2 : decide (c.n = 0) = true := (u8d c.n 0).symm.trans h2
          refine ⟨_, cells_at hc (i := 3) rfl, ?_⟩
          exact ⟨(), ⟨.cons rfl (.cons rfl (.cons rfl (.cons rfl (.cons (fin (by unfold bareL; rw [h1, h2]; exact u8d c.val 0)) .nil)))), rfl⟩, rfl⟩
        · have h2 : decide (c.n = 0) = false := (u8d c.n 0).symm.trans h2
          exact ⟨(), ⟨.cons rfl (.cons rfl (.cons rfl (.cons rfl (.cons (fin (by unfold bareL; rw [h1, h2]; rfl)) .nil)))), rfl⟩, rfl⟩
      · have h1 : decide (c.thread = 0) = false := (u8d c.thread 0).symm.trans h1
        refine brF ?_
        exact ⟨(), ⟨.cons rfl (.cons rfl (.cons rfl (.cons rfl (.cons (fin (by unfold bareL; rw [h1]; rfl)) .nil)))), rfl⟩, rfl⟩
    rintro _ _ rfl
    refine ⟨Unit, fun _ => ⟨[(0, .pointer (some ⟨b, o, none⟩)), (1, i64 threads), (2, i64 locs), (3, i64 (d + 1 : Nat))], []⟩, fun _ X => asksL c ∧ w = X, ?_, ?_⟩
    · have hkn : c.kids.length ≤ 140737488351232 := by have := hk.inv.1; omega
      refine ⟨_, cells_at hc (i := 0) rfl, ?_⟩
      refine And.intro (fun h0 => ?_) (fun h0 => ?_)
      · have h0 : c.kind = 0 := of_decide_eq_true ((u8d c.kind 0).symm.trans h0)
        have e : condB threads locs (d + 1) c = (bareL c && decide (c.kids.length = 0)) := by rw [condB_succ, if_pos h0]
        rw [e]
        refine And.intro (fun h => ?_) (fun h => ?_)
        · have h : bareL c = true := h
          refine ⟨_, cells_at hc (i := 4) rfl, ?_⟩
          exact ⟨rb (by rw [h, Bool.true_and]; exact nat_dec), rfl⟩
        · have h : bareL c = false := h
          exact ⟨rb (by rw [h]; rfl), rfl⟩
      have h0 : ¬ c.kind = 0 := of_decide_eq_false ((u8d c.kind 0).symm.trans h0)
      refine And.intro (fun h1 => ?_) (fun h1 => ?_)
      · have h1 : c.kind = 1 := of_decide_eq_true ((u8d c.kind 1).symm.trans h1)
        have e : condB threads locs (d + 1) c = (decide (c.thread.toNat < threads) && (decide (c.n.toNat < 8) && decide (c.kids.length = 0))) := by rw [condB_succ, if_neg h0, if_pos h1]
        rw [e]
        refine ⟨_, cells_at hc (i := 1) rfl, ?_⟩
        refine ⟨_, wrap_u8_i64 _, ?_⟩
        refine And.intro (fun h => ?_) (fun h => ?_)
        · have h : decide (c.thread.toNat < threads) = true := nat_ltd.symm.trans h
          refine ⟨_, cells_at hc (i := 2) rfl, ?_⟩
          refine And.intro (fun h2 => ?_) (fun h2 => ?_)
          · have h2 : decide (c.n.toNat < 8) = true := (nat_ltd (b := 8)).symm.trans h2
            refine ⟨_, cells_at hc (i := 4) rfl, ?_⟩
            exact ⟨rb (by rw [h, h2]; exact nat_dec), rfl⟩
          · have h2 : decide (c.n.toNat < 8) = false := (nat_ltd (b := 8)).symm.trans h2
            exact ⟨rb (by rw [h, h2]; rfl), rfl⟩
        · have h : decide (c.thread.toNat < threads) = false := nat_ltd.symm.trans h
          refine brF ?_
          exact ⟨rb (by rw [h]; rfl), rfl⟩
      have h1 : ¬ c.kind = 1 := of_decide_eq_false ((u8d c.kind 1).symm.trans h1)
      refine And.intro (fun h2 => ?_) (fun h2 => ?_)
      · have h2 : c.kind = 2 := of_decide_eq_true ((u8d c.kind 2).symm.trans h2)
        have e : condB threads locs (d + 1) c = (decide (c.n.toNat < locs) && (decide (c.thread = 0) && decide (c.kids.length = 0))) := by rw [condB_succ, if_neg h0, if_neg h1, if_pos h2]
        rw [e]
        refine ⟨_, cells_at hc (i := 2) rfl, ?_⟩
        refine ⟨_, wrap_u8_i64 _, ?_⟩
        refine And.intro (fun h => ?_) (fun h => ?_)
        · have h : decide (c.n.toNat < locs) = true := nat_ltd.symm.trans h
          refine ⟨_, cells_at hc (i := 1) rfl, ?_⟩
          refine And.intro (fun h3 => ?_) (fun h3 => ?_)
          · have h3 : decide (c.thread = 0) = true := (u8d c.thread 0).symm.trans h3
            refine ⟨_, cells_at hc (i := 4) rfl, ?_⟩
            exact ⟨rb (by rw [h, h3]; exact nat_dec), rfl⟩
          · have h3 : decide (c.thread = 0) = false := (u8d c.thread 0).symm.trans h3
            exact ⟨rb (by rw [h, h3]; rfl), rfl⟩
        · have h : decide (c.n.toNat < locs) = false := nat_ltd.symm.trans h
          refine brF ?_
          exact ⟨rb (by rw [h]; rfl), rfl⟩
      have h2 : ¬ c.kind = 2 := of_decide_eq_false ((u8d c.kind 2).symm.trans h2)
      have g34 : ∀ (hk34 : c.kind = 3 ∨ c.kind = 4), condB threads locs (d + 1) c = (bareL c && (decide (2 ≤ c.kids.length) && c.kids.all (condB threads locs d))) := fun hk34 => by
        rw [condB_succ, if_neg h0, if_neg h1, if_neg h2, if_pos hk34]
      refine And.intro (fun h3 => ?_) (fun h3 => ?_)
      · have h3' : decide ((c.kind.toNat : Int) = 3) = true := h3
        have h3 : c.kind = 3 ∨ c.kind = 4 := .inl (of_decide_eq_true ((u8d c.kind 3).symm.trans h3))
        refine brE h3' ?_
        refine And.intro (fun h => ?_) (fun h => ?_)
        · have h : (!bareL c) = true := h
          have h : bareL c = false := by simpa using h
          refine brT ?_
          exact ⟨rb (by rw [g34 h3, h]; rfl), rfl⟩
        · have h : (!bareL c) = false := h
          have h : bareL c = true := by simpa using h
          refine ⟨_, cells_at hc (i := 4) rfl, ?_⟩
          refine And.intro (fun h4 => ?_) (fun h4 => ?_)
          · have h4 : (c.kids.length : Int) < 2 := of_decide_eq_true h4
            exact ⟨rb (by rw [g34 h3, decide_eq_false (by omega)]; simp), rfl⟩
          · have h4 : ¬ (c.kids.length : Int) < 2 := of_decide_eq_false h4
            exact ⟨(), ⟨.cons rfl (.cons rfl (.cons rfl (.cons rfl .nil))), rfl⟩, .inl ⟨h3, h, by omega⟩, rfl⟩
      have h3 : ¬ c.kind = 3 := of_decide_eq_false ((u8d c.kind 3).symm.trans h3)
      refine And.intro (fun h4 => ?_) (fun h4 => ?_)
      · have h3 : c.kind = 3 ∨ c.kind = 4 := .inr (of_decide_eq_true ((u8d c.kind 4).symm.trans h4))
        refine And.intro (fun h => ?_) (fun h => ?_)
        · have h : (!bareL c) = true := h
          have h : bareL c = false := by simpa using h
          refine brT ?_
          exact ⟨rb (by rw [g34 h3, h]; rfl), rfl⟩
        · have h : (!bareL c) = false := h
          have h : bareL c = true := by simpa using h
          refine ⟨_, cells_at hc (i := 4) rfl, ?_⟩
          refine And.intro (fun h4 => ?_) (fun h4 => ?_)
          · have h4 : (c.kids.length : Int) < 2 := of_decide_eq_true h4
            exact ⟨rb (by rw [g34 h3, decide_eq_false (by omega)]; simp), rfl⟩
          · have h4 : ¬ (c.kids.length : Int) < 2 := of_decide_eq_false h4
            exact ⟨(), ⟨.cons rfl (.cons rfl (.cons rfl (.cons rfl .nil))), rfl⟩, .inl ⟨h3, h, by omega⟩, rfl⟩
      have h4 : ¬ c.kind = 4 := of_decide_eq_false ((u8d c.kind 4).symm.trans h4)
      have h34 : ¬ (c.kind = 3 ∨ c.kind = 4) := fun h => h.elim h3 h4
      refine And.intro (fun h5 => ?_) (fun h5 => ?_)
      · have h5 : c.kind = 5 := of_decide_eq_true ((u8d c.kind 5).symm.trans h5)
        have e : condB threads locs (d + 1) c = (bareL c && (decide (c.kids.length = 1) && c.kids.all (condB threads locs d))) := by rw [condB_succ, if_neg h0, if_neg h1, if_neg h2, if_neg h34, if_pos h5]
        refine And.intro (fun h => ?_) (fun h => ?_)
        · have h : (!bareL c) = true := h
          have h : bareL c = false := by simpa using h
          refine brT ?_
          exact ⟨rb (by rw [e, h]; rfl), rfl⟩
        · have h : (!bareL c) = false := h
          have h : bareL c = true := by simpa using h
          refine ⟨_, cells_at hc (i := 4) rfl, ?_⟩
          refine And.intro (fun h4 => ?_) (fun h4 => ?_)
          · have h4 : (!decide ((c.kids.length : Int) = 1)) = true := h4
            have h4 : ¬ (c.kids.length : Int) = 1 := by simpa using h4
            exact ⟨rb (by rw [e, decide_eq_false (by omega)]; simp), rfl⟩
          · have h4 : (!decide ((c.kids.length : Int) = 1)) = false := h4
            have h4 : (c.kids.length : Int) = 1 := by simpa using h4
            exact ⟨(), ⟨.cons rfl (.cons rfl (.cons rfl (.cons rfl .nil))), rfl⟩, .inr ⟨h5, h, by omega⟩, rfl⟩
      have h5 : ¬ c.kind = 5 := of_decide_eq_false ((u8d c.kind 5).symm.trans h5)
      exact ⟨rb (by rw [condB_succ, if_neg h0, if_neg h1, if_neg h2, if_neg h34, if_neg h5]), rfl⟩
    rintro _ _ ⟨ha, rfl⟩
    rw [condB_asks ha]
    refine ⟨_, cells_at hc (i := 4) rfl, ?_⟩
    obtain ⟨hn, b1, o1, hp, hks⟩ := hk.inv
    refine ⟨Nat, fun k => ⟨[(0, .pointer (some ⟨b, o, none⟩)), (1, i64 threads), (2, i64 locs), (3, i64 (d + 1 : Nat)), (124, i64 c.kids.length), (125, i64 (k : Nat))], []⟩, fun k X => k ≤ c.kids.length ∧ (∀ x ∈ c.kids.take k, condB threads locs d x = true) ∧ w = X, fun k => c.kids.length - k, 0,
      ⟨.cons rfl (.cons rfl (.cons rfl (.cons rfl (.cons rfl (.cons rfl .nil))))), rfl⟩, ⟨Nat.zero_le _, by simp, rfl⟩, ?_⟩
    rintro k _ ⟨hk, hall, rfl⟩
    dsimp only at hk hall ⊢
    refine And.intro (fun hc2 => ?_) (fun hc2 => ?_)
    · have hc2 : (k : Int) < (c.kids.length : Int) := of_decide_eq_true hc2
      have hkl : k < c.kids.length := by omega
      rcases hp with hp | rfl
      · omega
      obtain ⟨q, cq, hb1, hq, hkq⟩ := hks k hkl
      refine ⟨_, cells_at hc (i := 4) rfl, ?_⟩
      refine ⟨k, rfl, hkl, ?_⟩
      refine ⟨(d : Int), (wrap_i64 (by omega)).trans (by omega), ?_⟩
      refine Calls.mono (ih c.kids[k] b1 (o1 + k * 5) q cq (by omega) hb1 hq hkq) ?_
      rintro e _ ⟨rfl, rfl⟩
      refine And.intro (fun h => ?_) (fun h => ?_)
      · have h : (!condB threads locs d c.kids[k]) = true := h
        refine ⟨rb ?_, rfl⟩
        symm
        rw [List.all_eq_false]
        exact ⟨c.kids[k], List.getElem_mem _, by simpa using h⟩
      · have h : (!condB threads locs d c.kids[k]) = false := h
        refine ⟨_, (wrap_i64 (by omega)).trans rfl, ?_⟩
        refine ⟨k + 1, ⟨.cons rfl (.cons rfl (.cons rfl (.cons rfl (.cons rfl (.cons rfl .nil))))), rfl⟩, ⟨hkl, ?_, rfl⟩, by show c.kids.length - (k + 1) < c.kids.length - k; omega⟩
        rw [List.take_succ_eq_append_getElem hkl]
        intro x hx
        rcases List.mem_append.1 hx with hx | hx
        · exact hall x hx
        · simp only [List.mem_singleton] at hx
          rw [hx]; simpa using h
    · have hc2 : ¬ (k : Int) < (c.kids.length : Int) := of_decide_eq_false hc2
      obtain rfl : k = c.kids.length := by omega
      rw [List.take_length] at hall
      exact ⟨rb (List.all_eq_true.2 hall).symm, rfl⟩
end Go.Proofs.YthgmcegmgjoafaaGreatDoor
namespace Go.Proofs.YthgmcegmgjoafaaGreatDoor
open Go.Vc Go.RowKit Go.Sei
theorem Cond_c {B threads locs cap : Nat} {p : Option Addr} {c : Cnd} {w : World} (hB : B ≤ w.heap.size) (hk : KidsV B w p c.kids) :
    Calls Tryz.prog 215 #[.agg (cndCells c p cap).toArray, i64 threads, i64 locs] w fun e w' => e = .returned (.bool (condB threads locs 20 c)) ∧ Below w.heap.size w w' := by
  refine calls_of_E (S := sg 10) (sgOk _) (args := [.agg (cndCells c p cap).toArray, i64 threads, i64 locs]) Tryz.func215 rfl rfl (Nat.le_of_ble_eq_true rfl) rfl ?_
  have hb : Below w.heap.size w (w.alloc (.cells (cndCells c p cap).toArray 27)) := (Below.refl _ w).alloc (Nat.le_refl _) _
  have hn := hnew w (.cells (cndCells c p cap).toArray 27)
  refine Calls.mono (condRight_c (B := w.heap.size + 1) (by rw [World.size_alloc]; omega) 20 c w.heap.size 0 p cap (by omega) (by omega) (cells_block hn) ((hk.kept (hb.mono hB)).wider (by omega))) ?_
  rintro e _ ⟨rfl, rfl⟩
  exact ⟨rfl, hb⟩
theorem locsRight_c {g : Nat} {p : Prg} {p1 p2 p3 p4 : Option Addr} {c1 c2 c3 c4 B : Nat} {w : World} (hc : Cells w ⟨g, 0, none⟩ (prgCells p p1 c1 p2 c2 p3 c3 p4 c4)) (hg : g < w.heap.size) (h1 : RowB namE B w p1 p.locs) (hB : B ≤ w.heap.size) (hcap : p.locs.length ≤ c1) (hl : PrgLen p) :
    Calls Tryz.prog 207 #[.pointer (some ⟨g, 0, none⟩)] w fun e w' => e = .returned (.bool (locsB p)) ∧ Below w.heap.size w w' := by
  refine calls_of_M (S := sg 56) (sgOk _) (args := [.pointer (some ⟨g, 0, none⟩)]) (.s .p (.c .p .p)) Tryz.func207 rfl rfl (Nat.le_of_ble_eq_true rfl) rfl ?_
  have hbd : Below w.heap.size w w.drew := (Below.refl _ w).drew
  have hcd : Cells w.drew ⟨g, 0, none⟩ (prgCells p p1 c1 p2 c2 p3 c3 p4 c4) := cells_below hbd hc
  have h1d : SlR namE w.drew p1 p.locs := (h1.below (hbd.mono hB)).slr (Nat.le_trans hB hbd.size)
  have hln := hl.locs
  refine ⟨Unit, fun _ => ⟨[(0, .pointer (some ⟨g, 0, none⟩))], []⟩, fun _ X => (1 ≤ p.locs.length ∧ p.locs.length ≤ 6 ∧ p.init.length = p.locs.length) ∧ X = w.drew, ?_, ?_⟩
  · refine DrawE.ord [] [0, 1, 2, 3, 4, 5, 6, 7, 8, 9, 10, 11, 12, 13, 14, 15, 16, 17, 18, 19, 20, 21, 22, 23, 24, 25, 26] (by kernel_rfl) ?_
    refine ⟨_, cells_at hcd (i := 1) rfl, ?_⟩
    refine And.intro (fun ha => ?_) (fun ha => ?_)
    · have ha : (p.locs.length : Int) < 1 := of_decide_eq_true ha
      refine brT ?_
      refine brT ?_
      exact ⟨rb (by unfold locsB; rw [decide_eq_false (by omega)]; rfl), hbd⟩
    · have ha : ¬ (p.locs.length : Int) < 1 := of_decide_eq_false ha
      refine ⟨_, cells_at hcd (i := 1) rfl, ?_⟩
      refine And.intro (fun hd => ?_) (fun hd => ?_)
      · have hd : (6 : Int) < (p.locs.length : Int) := of_decide_eq_true hd
        refine brT ?_
        exact ⟨rb (by unfold locsB; rw [decide_eq_false (p := p.locs.length ≤ 6) (by omega)]; simp), hbd⟩
      · have hd : ¬ (6 : Int) < (p.locs.length : Int) := of_decide_eq_false hd
        refine ⟨_, cells_at hcd (i := 2) rfl, ?_⟩
        refine ⟨_, cells_at hcd (i := 1) rfl, ?_⟩
        refine And.intro (fun he => ?_) (fun he => ?_)
        · have he : (!decide ((p.init.length : Int) = (p.locs.length : Int))) = true := he
          have he : ¬ (p.init.length : Int) = (p.locs.length : Int) := by simpa using he
          exact ⟨rb (by unfold locsB; rw [decide_eq_false (p := p.init.length = p.locs.length) (by omega)]; simp), hbd⟩
        · have he : (!decide ((p.init.length : Int) = (p.locs.length : Int))) = false := he
          have he : (p.init.length : Int) = (p.locs.length : Int) := by simpa using he
          exact ⟨(), ⟨.cons rfl .nil, rfl⟩, ⟨by omega, by omega, by omega⟩, rfl⟩
  rintro _ _ ⟨⟨l1, l6, li⟩, rfl⟩
  have hdef : locsB p = namesL [] p.locs := by unfold locsB; rw [decide_eq_true l1, decide_eq_true l6, decide_eq_true li]; rfl
  rw [hdef]
  refine ⟨_, cells_at hcd (i := 1) rfl, ?_⟩
  refine ⟨Nat, fun k => ⟨[(0, .pointer (some ⟨g, 0, none⟩)), (35, .slice p1 p.locs.length c1), (36, i64 p.locs.length), (37, i64 (k : Nat))], []⟩, fun k X => k ≤ p.locs.length ∧ namesL (p.locs.take k) (p.locs.drop k) = namesL [] p.locs ∧ X = w.drew, fun k => p.locs.length - k, 0,
    ⟨.cons rfl (.cons rfl (.cons rfl (.cons rfl .nil))), rfl⟩, ⟨Nat.zero_le _, rfl, rfl⟩, ?_⟩
  rintro k _ ⟨hk, hna, rfl⟩
  dsimp only at hk hna ⊢
  refine And.intro (fun hc2 => ?_) (fun hc2 => ?_)
  · have hc2 : (k : Int) < (p.locs.length : Int) := of_decide_eq_true hc2
    have hkl : k < p.locs.length := by omega
    obtain ⟨b, o, rfl, hb, hat⟩ := h1d.at hkl
    have hbk : Below w.heap.size w w.drew := hbd
    refine ⟨k, rfl, hkl, ?_⟩
    refine ⟨_, cells_at (hat k hkl) (i := 0) rfl, ?_⟩
    have hs : p.locs[k].length ≤ 140737488351232 := hl.loc _ (List.getElem_mem _)
    have hstep : namesL [] p.locs = (nameL p.locs[k] && (!((p.locs.take k).any fun q => decide (q = p.locs[k])) && namesL (p.locs.take (k + 1)) (p.locs.drop (k + 1)))) := by
      rw [← hna, List.drop_eq_getElem_cons hkl, List.take_succ_eq_append_getElem hkl]; rfl
    refine Calls.mono (Name_c p.locs[k] hs _) ?_
    rintro e _ ⟨rfl, rfl⟩
    refine And.intro (fun h => ?_) (fun h => ?_)
    · have h : (!nameL p.locs[k]) = true := h
      have h : nameL p.locs[k] = false := by simpa using h
      refine brT ?_
      exact ⟨rb (by rw [hstep, h]; rfl), hbd⟩
    · have h : (!nameL p.locs[k]) = false := h
      have h : nameL p.locs[k] = true := by simpa using h
      refine ⟨_, cells_at hcd (i := 1) rfl, ?_⟩
      refine ⟨k, rfl, by omega, ?_⟩
      have hsub : SlR namE w.drew (cutBase (some ⟨b, o, none⟩) c1 0 1) (p.locs.take k) := SlR.sub h1d (lo := 0) (hi := k) (Nat.zero_le _) (by omega) hcap
      have htl : (p.locs.take k).length = k := by rw [List.length_take]; omega
      have hcn := Contains_c (cutBase (some ⟨b, o, none⟩) c1 0 1) (c1 - 0) (p.locs.take k) p.locs[k] w.drew hsub (by omega)
      rw [htl] at hcn
      refine Calls.mono hcn ?_
      rintro e _ ⟨rfl, rfl⟩
      refine And.intro (fun h5 => ?_) (fun h5 => ?_)
      · have h5 : ((p.locs.take k).any fun q => decide (q = p.locs[k])) = true := h5
        exact ⟨rb (by rw [hstep, h5]; simp), hbd⟩
      · have h5 : ((p.locs.take k).any fun q => decide (q = p.locs[k])) = false := h5
        refine ⟨_, (wrap_i64 (by omega)).trans rfl, ?_⟩
        exact ⟨k + 1, ⟨.cons rfl (.cons rfl (.cons rfl (.cons rfl .nil))), rfl⟩, ⟨hkl, by rw [hstep, h, h5]; rfl, rfl⟩, by show p.locs.length - (k + 1) < p.locs.length - k; omega⟩
  · have hc2 : ¬ (k : Int) < (p.locs.length : Int) := of_decide_eq_false hc2
    obtain rfl : k = p.locs.length := by omega
    rw [List.drop_length] at hna
    exact ⟨rb hna, hbd⟩
end Go.Proofs.YthgmcegmgjoafaaGreatDoor
namespace Go.Proofs.YthgmcegmgjoafaaGreatDoor
open Go.Vc Go.RowKit Go.Sei
structure DmV (B : Nat) (X : World) (g bx : Nat) (p : Prg) : Prop where
  hB : B ≤ X.heap.size
  hg : g < X.heap.size
  len : PrgLen p
  h : ∃ p1 c1 p2 c2 p3 c3 p4 c4, Cells X ⟨g, 0, none⟩ (prgCells p p1 c1 p2 c2 p3 c3 p4 c4) ∧ RowB namE B X p1 p.locs ∧ RowB byteE B X p2 p.init ∧ ThrsV B X p3 p.threads ∧ KidsV B X p4 p.cond.kids ∧ p.locs.length ≤ c1
  b : X.heap[bx]? = some (.cells #[.pointer (some ⟨g, 0, none⟩)] 264 (0, 0))
  G : GlobC X
theorem DmV.below {B : Nat} {X Y : World} {g bx : Nat} {p : Prg} (h : DmV B X g bx p) (hb : Below X.heap.size X Y) : DmV B Y g bx p := by
  obtain ⟨p1, c1, p2, c2, p3, c3, p4, c4, h0, h1, h2, h3, h4, h5⟩ := h.h
  have hb' := hb.mono h.hB
  exact ⟨Nat.le_trans h.hB hb.size, Nat.lt_of_lt_of_le h.hg hb.size, h.len, ⟨p1, c1, p2, c2, p3, c3, p4, c4, cells_below hb h0, h1.below hb', h2.below hb', h3.below hb', h4.kept hb', h5⟩, block_below hb h.b, h.G.below hb⟩
def rightV (sel : Bool) (bx : Nat) : Value := match sel with
  | false => .func (.func 209) #[] #[]
  | true => .func (.func 211) #[] #[.pointer (some ⟨bx, 0, none⟩)]
def rightK (sel : Bool) (p : Prg) (l : List InsD) : Bool := match sel with
  | false => decide (l.length ≤ 12)
  | true => threadB l p.locs.length
section
variable {B g bx : Nat} {p : Prg} {w : World}
theorem short_c (q : Option Addr) (cap : Nat) (l : List InsD) : Calls Tryz.prog 209 #[.slice q l.length cap] w fun e w' => e = .returned (.bool (decide (l.length ≤ 12))) ∧ w = w' := by
  refine calls_of_E (S := sg 6) (sgOk _) (args := [.slice q l.length cap]) Tryz.func209 rfl rfl (Nat.le_of_ble_eq_true rfl) rfl ?_
  refine ⟨rb ?_, rfl⟩
  rw [decide_eq_decide]
  show ((l.length : Int) ≤ 12) ↔ _
  omega
theorem thread_c (h : DmV B w g bx p) {q : Option Addr} {cap : Nat} {l : List InsD} (hl : SlR insE w q l) (hn : l.length ≤ 140737488351232) :
    Calls Tryz.prog 211 #[.slice q l.length cap, .pointer (some ⟨bx, 0, none⟩)] w fun e w' => e = .returned (.bool (threadB l p.locs.length)) ∧ Below w.heap.size w w' := by
  refine calls_of_E (S := sg 11) (sgOk _) (args := [.slice q l.length cap, .pointer (some ⟨bx, 0, none⟩)]) Tryz.func211 rfl rfl (Nat.le_of_ble_eq_true rfl) rfl ?_
  obtain ⟨p1, c1, p2, c2, p3, c3, p4, c4, h0, h1, h2, h3, h4, h5⟩ := h.h
  refine ⟨_, cells_at (cells_block h.b) (i := 0) rfl, ?_⟩
  refine ⟨_, cells_at h0 (i := 1) rfl, ?_⟩
  refine Calls.mono (Thread_c hl h.G hn) ?_
  rintro e V ⟨rfl, hb⟩
  exact ⟨rfl, hb⟩
theorem every_c (sel : Bool) (h : DmV B w g bx p) : Calls Tryz.prog 203 #[rightV sel bx, .pointer (some ⟨bx, 0, none⟩)] w fun e w' => e = .returned (.bool (p.threads.all (rightK sel p))) ∧ Below w.heap.size w w' := by
  refine calls_of_E (S := sg 20) (sgOk _) (args := [rightV sel bx, .pointer (some ⟨bx, 0, none⟩)]) Tryz.func203 rfl rfl (Nat.le_of_ble_eq_true rfl) rfl ?_
  obtain ⟨p1, c1, p2, c2, p3, c3, p4, c4, h0, h1, h2, h3, h4, h5⟩ := h.h
  obtain ⟨xs, hxs, hr, hx⟩ := h3
  have hlen : p.threads.length = xs.length := by rw [← hxs, List.length_map]
  have hln := h.len.threads
  refine ⟨_, cells_at (cells_block h.b) (i := 0) rfl, ?_⟩
  refine ⟨_, cells_at h0 (i := 3) rfl, ?_⟩
  refine ⟨Nat, fun k => ⟨[(0, rightV sel bx), (1, .pointer (some ⟨bx, 0, none⟩)), (9, .slice p3 p.threads.length c3), (10, i64 p.threads.length), (11, i64 (k : Nat))], []⟩, fun k X => k ≤ p.threads.length ∧ (∀ l ∈ p.threads.take k, rightK sel p l = true) ∧ Below w.heap.size w X, fun k => p.threads.length - k, 0,
    ⟨.cons rfl (.cons rfl (.cons rfl (.cons rfl (.cons rfl .nil)))), rfl⟩, ⟨Nat.zero_le _, by simp, Below.refl _ _⟩, ?_⟩
  rintro k X ⟨hk, hall, hbX⟩
  dsimp only at hk hall ⊢
  have hX := h.below hbX
  refine And.intro (fun hc => ?_) (fun hc => ?_)
  · have hc : (k : Int) < (p.threads.length : Int) := of_decide_eq_true hc
    have hkl : k < p.threads.length := by omega
    have hkx : k < xs.length := by omega
    have e1 : p.threads[k] = xs[k].1 := by simp [← hxs]
    obtain ⟨b, o, hp3, hat⟩ := hr.get
    rcases hp3 with hp3 | rfl
    · omega
    refine ⟨k, rfl, hkl, ?_⟩
    obtain ⟨hb1, ha1⟩ := hat k hkx
    refine ⟨_, cells_at (cells_belowB (hbX.mono h.hB) hb1 ha1) (i := 0) rfl, ?_⟩
    have hrow : SlR insE X xs[k].2.1 xs[k].1 := ((hx _ (List.getElem_mem hkx)).below (hbX.mono h.hB)).slr hX.hB
    have hln1 : xs[k].1.length ≤ 140737488351232 := by rw [← e1]; exact h.len.thread _ (List.getElem_mem _)
    have hfin : rightK sel p xs[k].1 = false → p.threads.all (rightK sel p) = false := fun hf => by
      rw [List.all_eq_false]
      exact ⟨p.threads[k], List.getElem_mem _, by rw [e1, hf]; simp⟩
    have hgo : rightK sel p xs[k].1 = true → ∀ l ∈ p.threads.take (k + 1), rightK sel p l = true := fun ht => by
      rw [List.take_succ_eq_append_getElem hkl]
      intro x hx
      rcases List.mem_append.1 hx with hx | hx
      · exact hall x hx
      · simp only [List.mem_singleton] at hx
        rw [hx, e1]; exact ht
    cases sel with
    | false =>
      refine Calls.mono (short_c xs[k].2.1 xs[k].2.2 xs[k].1) ?_
      rintro e _ ⟨rfl, rfl⟩
      refine And.intro (fun hb => ?_) (fun hb => ?_)
      · have hb : (!rightK false p xs[k].1) = true := hb
        exact ⟨rb (hfin (by simpa using hb)).symm, hbX⟩
      · have hb : (!rightK false p xs[k].1) = false := hb
        refine ⟨_, (wrap_i64 (by omega)).trans rfl, ?_⟩
        exact ⟨k + 1, ⟨.cons rfl (.cons rfl (.cons rfl (.cons rfl (.cons rfl .nil)))), rfl⟩, ⟨hkl, hgo (by simpa using hb), hbX⟩, by show p.threads.length - (k + 1) < p.threads.length - k; omega⟩
    | true =>
      refine Calls.mono (thread_c hX (cap := xs[k].2.2) hrow hln1) ?_
      rintro e Y ⟨rfl, hbY⟩
      refine And.intro (fun hb => ?_) (fun hb => ?_)
      · have hb : (!rightK true p xs[k].1) = true := hb
        exact ⟨rb (hfin (by simpa using hb)).symm, hbX.trans (hbY.mono hbX.size)⟩
      · have hb : (!rightK true p xs[k].1) = false := hb
        refine ⟨_, (wrap_i64 (by omega)).trans rfl, ?_⟩
        exact ⟨k + 1, ⟨.cons rfl (.cons rfl (.cons rfl (.cons rfl (.cons rfl .nil)))), rfl⟩, ⟨hkl, hgo (by simpa using hb), hbX.trans (hbY.mono hbX.size)⟩, by show p.threads.length - (k + 1) < p.threads.length - k; omega⟩
  · have hc : ¬ (k : Int) < (p.threads.length : Int) := of_decide_eq_false hc
    obtain rfl : k = p.threads.length := by omega
    rw [List.take_length] at hall
    exact ⟨rb (List.all_eq_true.2 hall).symm, hbX⟩
theorem dem1_c (h : DmV B w g bx p) : Calls Tryz.prog 204 #[.pointer (some ⟨bx, 0, none⟩)] w fun e w' => e = .returned (.bool (isWordL p.name)) ∧ Below w.heap.size w w' := by
  refine calls_of_E (S := sg 7) (sgOk _) (args := [.pointer (some ⟨bx, 0, none⟩)]) Tryz.func204 rfl rfl (Nat.le_of_ble_eq_true rfl) rfl ?_
  obtain ⟨p1, c1, p2, c2, p3, c3, p4, c4, h0, h1, h2, h3, h4, h5⟩ := h.h
  refine ⟨_, cells_at (cells_block h.b) (i := 0) rfl, ?_⟩
  refine ⟨_, cells_at h0 (i := 0) rfl, ?_⟩
  refine Calls.mono (isWord_c p.name h.len.name w) ?_
  rintro e V ⟨rfl, hb⟩
  exact ⟨rfl, hb⟩
theorem dem2_c (h : DmV B w g bx p) : Calls Tryz.prog 206 #[.pointer (some ⟨bx, 0, none⟩)] w fun e w' => e = .returned (.bool (locsB p)) ∧ Below w.heap.size w w' := by
  refine calls_of_E (S := sg 4) (sgOk _) (args := [.pointer (some ⟨bx, 0, none⟩)]) Tryz.func206 rfl rfl (Nat.le_of_ble_eq_true rfl) rfl ?_
  obtain ⟨p1, c1, p2, c2, p3, c3, p4, c4, h0, h1, h2, h3, h4, h5⟩ := h.h
  refine ⟨_, cells_at (cells_block h.b) (i := 0) rfl, ?_⟩
  refine Calls.mono (locsRight_c h0 h.hg h1 h.hB h5 h.len) ?_
  rintro e V ⟨rfl, hb⟩
  exact ⟨rfl, hb⟩
def evV (bx : Nat) : Value := .func (.func 203) #[] #[.pointer (some ⟨bx, 0, none⟩)]
theorem dem3_c (h : DmV B w g bx p) {ev : Nat} (hev : w.heap[ev]? = some (.cells #[evV bx] 308 (0, 0))) : Calls Tryz.prog 208 #[.pointer (some ⟨bx, 0, none⟩), .pointer (some ⟨ev, 0, none⟩)] w fun e w' => e = .returned (.bool (decide (1 ≤ p.threads.length) && (decide (p.threads.length ≤ 4) && p.threads.all fun l => decide (l.length ≤ 12)))) ∧ Below w.heap.size w w' := by
  refine calls_of_E (S := sg 21) (sgOk _) (args := [.pointer (some ⟨bx, 0, none⟩), .pointer (some ⟨ev, 0, none⟩)]) Tryz.func208 rfl rfl (Nat.le_of_ble_eq_true rfl) rfl ?_
  obtain ⟨p1, c1, p2, c2, p3, c3, p4, c4, h0, h1, h2, h3, h4, h5⟩ := h.h
  refine ⟨_, cells_at (cells_block h.b) (i := 0) rfl, ?_⟩
  refine ⟨_, cells_at h0 (i := 3) rfl, ?_⟩
  refine And.intro (fun ha => ?_) (fun ha => ?_)
  · have ha : (1 : Int) ≤ (p.threads.length : Int) := of_decide_eq_true ha
    refine ⟨_, cells_at (cells_block h.b) (i := 0) rfl, ?_⟩
    refine ⟨_, cells_at h0 (i := 3) rfl, ?_⟩
    refine And.intro (fun hb => ?_) (fun hb => ?_)
    · have hb : (p.threads.length : Int) ≤ 4 := of_decide_eq_true hb
      refine ⟨_, cells_at (cells_block hev) (i := 0) rfl, ?_⟩
      refine Calls.mono (every_c false h) ?_
      rintro e V ⟨rfl, hbV⟩
      refine ⟨rb ?_, hbV⟩
      rw [decide_eq_true (by omega), decide_eq_true (by omega), Bool.true_and, Bool.true_and]; rfl
    · have hb : ¬ (p.threads.length : Int) ≤ 4 := of_decide_eq_false hb
      exact ⟨rb (by rw [decide_eq_false (p := p.threads.length ≤ 4) (by omega)]; simp), Below.refl _ _⟩
  · have ha : ¬ (1 : Int) ≤ (p.threads.length : Int) := of_decide_eq_false ha
    refine brF ?_
    exact ⟨rb (by rw [decide_eq_false (p := 1 ≤ p.threads.length) (by omega)]; rfl), Below.refl _ _⟩
theorem dem4_c (h : DmV B w g bx p) {ev : Nat} (hev : w.heap[ev]? = some (.cells #[evV bx] 308 (0, 0))) : Calls Tryz.prog 210 #[.pointer (some ⟨ev, 0, none⟩), .pointer (some ⟨bx, 0, none⟩)] w fun e w' => e = .returned (.bool (p.threads.all fun l => threadB l p.locs.length)) ∧ Below w.heap.size w w' := by
  refine calls_of_E (S := sg 6) (sgOk _) (args := [.pointer (some ⟨ev, 0, none⟩), .pointer (some ⟨bx, 0, none⟩)]) Tryz.func210 rfl rfl (Nat.le_of_ble_eq_true rfl) rfl ?_
  refine ⟨_, cells_at (cells_block hev) (i := 0) rfl, ?_⟩
  refine Calls.mono (every_c true h) ?_
  rintro e V ⟨rfl, hbV⟩
  exact ⟨rfl, hbV⟩
theorem dem5_c (h : DmV B w g bx p) : Calls Tryz.prog 213 #[.pointer (some ⟨bx, 0, none⟩)] w fun e w' => e = .returned (.bool (decide (p.ask = 1) || (decide (p.ask = 2) || decide (p.ask = 3)))) ∧ Below w.heap.size w w' := by
  refine calls_of_E (S := sg 21) (sgOk _) (args := [.pointer (some ⟨bx, 0, none⟩)]) Tryz.func213 rfl rfl (Nat.le_of_ble_eq_true rfl) rfl ?_
  obtain ⟨p1, c1, p2, c2, p3, c3, p4, c4, h0, h1, h2, h3, h4, h5⟩ := h.h
  refine ⟨_, cells_at (cells_block h.b) (i := 0) rfl, ?_⟩
  refine ⟨_, cells_at h0 (i := 4) rfl, ?_⟩
  refine And.intro (fun ha => ?_) (fun ha => ?_)
  · have ha : decide (p.ask = 1) = true := (u8d p.ask 1).symm.trans ha
    refine brT ?_
    exact ⟨rb (by rw [ha]; rfl), Below.refl _ _⟩
  · have ha : decide (p.ask = 1) = false := (u8d p.ask 1).symm.trans ha
    refine ⟨_, cells_at (cells_block h.b) (i := 0) rfl, ?_⟩
    refine ⟨_, cells_at h0 (i := 4) rfl, ?_⟩
    refine And.intro (fun hb => ?_) (fun hb => ?_)
    · have hb : decide (p.ask = 2) = true := (u8d p.ask 2).symm.trans hb
      exact ⟨rb (by rw [ha, hb]; rfl), Below.refl _ _⟩
    · have hb : decide (p.ask = 2) = false := (u8d p.ask 2).symm.trans hb
      refine ⟨_, cells_at (cells_block h.b) (i := 0) rfl, ?_⟩
      refine ⟨_, cells_at h0 (i := 4) rfl, ?_⟩
      exact ⟨rb (by rw [ha, hb]; exact u8d p.ask 3), Below.refl _ _⟩
theorem dem6_c (h : DmV B w g bx p) : Calls Tryz.prog 214 #[.pointer (some ⟨bx, 0, none⟩)] w fun e w' => e = .returned (.bool (condB p.threads.length p.locs.length 20 p.cond)) ∧ Below w.heap.size w w' := by
  refine calls_of_E (S := sg 17) (sgOk _) (args := [.pointer (some ⟨bx, 0, none⟩)]) Tryz.func214 rfl rfl (Nat.le_of_ble_eq_true rfl) rfl ?_
  have hbd : Below w.heap.size w w.drew := (Below.refl _ w).drew
  have hd := h.below hbd
  obtain ⟨p1, c1, p2, c2, p3, c3, p4, c4, h0, h1, h2, h3, h4, h5⟩ := hd.h
  refine DrawE.ord [] [0, 1, 2, 3, 4, 5, 6, 7, 8, 9, 10, 11, 12, 13, 14, 15] (by kernel_rfl) ?_
  refine ⟨_, cells_at (cells_block hd.b) (i := 0) rfl, ?_⟩
  refine ⟨cndCells p.cond p4 c4, rfl, cells_sub (n := 5) (m := 5) h0, hd.hg, ?_⟩
  refine ⟨_, cells_at (cells_block hd.b) (i := 0) rfl, ?_⟩
  refine ⟨_, cells_at h0 (i := 3) rfl, ?_⟩
  refine ⟨_, cells_at (cells_block hd.b) (i := 0) rfl, ?_⟩
  refine ⟨_, cells_at h0 (i := 1) rfl, ?_⟩
  refine Calls.mono (Cond_c hd.hB h4) ?_
  rintro e V ⟨rfl, hbV⟩
  exact ⟨hbV, rfl, hbd.trans hbV⟩
def dmFs (bx ev : Nat) : List Value := [i64 70, .func (.func 204) #[] #[.pointer (some ⟨bx, 0, none⟩)], i64 71, .func (.func 206) #[] #[.pointer (some ⟨bx, 0, none⟩)],
  i64 72, .func (.func 208) #[] #[.pointer (some ⟨bx, 0, none⟩), .pointer (some ⟨ev, 0, none⟩)], i64 73, .func (.func 210) #[] #[.pointer (some ⟨ev, 0, none⟩), .pointer (some ⟨bx, 0, none⟩)],
  i64 75, .func (.func 213) #[] #[.pointer (some ⟨bx, 0, none⟩)], i64 74, .func (.func 214) #[] #[.pointer (some ⟨bx, 0, none⟩)]]
theorem demands_c {g : Nat} {w : World} : Calls Tryz.prog 167 #[.pointer (some ⟨g, 0, none⟩)] w fun e w' => e = .returned (.slice (some ⟨w.heap.size + 2, 0, none⟩) 6 6) ∧
    w'.heap[w.heap.size]? = some (.cells #[.pointer (some ⟨g, 0, none⟩)] 264 (0, 0)) ∧ w'.heap[w.heap.size + 1]? = some (.cells #[evV w.heap.size] 308 (0, 0)) ∧
    w'.heap[w.heap.size + 2]? = some (.cells (dmFs w.heap.size (w.heap.size + 1)).toArray 266 (0, 0)) ∧ w'.heap.size = w.heap.size + 3 ∧ Below w.heap.size w w' := by
  refine calls_of_E (S := sg 18) (sgOk _) (args := [.pointer (some ⟨g, 0, none⟩)]) Tryz.func167 rfl rfl (Nat.le_of_ble_eq_true rfl) rfl ?_
  have hs := World.size_alloc w (.cells (Value.pointer (some ⟨g, 0, none⟩)).cells 264)
  refine store_new (X := w.alloc (.cells (Value.pointer (some ⟨g, 0, none⟩)).cells 264)) (v := evV w.heap.size) (ttOk.get 308 _ rfl) rfl rfl rfl fun V hbV fV sV => ?_
  generalize hev : (w.alloc (.cells (Value.pointer (some ⟨g, 0, none⟩)).cells 264)).heap.size = ev at *
  refine ⟨[i64 70, .func (.func 204) #[] #[.pointer (some ⟨w.heap.size, 0, none⟩)]], rfl, ?_⟩
  refine ⟨[i64 71, .func (.func 206) #[] #[.pointer (some ⟨w.heap.size, 0, none⟩)]], rfl, ?_⟩
  refine ⟨[i64 72, .func (.func 208) #[] #[.pointer (some ⟨w.heap.size, 0, none⟩), .pointer (some ⟨ev, 0, none⟩)]], rfl, ?_⟩
  refine ⟨[i64 73, .func (.func 210) #[] #[.pointer (some ⟨ev, 0, none⟩), .pointer (some ⟨w.heap.size, 0, none⟩)]], rfl, ?_⟩
  refine ⟨[i64 75, .func (.func 213) #[] #[.pointer (some ⟨w.heap.size, 0, none⟩)]], rfl, ?_⟩
  refine ⟨[i64 74, .func (.func 214) #[] #[.pointer (some ⟨w.heap.size, 0, none⟩)]], rfl, ?_⟩
  refine ⟨⟨by decide, by decide, rfl⟩, dmFs w.heap.size ev, rfl, ?_⟩
  subst hs
  refine ⟨?_, ?_, ?_, ?_, ?_, ?_⟩
  · rw [sV]; rfl
  · exact hold _ (block_below (hev ▸ hbV) (hnew w _))
  · exact hold _ fV
  · rw [show w.heap.size + 2 = V.heap.size from sV.symm]; exact hnew _ _
  · rw [World.size_alloc, sV]
  · exact (((Below.refl _ w).alloc (Nat.le_refl _) _).trans (hbV.mono (by omega))).alloc (by omega) _
end
end Go.Proofs.YthgmcegmgjoafaaGreatDoor
namespace Go.Proofs.YthgmcegmgjoafaaGreatDoor
open Go.Vc Go.RowKit Go.Sei
def okL (p : Prg) : List Bool := [isWordL p.name, locsB p, decide (1 ≤ p.threads.length) && (decide (p.threads.length ≤ 4) && p.threads.all fun l => decide (l.length ≤ 12)), p.threads.all (fun l => threadB l p.locs.length),
  decide (p.ask = 1) || (decide (p.ask = 2) || decide (p.ask = 3)), condB p.threads.length p.locs.length 20 p.cond]
theorem okL_all {p : Prg} : okPrg p = (okL p).all id := by
  unfold okPrg okL
  simp only [List.all_cons, List.all_nil, Bool.and_true, id]
theorem Right_c {B : Nat} {p : Prg} {vs : List Value} {w : World} (hB : B ≤ w.heap.size) (hp : PrgV B w vs p) (hG : GlobC w) :
    Calls Tryz.prog 105 #[.agg vs.toArray] w fun e w' => ∃ n : Int, e = .returned (i64 n) ∧ (n = 0 ↔ okPrg p = true) ∧ Below w.heap.size w w' := by
  obtain ⟨hl, p1, c1, p2, c2, p3, c3, p4, c4, rfl, h1, h2, h3, h4, h5⟩ := hp
  refine calls_of_E (S := sg 18) (sgOk _) (args := [.agg (prgCells p p1 c1 p2 c2 p3 c3 p4 c4).toArray]) Tryz.func105 rfl rfl (Nat.le_of_ble_eq_true rfl) rfl ?_
  obtain ⟨L, hL⟩ : ∃ L, L = w.heap.size := ⟨_, rfl⟩
  have hn := hnew w (.cells (Value.agg (prgCells p p1 c1 p2 c2 p3 c3 p4 c4).toArray).cells 29)
  have hs := World.size_alloc w (.cells (Value.agg (prgCells p p1 c1 p2 c2 p3 c3 p4 c4).toArray).cells 29)
  have hb : Below w.heap.size w (w.alloc (.cells (Value.agg (prgCells p p1 c1 p2 c2 p3 c3 p4 c4).toArray).cells 29)) := (Below.refl _ w).alloc (Nat.le_refl _) _
  refine Calls.mono demands_c ?_
  rintro e V ⟨rfl, hbx, hev, hsl, hsz, hbV⟩
  have hbw : Below w.heap.size w V := hb.trans (hbV.mono hb.size)
  have p1' : some (Value.slice (some ⟨(w.alloc (.cells (Value.agg (prgCells p p1 c1 p2 c2 p3 c3 p4 c4).toArray).cells 29)).heap.size + 2, 0, none⟩) 6 6) = some (Value.slice (some ⟨L + 3, 0, none⟩) 6 6) := by rw [hs, hL]
  have hD : DmV B V L (L + 1) p := by
    have hbB := hbw.mono hB
    rw [hs, ← hL] at hbx
    refine ⟨Nat.le_trans hB hbw.size, by omega, hl, ⟨p1, c1, p2, c2, p3, c3, p4, c4, cells_block (block_below hbV (hL ▸ hn)), h1.below hbB, h2.below hbB, h3.below hbB, h4.kept hbB, h5⟩, hbx, hG.below hbw⟩
  rw [hs, ← hL] at hev hsl
  clear hn hs hb hbx hbV hsz
  refine ⟨Nat, fun j => ⟨[(5, .slice (some ⟨L + 3, 0, none⟩) 6 6), (6, i64 6), (7, i64 (j : Nat))], []⟩,
    fun j X => j ≤ 6 ∧ (∀ i, i < j → (okL p)[i]? = some true) ∧ DmV B X L (L + 1) p ∧ X.heap[L + 2]? = some (.cells #[evV (L + 1)] 308 (0, 0)) ∧ X.heap[L + 3]? = some (.cells (dmFs (L + 1) (L + 2)).toArray 266 (0, 0)) ∧ Below w.heap.size w X, fun j => 6 - j, 0,
    ⟨.cons p1' (.cons rfl (.cons rfl .nil)), rfl⟩, ⟨Nat.zero_le _, fun i hi => by omega, hD, hev, hsl, hbw⟩, ?_⟩
  clear hD hev hsl hbw p1'
  rintro j X ⟨hj, hpre, hD, hev, hsl, hbw⟩
  dsimp only at hj hpre ⊢
  refine And.intro (fun hc => ?_) (fun hc => ?_)
  · have hc : (j : Int) < 6 := of_decide_eq_true hc
    have hno : ∀ {i : Nat}, (okL p)[i]? = some false → okPrg p = false := fun h => by rw [okL_all]; exact all_no h
    have hcs : j = 0 ∨ j = 1 ∨ j = 2 ∨ j = 3 ∨ j = 4 ∨ j = 5 := by omega
    rcases hcs with rfl | rfl | rfl | rfl | rfl | rfl
    · refine ⟨0, rfl, by decide, ?_⟩
      refine ⟨[i64 70, .func (.func 204) #[] #[.pointer (some ⟨L + 1, 0, none⟩)]], rfl, cells_sub (n := 0) (m := 2) (cells_block hsl), hlt hsl, ?_⟩
      refine store_new (X := X) (v := .agg [i64 70, .func (.func 204) #[] #[.pointer (some ⟨L + 1, 0, none⟩)]].toArray) (ttOk.get 266 _ rfl) rfl rfl rfl fun Y hbY fY sY => ?_
      have hY := hD.below hbY
      have hevY := block_below hbY hev
      have hslY := block_below hbY hsl
      refine ⟨_, cells_at (cells_block fY) (i := 1) rfl, ?_⟩
      refine Calls.mono (dem1_c hY) ?_
      rintro e W ⟨rfl, hbW⟩
      have hbX : Below w.heap.size w W := (hbw.trans (hbY.mono hbw.size)).trans (hbW.mono (Nat.le_trans hbw.size hbY.size))
      refine And.intro (fun hb => ?_) (fun hb => ?_)
      · have hb : (!((okL p)[0]'(by show 0 < 6; decide))) = true := hb
        have hb : (okL p)[0]? = some false := by rw [List.getElem?_eq_getElem (by show 0 < 6; decide)]; exact congrArg some (by rw [← Bool.not_not ((okL p)[0]'(by show 0 < 6; decide)), hb]; rfl)
        refine ⟨_, cells_at (cells_block (block_below hbW fY)) (i := 0) rfl, ?_⟩
        exact ⟨70, rfl, ⟨fun h => absurd h (by decide), fun h => by rw [hno hb] at h; cases h⟩, hbX⟩
      · have hb : (!((okL p)[0]'(by show 0 < 6; decide))) = false := hb
        have hb : (okL p)[0]? = some true := by rw [List.getElem?_eq_getElem (by show 0 < 6; decide)]; exact congrArg some (by rw [← Bool.not_not ((okL p)[0]'(by show 0 < 6; decide)), hb]; rfl)
        refine ⟨_, (wrap_i64 (by omega)).trans rfl, ?_⟩
        refine ⟨1, ⟨.cons rfl (.cons rfl (.cons rfl .nil)), rfl⟩, ⟨by omega, fun i hi => ?_, hY.below hbW, block_below hbW hevY, block_below hbW hslY, hbX⟩, by decide⟩
        by_cases hik : i = 0
        · rw [hik]; exact hb
        · exact hpre i (by omega)
    · refine ⟨1, rfl, by decide, ?_⟩
      refine ⟨[i64 71, .func (.func 206) #[] #[.pointer (some ⟨L + 1, 0, none⟩)]], rfl, cells_sub (n := 2) (m := 2) (cells_block hsl), hlt hsl, ?_⟩
      refine store_new (X := X) (v := .agg [i64 71, .func (.func 206) #[] #[.pointer (some ⟨L + 1, 0, none⟩)]].toArray) (ttOk.get 266 _ rfl) rfl rfl rfl fun Y hbY fY sY => ?_
      have hY := hD.below hbY
      have hevY := block_below hbY hev
      have hslY := block_below hbY hsl
      refine ⟨_, cells_at (cells_block fY) (i := 1) rfl, ?_⟩
      refine Calls.mono (dem2_c hY) ?_
      rintro e W ⟨rfl, hbW⟩
      have hbX : Below w.heap.size w W := (hbw.trans (hbY.mono hbw.size)).trans (hbW.mono (Nat.le_trans hbw.size hbY.size))
      refine And.intro (fun hb => ?_) (fun hb => ?_)
      · have hb : (!((okL p)[1]'(by show 1 < 6; decide))) = true := hb
        have hb : (okL p)[1]? = some false := by rw [List.getElem?_eq_getElem (by show 1 < 6; decide)]; exact congrArg some (by rw [← Bool.not_not ((okL p)[1]'(by show 1 < 6; decide)), hb]; rfl)
        refine ⟨_, cells_at (cells_block (block_below hbW fY)) (i := 0) rfl, ?_⟩
        exact ⟨71, rfl, ⟨fun h => absurd h (by decide), fun h => by rw [hno hb] at h; cases h⟩, hbX⟩
      · have hb : (!((okL p)[1]'(by show 1 < 6; decide))) = false := hb
        have hb : (okL p)[1]? = some true := by rw [List.getElem?_eq_getElem (by show 1 < 6; decide)]; exact congrArg some (by rw [← Bool.not_not ((okL p)[1]'(by show 1 < 6; decide)), hb]; rfl)
        refine ⟨_, (wrap_i64 (by omega)).trans rfl, ?_⟩
        refine ⟨2, ⟨.cons rfl (.cons rfl (.cons rfl .nil)), rfl⟩, ⟨by omega, fun i hi => ?_, hY.below hbW, block_below hbW hevY, block_below hbW hslY, hbX⟩, by decide⟩
        by_cases hik : i = 1
        · rw [hik]; exact hb
        · exact hpre i (by omega)
    · refine ⟨2, rfl, by decide, ?_⟩
      refine ⟨[i64 72, .func (.func 208) #[] #[.pointer (some ⟨L + 1, 0, none⟩), .pointer (some ⟨L + 2, 0, none⟩)]], rfl, cells_sub (n := 4) (m := 2) (cells_block hsl), hlt hsl, ?_⟩
      refine store_new (X := X) (v := .agg [i64 72, .func (.func 208) #[] #[.pointer (some ⟨L + 1, 0, none⟩), .pointer (some ⟨L + 2, 0, none⟩)]].toArray) (ttOk.get 266 _ rfl) rfl rfl rfl fun Y hbY fY sY => ?_
      have hY := hD.below hbY
      have hevY := block_below hbY hev
      have hslY := block_below hbY hsl
      refine ⟨_, cells_at (cells_block fY) (i := 1) rfl, ?_⟩
      refine Calls.mono (dem3_c hY hevY) ?_
      rintro e W ⟨rfl, hbW⟩
      have hbX : Below w.heap.size w W := (hbw.trans (hbY.mono hbw.size)).trans (hbW.mono (Nat.le_trans hbw.size hbY.size))
      refine And.intro (fun hb => ?_) (fun hb => ?_)
      · have hb : (!((okL p)[2]'(by show 2 < 6; decide))) = true := hb
        have hb : (okL p)[2]? = some false := by rw [List.getElem?_eq_getElem (by show 2 < 6; decide)]; exact congrArg some (by rw [← Bool.not_not ((okL p)[2]'(by show 2 < 6; decide)), hb]; rfl)
        refine ⟨_, cells_at (cells_block (block_below hbW fY)) (i := 0) rfl, ?_⟩
        exact ⟨72, rfl, ⟨fun h => absurd h (by decide), fun h => by rw [hno hb] at h; cases h⟩, hbX⟩
      · have hb : (!((okL p)[2]'(by show 2 < 6; decide))) = false := hb
        have hb : (okL p)[2]? = some true := by rw [List.getElem?_eq_getElem (by show 2 < 6; decide)]; exact congrArg some (by rw [← Bool.not_not ((okL p)[2]'(by show 2 < 6; decide)), hb]; rfl)
        refine ⟨_, (wrap_i64 (by omega)).trans rfl, ?_⟩
        refine ⟨3, ⟨.cons rfl (.cons rfl (.cons rfl .nil)), rfl⟩, ⟨by omega, fun i hi => ?_, hY.below hbW, block_below hbW hevY, block_below hbW hslY, hbX⟩, by decide⟩
        by_cases hik : i = 2
        · rw [hik]; exact hb
        · exact hpre i (by omega)
    · refine ⟨3, rfl, by decide, ?_⟩
      refine ⟨[i64 73, .func (.func 210) #[] #[.pointer (some ⟨L + 2, 0, none⟩), .pointer (some ⟨L + 1, 0, none⟩)]], rfl, cells_sub (n := 6) (m := 2) (cells_block hsl), hlt hsl, ?_⟩
      refine store_new (X := X) (v := .agg [i64 73, .func (.func 210) #[] #[.pointer (some ⟨L + 2, 0, none⟩), .pointer (some ⟨L + 1, 0, none⟩)]].toArray) (ttOk.get 266 _ rfl) rfl rfl rfl fun Y hbY fY sY => ?_
      have hY := hD.below hbY
      have hevY := block_below hbY hev
      have hslY := block_below hbY hsl
      refine ⟨_, cells_at (cells_block fY) (i := 1) rfl, ?_⟩
      refine Calls.mono (dem4_c hY hevY) ?_
      rintro e W ⟨rfl, hbW⟩
      have hbX : Below w.heap.size w W := (hbw.trans (hbY.mono hbw.size)).trans (hbW.mono (Nat.le_trans hbw.size hbY.size))
      refine And.intro (fun hb => ?_) (fun hb => ?_)
      · have hb : (!((okL p)[3]'(by show 3 < 6; decide))) = true := hb
        have hb : (okL p)[3]? = some false := by rw [List.getElem?_eq_getElem (by show 3 < 6; decide)]; exact congrArg some (by rw [← Bool.not_not ((okL p)[3]'(by show 3 < 6; decide)), hb]; rfl)
        refine ⟨_, cells_at (cells_block (block_below hbW fY)) (i := 0) rfl, ?_⟩
        exact ⟨73, rfl, ⟨fun h => absurd h (by decide), fun h => by rw [hno hb] at h; cases h⟩, hbX⟩
      · have hb : (!((okL p)[3]'(by show 3 < 6; decide))) = false := hb
        have hb : (okL p)[3]? = some true := by rw [List.getElem?_eq_getElem (by show 3 < 6; decide)]; exact congrArg some (by rw [← Bool.not_not ((okL p)[3]'(by show 3 < 6; decide)), hb]; rfl)
        refine ⟨_, (wrap_i64 (by omega)).trans rfl, ?_⟩
        refine ⟨4, ⟨.cons rfl (.cons rfl (.cons rfl .nil)), rfl⟩, ⟨by omega, fun i hi => ?_, hY.below hbW, block_below hbW hevY, block_below hbW hslY, hbX⟩, by decide⟩
        by_cases hik : i = 3
        · rw [hik]; exact hb
        · exact hpre i (by omega)
    · refine ⟨4, rfl, by decide, ?_⟩
      refine ⟨[i64 75, .func (.func 213) #[] #[.pointer (some ⟨L + 1, 0, none⟩)]], rfl, cells_sub (n := 8) (m := 2) (cells_block hsl), hlt hsl, ?_⟩
      refine store_new (X := X) (v := .agg [i64 75, .func (.func 213) #[] #[.pointer (some ⟨L + 1, 0, none⟩)]].toArray) (ttOk.get 266 _ rfl) rfl rfl rfl fun Y hbY fY sY => ?_
      have hY := hD.below hbY
      have hevY := block_below hbY hev
      have hslY := block_below hbY hsl
      refine ⟨_, cells_at (cells_block fY) (i := 1) rfl, ?_⟩
      refine Calls.mono (dem5_c hY) ?_
      rintro e W ⟨rfl, hbW⟩
      have hbX : Below w.heap.size w W := (hbw.trans (hbY.mono hbw.size)).trans (hbW.mono (Nat.le_trans hbw.size hbY.size))
      refine And.intro (fun hb => ?_) (fun hb => ?_)
      · have hb : (!((okL p)[4]'(by show 4 < 6; decide))) = true := hb
        have hb : (okL p)[4]? = some false := by rw [List.getElem?_eq_getElem (by show 4 < 6; decide)]; exact congrArg some (by rw [← Bool.not_not ((okL p)[4]'(by show 4 < 6; decide)), hb]; rfl)
        refine ⟨_, cells_at (cells_block (block_below hbW fY)) (i := 0) rfl, ?_⟩
        exact ⟨75, rfl, ⟨fun h => absurd h (by decide), fun h => by rw [hno hb] at h; cases h⟩, hbX⟩
      · have hb : (!((okL p)[4]'(by show 4 < 6; decide))) = false := hb
        have hb : (okL p)[4]? = some true := by rw [List.getElem?_eq_getElem (by show 4 < 6; decide)]; exact congrArg some (by rw [← Bool.not_not ((okL p)[4]'(by show 4 < 6; decide)), hb]; rfl)
        refine ⟨_, (wrap_i64 (by omega)).trans rfl, ?_⟩
        refine ⟨5, ⟨.cons rfl (.cons rfl (.cons rfl .nil)), rfl⟩, ⟨by omega, fun i hi => ?_, hY.below hbW, block_below hbW hevY, block_below hbW hslY, hbX⟩, by decide⟩
        by_cases hik : i = 4
        · rw [hik]; exact hb
        · exact hpre i (by omega)
    · refine ⟨5, rfl, by decide, ?_⟩
      refine ⟨[i64 74, .func (.func 214) #[] #[.pointer (some ⟨L + 1, 0, none⟩)]], rfl, cells_sub (n := 10) (m := 2) (cells_block hsl), hlt hsl, ?_⟩
      refine store_new (X := X) (v := .agg [i64 74, .func (.func 214) #[] #[.pointer (some ⟨L + 1, 0, none⟩)]].toArray) (ttOk.get 266 _ rfl) rfl rfl rfl fun Y hbY fY sY => ?_
      have hY := hD.below hbY
      have hevY := block_below hbY hev
      have hslY := block_below hbY hsl
      refine ⟨_, cells_at (cells_block fY) (i := 1) rfl, ?_⟩
      refine Calls.mono (dem6_c hY) ?_
      rintro e W ⟨rfl, hbW⟩
      have hbX : Below w.heap.size w W := (hbw.trans (hbY.mono hbw.size)).trans (hbW.mono (Nat.le_trans hbw.size hbY.size))
      refine And.intro (fun hb => ?_) (fun hb => ?_)
      · have hb : (!((okL p)[5]'(by show 5 < 6; decide))) = true := hb
        have hb : (okL p)[5]? = some false := by rw [List.getElem?_eq_getElem (by show 5 < 6; decide)]; exact congrArg some (by rw [← Bool.not_not ((okL p)[5]'(by show 5 < 6; decide)), hb]; rfl)
        refine ⟨_, cells_at (cells_block (block_below hbW fY)) (i := 0) rfl, ?_⟩
        exact ⟨74, rfl, ⟨fun h => absurd h (by decide), fun h => by rw [hno hb] at h; cases h⟩, hbX⟩
      · have hb : (!((okL p)[5]'(by show 5 < 6; decide))) = false := hb
        have hb : (okL p)[5]? = some true := by rw [List.getElem?_eq_getElem (by show 5 < 6; decide)]; exact congrArg some (by rw [← Bool.not_not ((okL p)[5]'(by show 5 < 6; decide)), hb]; rfl)
        refine ⟨_, (wrap_i64 (by omega)).trans rfl, ?_⟩
        refine ⟨6, ⟨.cons rfl (.cons rfl (.cons rfl .nil)), rfl⟩, ⟨by omega, fun i hi => ?_, hY.below hbW, block_below hbW hevY, block_below hbW hslY, hbX⟩, by decide⟩
        by_cases hik : i = 5
        · rw [hik]; exact hb
        · exact hpre i (by omega)
  · have hc : ¬ (j : Int) < 6 := of_decide_eq_false hc
    obtain rfl : j = 6 := by omega
    exact ⟨0, rfl, ⟨fun _ => by rw [okL_all]; exact all_take hpre rfl, fun _ => rfl⟩, hbw⟩
end Go.Proofs.YthgmcegmgjoafaaGreatDoor
namespace Go.Sei
def permGo (n : Int) : Nat → List Int → Bool
  | _, [] => true
  | m, x :: r => decide (0 ≤ x) && (decide (x < n) && (decide (x < 4) && (decide (m &&& 2 ^ x.toNat = 0) && permGo n (m ||| 2 ^ x.toNat) r)))
def permL (l : List Int) (n : Int) : Bool := decide ((l.length : Int) = n) && permGo n 0 l
def pairL (l : List Int) : Bool := (List.range l.length).all fun i => (List.range l.length).all fun j => (decide ((l.getD i 0).tdiv 2 = (l.getD j 0).tdiv 2) == decide (i / 2 = j / 2))
def reordL {α : Type} (a : List α) (l : List Int) : List α := l.filterMap fun x => a[x.toNat]?
def pivGo (l : List Int) : Nat → Option Nat
  | 0 => none
  | k + 1 => if l.getD (k + 1) 0 < l.getD k 0 then pivGo l k else some k
def jGo (l : List Int) (x : Int) : Nat → Nat
  | 0 => 0
  | k + 1 => if l.getD k 0 < x then jGo l x k else k
def stepL (l : List Int) : Option (List Int) := match pivGo l (l.length - 1) with
  | none => none
  | some i =>
    let j := jGo l (l.getD i 0) l.length
    let s := (l.set i (l.getD j 0)).set j (l.getD i 0)
    some (s.take (i + 1) ++ (s.drop (i + 1)).reverse)
def seqL : Nat → List Int → List (List Int)
  | 0, _ => []
  | f + 1, l => l :: (match stepL l with
    | none => []
    | some m => seqL f m)
theorem seqL_len : ∀ {f : Nat} {l : List Int}, (seqL f l).length ≤ f
  | 0, _ => Nat.le_refl _
  | f + 1, l => by
    unfold seqL
    refine Nat.succ_le_succ ?_
    split
    · exact Nat.zero_le _
    · exact seqL_len
def iotaL (n : Nat) : List Int := (List.range n).map Int.ofNat
def permsL (n : Nat) : List (List Int) := seqL 24 (iotaL n)
def chainB : List (List Int) → Bool
  | [] => true
  | a :: r => decide (stepL a = r.head?) && chainB r
theorem chain_step {l : List Int} {rest : List (List Int)} : ∀ {pre xs : List (List Int)}, chainB xs = true → xs = pre ++ l :: rest → stepL l = rest.head?
  | [], _, h, e => by
    subst e
    simp only [List.nil_append, chainB, Bool.and_eq_true, decide_eq_true_eq] at h
    exact h.1
  | a :: pre, _, h, e => by
    subst e
    simp only [List.cons_append, chainB, Bool.and_eq_true, decide_eq_true_eq] at h
    exact chain_step h.2 rfl
def permsOk (n : Nat) : Bool := chainB (permsL n) && (permsL n).all (fun l => decide (l.length = n)) && decide ((permsL n).head? = some (iotaL n))
theorem perms_ok1 : permsOk 1 = true := by kernel_rfl
theorem perms_ok2 : permsOk 2 = true := by kernel_rfl
theorem perms_ok3 : permsOk 3 = true := by kernel_rfl
theorem perms_ok4 : permsOk 4 = true := by kernel_rfl
theorem perms_ok {n : Nat} (h1 : 1 ≤ n) (h4 : n ≤ 4) : chainB (permsL n) = true ∧ (∀ l ∈ permsL n, l.length = n) ∧ ∃ rest, permsL n = iotaL n :: rest := by
  have h : permsOk n = true := by
    have hc : n = 1 ∨ n = 2 ∨ n = 3 ∨ n = 4 := by omega
    rcases hc with rfl | rfl | rfl | rfl
    · exact perms_ok1
    · exact perms_ok2
    · exact perms_ok3
    · exact perms_ok4
  unfold permsOk at h
  simp only [Bool.and_eq_true, decide_eq_true_eq, List.all_eq_true] at h
  refine ⟨h.1.1, h.1.2, ?_⟩
  cases hp : permsL n with
  | nil => rw [hp] at h; cases h.2
  | cons a r => rw [hp] at h; have := h.2; simp only [List.head?_cons, Option.some.injEq] at this; exact ⟨r, by rw [this]⟩
mutual
def stillL (l : List Int) : Cnd → Bool
  | .mk k t _ _ kids => if k = 1 then decide (t.toNat < l.length) && decide (l.getD t.toNat 0 = t.toNat) else stillLs l kids
def stillLs (l : List Int) : List Cnd → Bool
  | [] => true
  | c :: r => stillL l c && stillLs l r
end
theorem stillLs_all (l : List Int) : ∀ kids : List Cnd, stillLs l kids = kids.all (stillL l)
  | [] => by rw [stillLs]; rfl
  | c :: r => by rw [stillLs, List.all_cons, stillLs_all l r]
theorem stillL_eq (l : List Int) (c : Cnd) : stillL l c = if c.kind = 1 then decide (c.thread.toNat < l.length) && decide (l.getD c.thread.toNat 0 = c.thread.toNat) else c.kids.all (stillL l) := by
  obtain ⟨k, t, n, v, kids⟩ := c
  rw [stillL, stillLs_all]; rfl
end Go.Sei
namespace Go.Proofs.YthgmcegmgjoafaaGreatDoor
open Go.Vc Go.RowKit Go.Sei
theorem ofInt_nat {a : Nat} (h : a < 2 ^ 64) : (BitVec.ofInt 64 (a : Int)).toNat = a := by
  rw [BitVec.toNat_ofInt]
  omega
theorem u64_and {a b : Nat} (ha : a < 2 ^ 64) (hb : b < 2 ^ 64) : IntKind.u64.wrap ((BitVec.ofInt IntKind.u64.bits (a : Int) &&& BitVec.ofInt IntKind.u64.bits (b : Int)).toNat : Int) = ((a &&& b : Nat) : Int) := by
  show IntKind.u64.wrap ((BitVec.ofInt 64 (a : Int) &&& BitVec.ofInt 64 (b : Int)).toNat : Int) = _
  rw [BitVec.toNat_and, ofInt_nat ha, ofInt_nat hb]
  have : a &&& b ≤ a := Nat.and_le_left
  exact wrap_u64 (by omega)
theorem u64_or {a b : Nat} (ha : a < 2 ^ 64) (hb : b < 2 ^ 64) : IntKind.u64.wrap ((BitVec.ofInt IntKind.u64.bits (a : Int) ||| BitVec.ofInt IntKind.u64.bits (b : Int)).toNat : Int) = ((a ||| b : Nat) : Int) := by
  show IntKind.u64.wrap ((BitVec.ofInt 64 (a : Int) ||| BitVec.ofInt 64 (b : Int)).toNat : Int) = _
  rw [BitVec.toNat_or, ofInt_nat ha, ofInt_nat hb]
  have : a ||| b < 2 ^ 64 := Nat.or_lt_two_pow ha hb
  exact wrap_u64 (by omega)
theorem permutes_c {p : Option Addr} {cap : Nat} {l : List Int} {n : Int} {w : World} (hl : SlR intE w p l) (hn : l.length ≤ 140737488351232) :
    Calls Tryz.prog 84 #[.slice p l.length cap, i64 n] w fun e w' => e = .returned (.bool (permL l n)) ∧ w = w' := by
  refine calls_of_E (S := sg 41) (sgOk _) (args := [.slice p l.length cap, i64 n]) Tryz.func84 rfl rfl (Nat.le_of_ble_eq_true rfl) rfl ?_
  refine And.intro (fun h => ?_) (fun h => ?_)
  · have h : (!decide ((l.length : Int) = n)) = true := h
    have h : ¬ (l.length : Int) = n := by simpa using h
    exact ⟨rb (by unfold permL; rw [decide_eq_false h]; rfl), rfl⟩
  have h : (!decide ((l.length : Int) = n)) = false := h
  have h : (l.length : Int) = n := by simpa using h
  have hdef : permL l n = permGo n 0 l := by unfold permL; rw [decide_eq_true h]; rfl
  rw [hdef]
  refine ⟨Nat × Nat, fun s => ⟨[(1, i64 n), (5, .int .u64 (s.2 : Nat)), (12, .slice p l.length cap), (13, i64 l.length), (14, i64 (s.1 : Nat))], []⟩, fun s X => s.1 ≤ l.length ∧ s.2 < 16 ∧ permGo n s.2 (l.drop s.1) = permGo n 0 l ∧ w = X, fun s => l.length - s.1, (0, 0),
    ⟨.cons rfl (.cons rfl (.cons rfl (.cons rfl (.cons rfl .nil)))), rfl⟩, ⟨Nat.zero_le _, by decide, rfl, rfl⟩, ?_⟩
  rintro ⟨k, m⟩ _ ⟨hk, hm, hgo, rfl⟩
  dsimp only at hk hm hgo ⊢
  refine And.intro (fun hc => ?_) (fun hc => ?_)
  · have hc : (k : Int) < (l.length : Int) := of_decide_eq_true hc
    have hkl : k < l.length := by omega
    obtain ⟨b, o, rfl, hb, hat⟩ := hl.at hkl
    refine ⟨k, rfl, hkl, ?_⟩
    refine ⟨_, cells_at (hat k hkl) (i := 0) rfl, ?_⟩
    generalize hx : l[k] = x
    have hstep : permGo n 0 l = (decide (0 ≤ x) && (decide (x < n) && (decide (x < 4) && (decide (m &&& 2 ^ x.toNat = 0) && permGo n (m ||| 2 ^ x.toNat) (l.drop (k + 1)))))) := by
      rw [← hgo, List.drop_eq_getElem_cons hkl, hx]; rfl
    refine And.intro (fun h1 => ?_) (fun h1 => ?_)
    · have h1 : x < 0 := of_decide_eq_true h1
      refine brT ?_
      refine brT ?_
      refine brT ?_
      exact ⟨rb (by rw [hstep, decide_eq_false (by omega)]; rfl), rfl⟩
    have h1 : ¬ x < 0 := of_decide_eq_false h1
    refine And.intro (fun h2 => ?_) (fun h2 => ?_)
    · have h2 : n ≤ x := of_decide_eq_true h2
      refine brT ?_
      refine brT ?_
      exact ⟨rb (by rw [hstep, decide_eq_false (p := x < n) (by omega)]; simp), rfl⟩
    have h2 : ¬ n ≤ x := of_decide_eq_false h2
    refine And.intro (fun h3 => ?_) (fun h3 => ?_)
    · have h3 : 4 ≤ x := of_decide_eq_true h3
      refine brT ?_
      exact ⟨rb (by rw [hstep, decide_eq_false (p := x < 4) (by omega)]; simp), rfl⟩
    have h3 : ¬ 4 ≤ x := of_decide_eq_false h3
    have hx16 : 2 ^ x.toNat < 16 := by
      have : x.toNat < 4 := by omega
      exact Nat.pow_lt_pow_right (by decide) this
    have hsh : IntKind.u64.wrap ((1 : Int) * 2 ^ (min x.toNat IntKind.u64.bits)) = ((2 ^ x.toNat : Nat) : Int) := by
      have e : min x.toNat IntKind.u64.bits = x.toNat := by
        show min x.toNat 64 = _
        omega
      rw [e, Int.one_mul]
      have e2 : (2 : Int) ^ x.toNat = ((2 ^ x.toNat : Nat) : Int) := by simp
      rw [e2]
      obtain ⟨q, hq⟩ : ∃ q, q = 2 ^ x.toNat := ⟨_, rfl⟩
      rw [← hq] at hx16 ⊢
      exact wrap_u64 (by omega)
    refine ⟨by omega, _, hsh, ?_⟩
    refine ⟨_, u64_and (a := m) (b := 2 ^ x.toNat) (by omega) (Nat.lt_trans hx16 (by decide)), ?_⟩
    have hpre : permGo n 0 l = (decide (m &&& 2 ^ x.toNat = 0) && permGo n (m ||| 2 ^ x.toNat) (l.drop (k + 1))) := by
      rw [hstep, decide_eq_true (p := 0 ≤ x) (by omega), decide_eq_true (p := x < n) (by omega), decide_eq_true (p := x < 4) (by omega)]; rfl
    refine And.intro (fun h4 => ?_) (fun h4 => ?_)
    · have h4 : (!decide (((m &&& 2 ^ x.toNat : Nat) : Int) = 0)) = true := h4
      have h4 : ¬ ((m &&& 2 ^ x.toNat : Nat) : Int) = 0 := by simpa using h4
      exact ⟨rb (by rw [hpre, decide_eq_false (by omega)]; rfl), rfl⟩
    · have h4 : (!decide (((m &&& 2 ^ x.toNat : Nat) : Int) = 0)) = false := h4
      have h4 : ((m &&& 2 ^ x.toNat : Nat) : Int) = 0 := by simpa using h4
      refine ⟨by omega, _, hsh, ?_⟩
      refine ⟨_, u64_or (a := m) (b := 2 ^ x.toNat) (by omega) (Nat.lt_trans hx16 (by decide)), ?_⟩
      refine ⟨_, (wrap_i64 (by omega)).trans rfl, ?_⟩
      exact ⟨(k + 1, m ||| 2 ^ x.toNat), ⟨.cons rfl (.cons rfl (.cons rfl (.cons rfl (.cons rfl .nil)))), rfl⟩, ⟨hkl, Nat.or_lt_two_pow (n := 4) hm hx16, by rw [hpre, decide_eq_true (by omega), Bool.true_and], rfl⟩, by show l.length - (k + 1) < l.length - k; omega⟩
  · have hc : ¬ (k : Int) < (l.length : Int) := of_decide_eq_false hc
    obtain rfl : k = l.length := by omega
    rw [List.drop_length] at hgo
    exact ⟨rb hgo, rfl⟩
end Go.Proofs.YthgmcegmgjoafaaGreatDoor
namespace Go.Proofs.YthgmcegmgjoafaaGreatDoor
open Go.Vc Go.RowKit Go.Sei
theorem eq_bool2 (d : Nat) (a b : Bool) (w : World) : (Op.equalIn (d + 1) 4 (.bool a) (.bool b)).run Tryz.prog w = .ok (decide (a = b)) w := by
  simp only [Op.equalIn, Sem.run_bind, run_underlying Tryz.underlying4, Result.andThen_ok, Sem.run_pure]
  cases a <;> cases b <;> rfl
theorem neq_bool (x y : Operand) (a b : Bool) (w : World) : (do eqGuard .neq 4 x y (.bool a) (.bool b); binOp .neq 4 (.bool a) (.bool b)).run Tryz.prog w = .ok (.bool (!decide (a = b))) w := by
  have he : (Op.equal 4 (.bool a) (.bool b)).run Tryz.prog w = .ok (decide (a = b)) w := eq_bool2 9999 a b w
  have h1 : (eqGuard .neq 4 x y (.bool a) (.bool b)).run Tryz.prog w = .ok () w := by
    simp only [eqGuard, Bool.not_true, Bool.false_eq_true, if_false, Sem.run_pure]
  rw [Sem.run_bind, h1]
  simp only [Result.andThen_ok, binOp, Sem.run_bind, he, Sem.run_pure]
def pairAt (l : List Int) (i j : Nat) : Bool := decide ((l.getD i 0).tdiv 2 = (l.getD j 0).tdiv 2) == decide (i / 2 = j / 2)
theorem pair_no {l : List Int} {i j : Nat} (hi : i < l.length) (hj : j < l.length) (h : pairAt l i j = false) : pairL l = false := by
  unfold pairL
  rw [List.all_eq_false]
  refine ⟨i, List.mem_range.2 hi, ?_⟩
  rw [Bool.not_eq_true, List.all_eq_false]
  exact ⟨j, List.mem_range.2 hj, by rw [Bool.not_eq_true]; exact h⟩
theorem paired_c {p : Option Addr} {cap : Nat} {l : List Int} {w : World} (hl : SlR intE w p l) (hn : l.length ≤ 4) (hr : ∀ x ∈ l, 0 ≤ x ∧ x < 4) :
    Calls Tryz.prog 108 #[.slice p l.length cap] w fun e w' => e = .returned (.bool (pairL l)) ∧ Below w.heap.size w w' := by
  refine calls_of_E (S := sg 34) (sgOk _) (args := [.slice p l.length cap]) Tryz.func108 rfl rfl (Nat.le_of_ble_eq_true rfl) rfl ?_
  refine ⟨Nat, fun k => ⟨[(0, .slice p l.length cap), (6, i64 l.length), (7, i64 (k : Nat))], []⟩, fun k X => k ≤ l.length ∧ (∀ i, i < k → ∀ j, j < l.length → pairAt l i j = true) ∧ Below w.heap.size w X, fun k => l.length - k, 0,
    ⟨.cons rfl (.cons rfl (.cons rfl .nil)), rfl⟩, ⟨Nat.zero_le _, fun i hi => by omega, Below.refl _ _⟩, ?_⟩
  rintro k X ⟨hk, hd, hbX⟩
  dsimp only at hk hd ⊢
  refine And.intro (fun hc => ?_) (fun hc => ?_)
  · have hc : (k : Int) < (l.length : Int) := of_decide_eq_true hc
    have hkl : k < l.length := by omega
    obtain ⟨b, o, rfl, hb, hat⟩ := hl.at hkl
    refine ⟨Nat, fun j => ⟨[(0, .slice (some ⟨b, o, none⟩) l.length cap), (3, i64 (k : Nat)), (6, i64 l.length), (7, i64 (k : Nat)), (11, i64 l.length), (12, i64 (j : Nat))], []⟩, fun j X => j ≤ l.length ∧ (∀ i, i < j → pairAt l k i = true) ∧ Below w.heap.size w X, fun j => l.length - j, 0,
      ⟨.cons rfl (.cons rfl (.cons rfl (.cons rfl (.cons rfl (.cons rfl .nil))))), rfl⟩, ⟨Nat.zero_le _, fun i hi => by omega, hbX⟩, ?_⟩
    clear hbX
    rintro j Y ⟨hj, hdj, hbY⟩
    dsimp only at hj hdj ⊢
    refine And.intro (fun hc2 => ?_) (fun hc2 => ?_)
    · have hc2 : (j : Int) < (l.length : Int) := of_decide_eq_true hc2
      have hjl : j < l.length := by omega
      refine DrawE.ord [] [0, 1, 2, 3, 4, 5, 6, 7, 8, 9, 10, 11, 12, 13, 14, 15, 16] (by kernel_rfl) ?_
      have hbd : Below w.heap.size w Y.drew := hbY.drew
      refine ⟨k, rfl, hkl, ?_⟩
      refine ⟨_, cells_at (cells_below hbd (hat k hkl)) (i := 0) rfl, ?_⟩
      have gk : l.getD k 0 = l[k] := by rw [List.getD_eq_getElem?_getD, List.getElem?_eq_getElem hkl]; rfl
      have gj : l.getD j 0 = l[j] := by rw [List.getD_eq_getElem?_getD, List.getElem?_eq_getElem hjl]; rfl
      have rk := hr _ (List.getElem_mem hkl)
      have rj := hr _ (List.getElem_mem hjl)
      have wq : ∀ x : Int, 0 ≤ x ∧ x < 4 → IntKind.i64.wrap (x.tdiv 2) = x.tdiv 2 := fun x hx => by rw [Int.tdiv_eq_ediv_of_nonneg hx.1]; exact wrap_i64 (by omega)
      refine ⟨by decide, _, wq _ rk, ?_⟩
      refine ⟨j, rfl, hjl, ?_⟩
      refine ⟨_, cells_at (cells_below hbd (hat j hjl)) (i := 0) rfl, ?_⟩
      refine ⟨by decide, _, wq _ rj, ?_⟩
      refine ⟨by decide, _, wq (k : Int) (by omega), ?_⟩
      refine ⟨by decide, _, wq (j : Int) (by omega), ?_⟩
      refine ⟨_, fun w => neq_bool _ _ (decide ((l[k]).tdiv 2 = (l[j]).tdiv 2)) (decide ((k : Int).tdiv 2 = (j : Int).tdiv 2)) w, ?_⟩
      have hpa : pairAt l k j = decide (decide ((l[k]).tdiv 2 = (l[j]).tdiv 2) = decide ((k : Int).tdiv 2 = (j : Int).tdiv 2)) := by
        unfold pairAt
        rw [gk, gj]
        have e : decide ((k : Int).tdiv 2 = (j : Int).tdiv 2) = decide (k / 2 = j / 2) := by rw [decide_eq_decide, Int.tdiv_eq_ediv_of_nonneg (by omega), Int.tdiv_eq_ediv_of_nonneg (by omega)]; omega
        rw [e]
        cases decide ((l[k]).tdiv 2 = (l[j]).tdiv 2) <;> cases decide (k / 2 = j / 2) <;> rfl
      refine And.intro (fun h => ?_) (fun h => ?_)
      · have h : (!decide (decide ((l[k]).tdiv 2 = (l[j]).tdiv 2) = decide ((k : Int).tdiv 2 = (j : Int).tdiv 2))) = true := h
        rw [← hpa] at h
        exact ⟨rb (pair_no hkl hjl (by simpa using h)).symm, hbd⟩
      · have h : (!decide (decide ((l[k]).tdiv 2 = (l[j]).tdiv 2) = decide ((k : Int).tdiv 2 = (j : Int).tdiv 2))) = false := h
        rw [← hpa] at h
        refine ⟨_, (wrap_i64 (by omega)).trans rfl, ?_⟩
        refine ⟨j + 1, ⟨.cons rfl (.cons rfl (.cons rfl (.cons rfl (.cons rfl (.cons rfl .nil))))), rfl⟩, ⟨hjl, fun i hi => ?_, hbd⟩, by show l.length - (j + 1) < l.length - j; omega⟩
        by_cases hij : i = j
        · rw [hij]; simpa using h
        · exact hdj i (by omega)
    · have hc2 : ¬ (j : Int) < (l.length : Int) := of_decide_eq_false hc2
      obtain rfl : j = l.length := by omega
      refine ⟨_, (wrap_i64 (by omega)).trans rfl, ?_⟩
      refine ⟨k + 1, ⟨.cons rfl (.cons rfl (.cons rfl .nil)), rfl⟩, ⟨hkl, fun i hi j hj => ?_, hbY⟩, by show l.length - (k + 1) < l.length - k; omega⟩
      by_cases hik : i = k
      · rw [hik]; exact hdj j hj
      · exact hd i (by omega) j hj
  · have hc : ¬ (k : Int) < (l.length : Int) := of_decide_eq_false hc
    obtain rfl : k = l.length := by omega
    refine ⟨rb ?_, hbX⟩
    symm
    unfold pairL
    rw [List.all_eq_true]
    intro i hi
    rw [List.all_eq_true]
    intro j hj
    exact hd i (List.mem_range.1 hi) j (List.mem_range.1 hj)
end Go.Proofs.YthgmcegmgjoafaaGreatDoor
namespace Go.Proofs.YthgmcegmgjoafaaGreatDoor
open Go.Vc Go.RowKit Go.Sei
def WldV (B : Nat) (X : World) (vs : List Value) (p : Prg) (g : Geo) (md : UInt8) : Prop := ∃ pc rest, vs = pc ++ (g.enc ++ rest) ∧ PrgV B X pc p ∧ rest[1]? = some (u8 md) ∧ rest.length = 570
theorem WldV.below {B : Nat} {X Y : World} {vs : List Value} {p : Prg} {g : Geo} {md : UInt8} (h : WldV B X vs p g md) (hb : Below B X Y) : WldV B Y vs p g md := by
  obtain ⟨pc, rest, h1, h2, h3⟩ := h
  exact ⟨pc, rest, h1, h2.below hb, h3⟩
theorem WldV.mono {B B' : Nat} {X : World} {vs : List Value} {p : Prg} {g : Geo} {md : UInt8} (h : WldV B X vs p g md) (hb : B ≤ B') : WldV B' X vs p g md := by
  obtain ⟨pc, rest, h1, h2, h3⟩ := h
  exact ⟨pc, rest, h1, h2.mono hb, h3⟩
theorem WldV.len {B : Nat} {X : World} {vs : List Value} {p : Prg} {g : Geo} {md : UInt8} (h : WldV B X vs p g md) : vs.length = 585 := by
  obtain ⟨pc, rest, rfl, h2, h3, h4⟩ := h
  have h5 : g.enc.length = 5 := rfl
  rw [List.length_append, List.length_append, h2.size, h4, h5]
structure GlobT (X : World) : Prop where
  G : GlobC X
  M : BndM X
theorem GlobT.below {X Y : World} (h : GlobT X) (hb : Below X.heap.size X Y) : GlobT Y := ⟨h.G.below hb, h.M.below hb⟩
structure WldC (B : Nat) (X : World) (wp : Nat) (p : Prg) (g : Geo) (md : UInt8) : Prop where
  hB : B ≤ X.heap.size
  c : ∃ vs, X.heap[wp]? = some (.cells vs.toArray 44 (0, 0)) ∧ WldV B X vs p g md
  T : GlobT X
theorem WldC.below {B : Nat} {X Y : World} {wp : Nat} {p : Prg} {g : Geo} {md : UInt8} (h : WldC B X wp p g md) (hb : Below X.heap.size X Y) : WldC B Y wp p g md := by
  obtain ⟨vs, h1, h2⟩ := h.c
  exact ⟨Nat.le_trans h.hB hb.size, ⟨vs, block_below hb h1, h2.below (hb.mono h.hB)⟩, h.T.below hb⟩
theorem WldC.cells {B : Nat} {X : World} {wp : Nat} {p : Prg} {g : Geo} {md : UInt8} (h : WldC B X wp p g md) : ∃ pc rest, PrgV B X pc p ∧ Cells X ⟨wp, 0, none⟩ pc ∧ Cells X ⟨wp, 10, none⟩ g.enc ∧ Cells X ⟨wp, 15, none⟩ rest ∧ rest[1]? = some (u8 md) ∧ wp < X.heap.size := by
  obtain ⟨vs, h1, pc, rest, rfl, h2, h3, h4⟩ := h.c
  have hc := cells_app.1 (cells_block h1)
  rw [h2.size] at hc
  have hd := cells_app.1 hc.2
  exact ⟨pc, rest, h2, hc.1, hd.1, hd.2, h3, hlt h1⟩
def turnsL (p : Prg) (g : Geo) : Bool := geoR g && (decide ((p.threads.length : Int) = g.c) && okPrg p)
def suitsL (g : Geo) (md : UInt8) (l : List Int) : Bool := permL l g.c && (!decide (md = 3) || pairL l)
theorem permGo_range {n : Int} : ∀ {m : Nat} {l : List Int}, permGo n m l = true → ∀ x ∈ l, 0 ≤ x ∧ x < 4
  | _, [], _ => fun x hx => by cases hx
  | m, y :: r, h => fun x hx => by
    simp only [permGo, Bool.and_eq_true, decide_eq_true_eq] at h
    rcases List.mem_cons.1 hx with rfl | hx
    · exact ⟨h.1, h.2.2.1⟩
    · exact permGo_range h.2.2.2.2 x hx
section
variable {B wp : Nat} {p : Prg} {g : Geo} {md : UInt8} {w : World}
theorem turns_c (h : WldC B w wp p g md) : Calls Tryz.prog 58 #[.pointer (some ⟨wp, 0, none⟩)] w fun e w' => e = .returned (.bool (turnsL p g)) ∧ Below w.heap.size w w' := by
  refine calls_of_E (S := sg 30) (sgOk _) (args := [.pointer (some ⟨wp, 0, none⟩)]) Tryz.func58 rfl rfl (Nat.le_of_ble_eq_true rfl) rfl ?_
  have hbd : Below w.heap.size w w.drew := (Below.refl _ w).drew
  refine DrawE.ord [] [0, 1, 2, 3, 4, 5, 6, 7, 8, 9, 10, 11, 12, 13, 14, 15, 16, 17, 18, 19, 20, 21, 22, 23, 24, 25, 26, 27] (by kernel_rfl) ?_
  have hd := h.below hbd
  obtain ⟨pc, rest, hp, c1, c2, c3, hm, hlw⟩ := hd.cells
  refine ⟨g.enc, rfl, c2, hlw, ?_⟩
  refine Calls.mono (Right_geo_c g _ hd.T.M) ?_
  rintro e V ⟨rfl, hbV⟩
  refine ⟨hbV, ?_⟩
  have hV := hd.below hbV
  have hbw : Below w.heap.size w V := hbd.trans hbV
  obtain ⟨pc, rest, hp, c1, c2, c3, hm, hlw⟩ := hV.cells
  refine And.intro (fun ha => ?_) (fun ha => ?_)
  · have ha : geoR g = true := ha
    obtain ⟨_, p1, k1, p2, k2, p3, k3, p4, k4, e, hr⟩ := id hp
    refine ⟨.slice p3 p.threads.length k3, cells_at c1 (i := 3) (by rw [e]; rfl), ?_⟩
    refine ⟨_, cells_at c2 (i := 0) rfl, ?_⟩
    refine And.intro (fun hb => ?_) (fun hb => ?_)
    · have hb : (p.threads.length : Int) = g.c := of_decide_eq_true hb
      refine ⟨pc, hp.size, c1, hlw, ?_⟩
      refine Calls.mono (Right_c hV.hB hp hV.T.G) ?_
      rintro e U ⟨n, rfl, hn, hbU⟩
      refine ⟨hbU, ?_⟩
      refine ⟨rb ?_, hbw.trans (hbU.mono hbw.size)⟩
      unfold turnsL
      rw [ha, decide_eq_true hb, Bool.true_and, Bool.true_and]
      show decide (n = 0) = _
      cases ho : okPrg p with
      | true => exact decide_eq_true (hn.2 ho)
      | false => exact decide_eq_false (fun h => by rw [hn.1 h] at ho; cases ho)
    · have hb : ¬ (p.threads.length : Int) = g.c := of_decide_eq_false hb
      exact ⟨rb (by unfold turnsL; rw [decide_eq_false hb]; simp), hbw⟩
  · have ha : geoR g = false := ha
    refine brF ?_
    exact ⟨rb (by unfold turnsL; rw [ha]; rfl), hbw⟩
theorem suits_c (h : WldC B w wp p g md) {q : Option Addr} {cap : Nat} {l : List Int} (hl : SlR intE w q l) (hn : l.length ≤ 140737488351232) (hg : g.c ≤ 4) :
    Calls Tryz.prog 60 #[.pointer (some ⟨wp, 0, none⟩), .slice q l.length cap] w fun e w' => e = .returned (.bool (suitsL g md l)) ∧ Below w.heap.size w w' := by
  refine calls_of_E (S := sg 24) (sgOk _) (args := [.pointer (some ⟨wp, 0, none⟩), .slice q l.length cap]) Tryz.func60 rfl rfl (Nat.le_of_ble_eq_true rfl) rfl ?_
  obtain ⟨pc, rest, hp, c1, c2, c3, hm, hlw⟩ := h.cells
  refine ⟨_, cells_at c2 (i := 0) rfl, ?_⟩
  refine Calls.mono (permutes_c hl hn) ?_
  rintro e _ ⟨rfl, rfl⟩
  refine And.intro (fun ha => ?_) (fun ha => ?_)
  · have ha : permL l g.c = true := ha
    refine ⟨_, cells_at c3 (i := 1) hm, ?_⟩
    refine And.intro (fun hb => ?_) (fun hb => ?_)
    · have hb : (!decide (md = 3)) = true := by rw [← u8d]; exact hb
      exact ⟨rb (by unfold suitsL; rw [ha, hb]; rfl), Below.refl _ _⟩
    · have hb : (!decide (md = 3)) = false := by rw [← u8d]; exact hb
      have h1 : (l.length : Int) = g.c := by
        unfold permL at ha
        rw [Bool.and_eq_true] at ha
        exact of_decide_eq_true ha.1
      have h2 : ∀ x ∈ l, 0 ≤ x ∧ x < 4 := by
        unfold permL at ha
        rw [Bool.and_eq_true] at ha
        exact permGo_range ha.2
      refine Calls.mono (paired_c hl (by omega) h2) ?_
      rintro e V ⟨rfl, hbV⟩
      exact ⟨rb (by unfold suitsL; rw [ha, hb]; rfl), hbV⟩
  · have ha : permL l g.c = false := ha
    exact ⟨rb (by unfold suitsL; rw [ha]; rfl), Below.refl _ _⟩
end
end Go.Proofs.YthgmcegmgjoafaaGreatDoor
namespace Go.Vc
open Go.RowKit
theorem made_zrep {z : Value} (h : 0 < z.cells.size) (n : Nat) : (madeCells z.cells (n * z.cells.size)).toList = zrep z.cells.toList n := by
  have := zrep_eq z.cells.toList (by simpa using h) n
  unfold madeCells
  simpa using congrArg Array.toList this
theorem make_zero {P : Program} {w : World} {t T : TypeId} {iT : TI} {z : List Value} {kl kc : IntKind} (hu : P.underlying t = some (.slice T)) (hT : TIok P T iT) (hz : iT.zero = some z) (hzl : z.length = iT.size) (hp : 0 < iT.size) (n : Nat) (h1 : iT.bytes * n ≤ 281474976710656) (h63 : n ≤ 9223372036854775807) {K : Value → World → Prop}
    (k : ∀ w', w'.heap[w.heap.size]? = some (.cells (zrep z n).toArray T (0, 0)) → Below w.heap.size w w' → w'.heap.size = w.heap.size + 1 → K (.slice (some ⟨w.heap.size, 0, none⟩) n n) w') :
    SatR ((Instr.makeSlice t (.int kl (n : Int)) (.int kc (n : Int))).run P w) K := by
  obtain ⟨⟨inf, hi, hsz, hby, hzz⟩, _⟩ := hT
  obtain ⟨zv, hzv, hzc⟩ := hzz z hz
  have h63' : (n : Int) ≤ 9223372036854775807 := by omega
  have hb' : (inf.bytes : Int) * (n : Int) ≤ 281474976710656 := by
    have h : ((inf.bytes * n : Nat) : Int) ≤ 281474976710656 := by rw [hby]; omega
    rwa [Int.natCast_mul] at h
  have hr := run_make (P := P) w t T inf zv hu hi hzv kl kc n n (by omega) (Int.le_refl _) hb' h63'
  simp only [Int.toNat_natCast] at hr
  have hcs : zv.cells.size = inf.size := by rw [hsz, ← hzl, ← hzc]; simp
  have hm : madeCells zv.cells (n * inf.size) = (zrep z n).toArray := by
    have := made_zrep (z := zv) (by omega) n
    rw [hzc, hcs] at this
    rw [← this]
  rw [hm] at hr
  exact SatR.mk hr (k _ (hnew w _) ((Below.refl _ _).alloc (Nat.le_refl _) _) (by simp))
theorem store_one {P : Program} {w : World} {g : Nat} {Te : TypeId} {iT : TI} (hT : TIok P Te iT) {cs : List Value} {t : TypeId} (hg : w.heap[g]? = some (.cells cs.toArray t (0, 0))) {o : Nat} {v : Value} (hv : v.cells = #[v]) (hi : iT.size = 1) (ho : o < cs.length) (h1 : v.oneCell' = true) {K : World → Prop}
    (k : ∀ w', w'.heap[g]? = some (.cells (cs.set o v).toArray t (0, 0)) → w.grownBy w' (some g) → w'.heap.size = w.heap.size → K w') :
    SatR ((storeVar Te ⟨g, o, none⟩ v).run P w) fun _ w' => K w' := by
  refine store_part hT hg (o := o) (v := v) (by rw [hv, hi]; rfl) (by rw [hv]; show o + 1 ≤ cs.length; omega) (by rw [hv]; simpa using h1) fun w' f gr sz => k w' ?_ gr sz
  rw [f, hv]
  congr 2
  show (cs.take o ++ [v] ++ cs.drop (o + 1)).toArray = _
  rw [List.set_eq_take_append_cons_drop, if_pos ho]
  simp
theorem set_next {A Z : List Value} {z v : Value} : (A ++ (z :: Z)).set A.length v = (A ++ [v]) ++ Z := by
  rw [List.set_append_right _ _ (Nat.le_refl _), Nat.sub_self]; simp
theorem below_grown {n : Nat} {A B : World} {g : Nat} (h : A.grownBy B (some g)) (hn : n ≤ A.heap.size) (hg : n ≤ g) : Below n A B :=
  ⟨h.os, h.tape, h.output, h.size, fun j hj => h.block j (Nat.lt_of_lt_of_le hj hn) (by simp; omega)⟩
end Go.Vc
namespace Go.Proofs.YthgmcegmgjoafaaGreatDoor
open Go.Vc Go.RowKit Go.Sei
def smallL (l : List Int) : Bool := decide (l.length ≤ 4) && permL l l.length
theorem small_c {q : Option Addr} {cap : Nat} {l : List Int} {w : World} (hl : SlR intE w q l) (hn : l.length ≤ 140737488351232) : Calls Tryz.prog 83 #[.slice q l.length cap] w fun e w' => e = .returned (.bool (smallL l)) ∧ w = w' := by
  refine calls_of_E (S := sg 12) (sgOk _) (args := [.slice q l.length cap]) Tryz.func83 rfl rfl (Nat.le_of_ble_eq_true rfl) rfl ?_
  refine And.intro (fun ha => ?_) (fun ha => ?_)
  · have ha : (l.length : Int) ≤ 4 := of_decide_eq_true ha
    refine Calls.mono (permutes_c hl hn) ?_
    rintro e _ ⟨rfl, rfl⟩
    exact ⟨rb (by unfold smallL; rw [decide_eq_true (by omega)]; rfl), rfl⟩
  · have ha : ¬ (l.length : Int) ≤ 4 := of_decide_eq_false ha
    exact ⟨rb (by unfold smallL; rw [decide_eq_false (by omega)]; rfl), rfl⟩
theorem FitsT_c {B : Nat} {p : Prg} {g : Geo} {md : UInt8} {vs : List Value} {q : Option Addr} {cap : Nat} {l : List Int} {w : World} (hB : B ≤ w.heap.size) (hw : WldV B w vs p g md) (hT : GlobT w) (h1 : vs.all Value.oneCell' = true) (hl : SlR intE w q l) (hn : l.length ≤ 140737488351232) :
    Calls Tryz.prog 29 #[.agg vs.toArray, .slice q l.length cap] w fun e w' => e = .returned (.bool (turnsL p g && suitsL g md l)) ∧ Below w.heap.size w w' := by
  refine calls_of_E (S := sg 10) (sgOk _) (args := [.agg vs.toArray, .slice q l.length cap]) Tryz.func29 rfl rfl (Nat.le_of_ble_eq_true rfl) rfl ?_
  have hb0 : Below w.heap.size w (w.alloc (.cells vs.toArray 44)) := (Below.refl _ w).alloc (Nat.le_refl _) _
  have hC : WldC B (w.alloc (.cells vs.toArray 44)) w.heap.size p g md := ⟨Nat.le_trans hB hb0.size, ⟨vs, hnew w _, hw.below (hb0.mono hB)⟩, hT.below hb0⟩
  refine Calls.mono (turns_c hC) ?_
  rintro e V ⟨rfl, hbV⟩
  have hbw : Below w.heap.size w V := hb0.trans (hbV.mono hb0.size)
  refine And.intro (fun ha => ?_) (fun ha => ?_)
  · have ha : turnsL p g = true := ha
    have hg : g.c ≤ 4 := by
      unfold turnsL at ha
      rw [Bool.and_eq_true] at ha
      exact (geoR_spec ha.1).1.2
    refine Calls.mono (suits_c (hC.below hbV) (hl.below hbw) hn hg) ?_
    rintro e U ⟨rfl, hbU⟩
    exact ⟨rb (by rw [ha]; rfl), hbw.trans (hbU.mono hbw.size)⟩
  · have ha : turnsL p g = false := ha
    exact ⟨rb (by rw [ha]; rfl), hbw⟩
def pickL {α : Type} (d : α) (a : List α) (l : List Int) : List α := l.map fun x => a.getD x.toNat d
theorem reorder_int_c {pa pl : Option Addr} {ca cl : Nat} {a l : List Int} {w : World} (ha : SlR intE w pa a) (hl : SlR intE w pl l) (hr : ∀ x ∈ l, 0 ≤ x ∧ x < a.length) (hn : l.length ≤ 1000000) :
    Calls Tryz.prog 85 #[.slice pa a.length ca, .slice pl l.length cl] w fun e w' => ∃ b, e = .returned (.slice (some ⟨b, 0, none⟩) l.length l.length) ∧ Cells w' ⟨b, 0, none⟩ ((pickL 0 a l).flatMap intE.enc) ∧ w.heap.size ≤ b ∧ b < w'.heap.size ∧ Below w.heap.size w w' := by
  refine calls_of_E (S := sg 27) (sgOk _) (args := [.slice pa a.length ca, .slice pl l.length cl]) Tryz.func85 rfl rfl (Nat.le_of_ble_eq_true rfl) rfl ?_
  refine make_zero Tryz.underlying46 (ttOk.get 3 _ rfl) rfl rfl (by decide) _ (by show 8 * _ ≤ _; omega) (by omega) fun V fV hbV sV => ?_
  obtain ⟨L, hL⟩ : ∃ L, L = w.heap.size := ⟨_, rfl⟩
  have p1 : some (Value.slice (some ⟨w.heap.size, 0, none⟩) l.length l.length) = some (Value.slice (some ⟨L, 0, none⟩) l.length l.length) := by rw [hL]
  rw [← hL] at fV
  refine ⟨Nat, fun k => ⟨[(0, .slice pa a.length ca), (1, .slice pl l.length cl), (5, .slice (some ⟨L, 0, none⟩) l.length l.length), (11, .slice pl l.length cl), (12, i64 l.length), (13, i64 (k : Nat))], []⟩,
    fun k X => k ≤ l.length ∧ X.heap[L]? = some (.cells ((pickL 0 a (l.take k)).flatMap intE.enc ++ zrep [i64 0] (l.length - k)).toArray 3 (0, 0)) ∧ Below w.heap.size w X, fun k => l.length - k, 0,
    ⟨.cons rfl (.cons rfl (.cons p1 (.cons rfl (.cons rfl (.cons rfl .nil))))), rfl⟩, ⟨Nat.zero_le _, fV, hbV⟩, ?_⟩
  rintro k X ⟨hk, hX, hbX⟩
  dsimp only at hk hX ⊢
  refine And.intro (fun hc => ?_) (fun hc => ?_)
  · have hc : (k : Int) < (l.length : Int) := of_decide_eq_true hc
    have hkl : k < l.length := by omega
    obtain ⟨b, o, rfl, hb, hat⟩ := hl.at hkl
    refine ⟨k, rfl, hkl, ?_⟩
    refine ⟨_, cells_at (cells_below hbX (hat k hkl)) (i := 0) rfl, ?_⟩
    obtain ⟨r0, r1⟩ := hr _ (List.getElem_mem hkl)
    have hal : l[k].toNat < a.length := by omega
    obtain ⟨b2, o2, rfl, hb2, hat2⟩ := ha.at hal
    refine ⟨l[k].toNat, by omega, hal, ?_⟩
    refine ⟨_, cells_at (cells_below hbX (hat2 _ hal)) (i := 0) rfl, ?_⟩
    refine ⟨k, rfl, hkl, ?_⟩
    have hlen : ((pickL 0 a (l.take k)).flatMap intE.enc).length = k := by
      rw [flat_len]
      show (pickL 0 a (l.take k)).length * 1 = k
      unfold pickL
      rw [List.length_map, List.length_take]
      omega
    refine store_one (ttOk.get 3 _ rfl) hX (o := 0 + k * 1) (v := i64 a[l[k].toNat]) rfl rfl (by rw [List.length_append, hlen, zrep_len]; simp; omega) rfl fun Y fY gY sY => ?_
    refine ⟨_, (wrap_i64 (by omega)).trans rfl, ?_⟩
    refine ⟨k + 1, ⟨.cons rfl (.cons rfl (.cons rfl (.cons rfl (.cons rfl (.cons rfl .nil))))), rfl⟩, ⟨hkl, ?_, hbX.trans (below_grown gY hbX.size (by omega))⟩, by show l.length - (k + 1) < l.length - k; omega⟩
    rw [fY]
    congr 2
    have e1 : l.length - k = (l.length - (k + 1)) + 1 := by omega
    have e2 : zrep [i64 0] (l.length - k) = i64 0 :: zrep [i64 0] (l.length - (k + 1)) := by rw [e1]; rfl
    have e3 : 0 + k * 1 = ((pickL 0 a (l.take k)).flatMap intE.enc).length := by rw [hlen]; omega
    rw [e2, e3, set_next]
    congr 2
    rw [List.take_succ_eq_append_getElem hkl]
    unfold pickL
    rw [List.map_append, List.flatMap_append]
    congr 1
    simp [Go.Sei.intE, i64, List.getElem?_eq_getElem hal]
  · have hc : ¬ (k : Int) < (l.length : Int) := of_decide_eq_false hc
    obtain rfl : k = l.length := by omega
    rw [List.take_length, Nat.sub_self] at hX
    have hX : X.heap[L]? = some (.cells ((pickL 0 a l).flatMap intE.enc).toArray 3 (0, 0)) := by rw [hX]; congr 2; exact congrArg List.toArray (List.append_nil _)
    exact ⟨L, rfl, cells_block hX, by omega, hlt hX, hbX⟩
end Go.Proofs.YthgmcegmgjoafaaGreatDoor
namespace Go.Proofs.YthgmcegmgjoafaaGreatDoor
open Go.Vc Go.RowKit Go.Sei
theorem ints_map (l : List Int) : l.flatMap Go.Sei.intE.enc = l.map i64 := by
  induction l with
  | nil => rfl
  | cons a r ih => rw [List.flatMap_cons, ih]; rfl
theorem zrep_ints (n : Nat) : zrep [i64 0] n = (List.replicate n (0 : Int)).map i64 := by
  induction n with
  | zero => rfl
  | succ n ih => rw [List.replicate_succ, List.map_cons, ← ih]; rfl
def IntsAt (X : World) (b : Nat) (l : List Int) : Prop := Cells X ⟨b, 0, none⟩ (l.flatMap Go.Sei.intE.enc)
theorem small_perm {a : List Int} (h : smallL a = true) : a.length ≤ 4 ∧ ∀ x ∈ a, 0 ≤ x ∧ x < a.length := by
  unfold smallL permL at h
  simp only [Bool.and_eq_true, decide_eq_true_eq] at h
  refine ⟨h.1, ?_⟩
  have hg : ∀ {m : Nat} {l : List Int}, permGo (a.length : Int) m l = true → ∀ x ∈ l, 0 ≤ x ∧ x < (a.length : Int) := by
    intro m l
    induction l generalizing m with
    | nil => intro _ x hx; cases hx
    | cons y r ih =>
      intro h x hx
      simp only [permGo, Bool.and_eq_true, decide_eq_true_eq] at h
      rcases List.mem_cons.1 hx with rfl | hx
      · exact ⟨h.1, h.2.1⟩
      · exact ih h.2.2.2.2 x hx
  exact hg h.2.2
theorem perm_range {n : Int} : ∀ {m : Nat} {l : List Int}, permGo n m l = true → ∀ x ∈ l, 0 ≤ x ∧ x < n
  | _, [], _ => fun x hx => by cases hx
  | m, y :: r, h => fun x hx => by
    simp only [permGo, Bool.and_eq_true, decide_eq_true_eq] at h
    rcases List.mem_cons.1 hx with rfl | hx
    · exact ⟨h.1, h.2.1⟩
    · exact perm_range h.2.2.2.2 x hx
theorem Then_c {pa pb : Option Addr} {ca cb : Nat} {a b : List Int} {w : World} (ha : SlR Go.Sei.intE w pa a) (hb : SlR Go.Sei.intE w pb b) (h1 : smallL a = true) (h2 : permL b a.length = true) :
    Calls Tryz.prog 41 #[.slice pa a.length ca, .slice pb b.length cb] w fun e w' => ∃ k, e = .returned (.tuple #[.slice (some ⟨k, 0, none⟩) b.length b.length, i64 0]) ∧ IntsAt w' k (pickL 0 a b) ∧ w.heap.size ≤ k ∧ k < w'.heap.size ∧ Below w.heap.size w w' := by
  refine calls_of_E (S := sg 19) (sgOk _) (args := [.slice pa a.length ca, .slice pb b.length cb]) Tryz.func41 rfl rfl (Nat.le_of_ble_eq_true rfl) rfl ?_
  have hs := small_perm h1
  have hbl : (b.length : Int) = a.length ∧ permGo a.length 0 b = true := by
    unfold permL at h2
    rw [Bool.and_eq_true] at h2
    exact ⟨of_decide_eq_true h2.1, h2.2⟩
  have hl4 := hs.1
  refine Calls.mono (small_c ha (by omega)) ?_
  rintro e _ ⟨rfl, rfl⟩
  rw [h1]
  refine brF ?_
  refine Calls.mono (permutes_c hb (by omega)) ?_
  rintro e _ ⟨rfl, rfl⟩
  rw [h2]
  refine brF ?_
  refine Calls.mono (reorder_int_c ha hb (perm_range hbl.2) (by omega)) ?_
  rintro e V ⟨k, rfl, hk⟩
  exact ⟨k, rfl, hk⟩
theorem Ints_c {pa pb : Option Addr} {ca cb : Nat} {a b : List Int} {w : World} (ha : SlR Go.Sei.intE w pa a) (hb : SlR Go.Sei.intE w pb b) (hn : a.length ≤ 1000000) :
    Calls Tryz.prog 12 #[.slice pa a.length ca, .slice pb b.length cb] w fun e w' => e = .returned (.bool (decide (a = b))) ∧ Below w.heap.size w w' := by
  refine calls_of_E (S := sg 26) (sgOk _) (args := [.slice pa a.length ca, .slice pb b.length cb]) Tryz.func12 rfl rfl (Nat.le_of_ble_eq_true rfl) rfl ?_
  refine And.intro (fun h => ?_) (fun h => ?_)
  · have h : (!decide ((a.length : Int) = b.length)) = true := h
    have h : ¬ (a.length : Int) = b.length := by simpa using h
    exact ⟨rb (decide_eq_false (fun e => h (by rw [e]))).symm, Below.refl _ _⟩
  have h : (!decide ((a.length : Int) = b.length)) = false := h
  have h : (a.length : Int) = b.length := by simpa using h
  have hab : a.length = b.length := by omega
  refine ⟨Nat, fun k => ⟨[(0, .slice pa a.length ca), (1, .slice pb b.length cb), (12, i64 a.length), (13, i64 (k : Nat))], []⟩, fun k X => k ≤ a.length ∧ a.take k = b.take k ∧ Below w.heap.size w X, fun k => a.length - k, 0,
    ⟨.cons rfl (.cons rfl (.cons rfl (.cons rfl .nil))), rfl⟩, ⟨Nat.zero_le _, rfl, Below.refl _ _⟩, ?_⟩
  rintro k X ⟨hk, he, hbX⟩
  dsimp only at hk he ⊢
  refine And.intro (fun hc => ?_) (fun hc => ?_)
  · have hc : (k : Int) < (a.length : Int) := of_decide_eq_true hc
    have hkl : k < a.length := by omega
    have hkb : k < b.length := by omega
    obtain ⟨b1, o1, rfl, hb1, hat1⟩ := ha.at hkl
    obtain ⟨b2, o2, rfl, hb2, hat2⟩ := hb.at hkb
    refine DrawE.ord [] [0, 1, 2, 3, 4, 5, 6, 7, 8] (by kernel_rfl) ?_
    have hbd : Below w.heap.size w X.drew := hbX.drew
    refine ⟨k, rfl, hkl, ?_⟩
    refine ⟨_, cells_at (cells_below hbd (hat1 k hkl)) (i := 0) rfl, ?_⟩
    refine ⟨k, rfl, hkb, ?_⟩
    refine ⟨_, cells_at (cells_below hbd (hat2 k hkb)) (i := 0) rfl, ?_⟩
    refine And.intro (fun h1 => ?_) (fun h1 => ?_)
    · have h1 : (!decide (a[k] = b[k])) = true := h1
      have h1 : ¬ a[k] = b[k] := by simpa using h1
      exact ⟨rb (decide_eq_false (fun e => h1 (by simp [e]))).symm, hbd⟩
    · have h1 : (!decide (a[k] = b[k])) = false := h1
      have h1 : a[k] = b[k] := by simpa using h1
      refine ⟨_, (wrap_i64 (by omega)).trans rfl, ?_⟩
      exact ⟨k + 1, ⟨.cons rfl (.cons rfl (.cons rfl (.cons rfl .nil))), rfl⟩, ⟨hkl, by rw [List.take_succ_eq_append_getElem hkl, List.take_succ_eq_append_getElem hkb, he, h1], hbd⟩, by show a.length - (k + 1) < a.length - k; omega⟩
  · have hc : ¬ (k : Int) < (a.length : Int) := of_decide_eq_false hc
    have hk : k = a.length := by omega
    refine ⟨rb (decide_eq_true ?_).symm, hbX⟩
    rw [hk, List.take_length, hab, List.take_length] at he
    exact he
def backN (a : List Int) (k : Nat) : List Int := (List.range k).foldl (fun r i => r.set (a.getD i 0).toNat (i : Int)) (List.replicate a.length 0)
def backL (a : List Int) : List Int := backN a a.length
theorem backN_succ (a : List Int) (k : Nat) : backN a (k + 1) = (backN a k).set (a.getD k 0).toNat (k : Int) := by
  unfold backN
  rw [List.range_succ, List.foldl_append]; rfl
theorem backN_len (a : List Int) (k : Nat) : (backN a k).length = a.length := by
  induction k with
  | zero => unfold backN; simp
  | succ k ih => rw [backN_succ, List.length_set, ih]
theorem Back_c {pa : Option Addr} {ca : Nat} {a : List Int} {w : World} (ha : SlR Go.Sei.intE w pa a) (h1 : smallL a = true) :
    Calls Tryz.prog 39 #[.slice pa a.length ca] w fun e w' => ∃ k, e = .returned (.tuple #[.slice (some ⟨k, 0, none⟩) a.length a.length, i64 0]) ∧ IntsAt w' k (backL a) ∧ w.heap.size ≤ k ∧ k < w'.heap.size ∧ Below w.heap.size w w' := by
  refine calls_of_E (S := sg 26) (sgOk _) (args := [.slice pa a.length ca]) Tryz.func39 rfl rfl (Nat.le_of_ble_eq_true rfl) rfl ?_
  obtain ⟨hl4, hr⟩ := small_perm h1
  refine Calls.mono (small_c ha (by omega)) ?_
  rintro e _ ⟨rfl, rfl⟩
  rw [h1]
  refine brF ?_
  refine make_zero Tryz.underlying46 (ttOk.get 3 _ rfl) rfl rfl (by decide) _ (by show 8 * _ ≤ _; omega) (by omega) fun V fV hbV sV => ?_
  obtain ⟨L, hL⟩ : ∃ L, L = w.heap.size := ⟨_, rfl⟩
  have p1 : some (Value.slice (some ⟨w.heap.size, 0, none⟩) a.length a.length) = some (Value.slice (some ⟨L, 0, none⟩) a.length a.length) := by rw [hL]
  rw [← hL] at fV
  refine ⟨Nat, fun k => ⟨[(4, .slice (some ⟨L, 0, none⟩) a.length a.length), (13, .slice pa a.length ca), (14, i64 a.length), (15, i64 (k : Nat))], []⟩,
    fun k X => k ≤ a.length ∧ X.heap[L]? = some (.cells ((backN a k).map i64).toArray 3 (0, 0)) ∧ Below w.heap.size w X, fun k => a.length - k, 0,
    ⟨.cons p1 (.cons rfl (.cons rfl (.cons rfl .nil))), rfl⟩, ⟨Nat.zero_le _, by rw [fV]; congr 2; exact congrArg List.toArray (zrep_ints _), hbV⟩, ?_⟩
  rintro k X ⟨hk, hX, hbX⟩
  dsimp only at hk hX ⊢
  refine And.intro (fun hc => ?_) (fun hc => ?_)
  · have hc : (k : Int) < (a.length : Int) := of_decide_eq_true hc
    have hkl : k < a.length := by omega
    obtain ⟨b, o, rfl, hb, hat⟩ := ha.at hkl
    obtain ⟨r0, r1⟩ := hr _ (List.getElem_mem hkl)
    refine ⟨k, rfl, hkl, ?_⟩
    refine ⟨_, cells_at (cells_below hbX (hat k hkl)) (i := 0) rfl, ?_⟩
    refine ⟨a[k].toNat, by omega, by omega, ?_⟩
    refine store_one (ttOk.get 3 _ rfl) hX (o := 0 + a[k].toNat * 1) (v := i64 (k : Nat)) rfl rfl (by rw [List.length_map, backN_len]; omega) rfl fun Y fY gY sY => ?_
    refine ⟨_, (wrap_i64 (by omega)).trans rfl, ?_⟩
    refine ⟨k + 1, ⟨.cons rfl (.cons rfl (.cons rfl (.cons rfl .nil))), rfl⟩, ⟨hkl, ?_, hbX.trans (below_grown gY hbX.size (by omega))⟩, by show a.length - (k + 1) < a.length - k; omega⟩
    rw [fY, backN_succ, List.map_set]
    have e1 : a.getD k 0 = a[k] := by rw [List.getD_eq_getElem?_getD, List.getElem?_eq_getElem hkl]; rfl
    rw [e1, Nat.mul_one, Nat.zero_add]
  · have hc : ¬ (k : Int) < (a.length : Int) := of_decide_eq_false hc
    obtain rfl : k = a.length := by omega
    exact ⟨L, rfl, by unfold IntsAt; rw [ints_map]; exact cells_block hX, by omega, hlt hX, hbX⟩
end Go.Proofs.YthgmcegmgjoafaaGreatDoor
namespace Go.Proofs.YthgmcegmgjoafaaGreatDoor
open Go.Vc Go.RowKit Go.Sei
def thr0 : ThrR := ([], none, 0)
theorem reorder_thr_c {pa pl : Option Addr} {ca cl : Nat} {a : List ThrR} {l : List Int} {w : World} (ha : SlR thrE w pa a) (hl : SlR intE w pl l) (hr : ∀ x ∈ l, 0 ≤ x ∧ x < a.length) (hn : l.length ≤ 1000000) :
    Calls Tryz.prog 109 #[.slice pa a.length ca, .slice pl l.length cl] w fun e w' => ∃ b, e = .returned (.slice (some ⟨b, 0, none⟩) l.length l.length) ∧ Cells w' ⟨b, 0, none⟩ ((pickL thr0 a l).flatMap thrE.enc) ∧ w.heap.size ≤ b ∧ b < w'.heap.size ∧ Below w.heap.size w w' := by
  refine calls_of_E (S := sg 27) (sgOk _) (args := [.slice pa a.length ca, .slice pl l.length cl]) Tryz.func109 rfl rfl (Nat.le_of_ble_eq_true rfl) rfl ?_
  refine make_zero Tryz.underlying24 (ttOk.get 166 _ rfl) rfl rfl (by decide) _ (by show 24 * _ ≤ _; omega) (by omega) fun V fV hbV sV => ?_
  obtain ⟨L, hL⟩ : ∃ L, L = w.heap.size := ⟨_, rfl⟩
  have p1 : some (Value.slice (some ⟨w.heap.size, 0, none⟩) l.length l.length) = some (Value.slice (some ⟨L, 0, none⟩) l.length l.length) := by rw [hL]
  rw [← hL] at fV
  refine ⟨Nat, fun k => ⟨[(0, .slice pa a.length ca), (1, .slice pl l.length cl), (5, .slice (some ⟨L, 0, none⟩) l.length l.length), (11, .slice pl l.length cl), (12, i64 l.length), (13, i64 (k : Nat))], []⟩,
    fun k X => k ≤ l.length ∧ X.heap[L]? = some (.cells ((pickL thr0 a (l.take k)).flatMap thrE.enc ++ zrep [thrV thr0] (l.length - k)).toArray 166 (0, 0)) ∧ Below w.heap.size w X, fun k => l.length - k, 0,
    ⟨.cons rfl (.cons rfl (.cons p1 (.cons rfl (.cons rfl (.cons rfl .nil))))), rfl⟩, ⟨Nat.zero_le _, fV, hbV⟩, ?_⟩
  rintro k X ⟨hk, hX, hbX⟩
  dsimp only at hk hX ⊢
  refine And.intro (fun hc => ?_) (fun hc => ?_)
  · have hc : (k : Int) < (l.length : Int) := of_decide_eq_true hc
    have hkl : k < l.length := by omega
    obtain ⟨b, o, rfl, hb, hat⟩ := hl.at hkl
    refine ⟨k, rfl, hkl, ?_⟩
    refine ⟨_, cells_at (cells_below hbX (hat k hkl)) (i := 0) rfl, ?_⟩
    obtain ⟨r0, r1⟩ := hr _ (List.getElem_mem hkl)
    have hal : l[k].toNat < a.length := by omega
    obtain ⟨b2, o2, rfl, hb2, hat2⟩ := ha.at hal
    refine ⟨l[k].toNat, by omega, hal, ?_⟩
    refine ⟨_, cells_at (cells_below hbX (hat2 _ hal)) (i := 0) rfl, ?_⟩
    refine ⟨k, rfl, hkl, ?_⟩
    have hlen : ((pickL thr0 a (l.take k)).flatMap thrE.enc).length = k := by
      rw [flat_len]
      show (pickL thr0 a (l.take k)).length * 1 = k
      unfold pickL
      rw [List.length_map, List.length_take]
      omega
    refine store_one (ttOk.get 166 _ rfl) hX (o := 0 + k * 1) (v := thrV a[l[k].toNat]) rfl rfl (by rw [List.length_append, hlen, zrep_len]; simp; omega) rfl fun Y fY gY sY => ?_
    refine ⟨_, (wrap_i64 (by omega)).trans rfl, ?_⟩
    refine ⟨k + 1, ⟨.cons rfl (.cons rfl (.cons rfl (.cons rfl (.cons rfl (.cons rfl .nil))))), rfl⟩, ⟨hkl, ?_, hbX.trans (below_grown gY hbX.size (by omega))⟩, by show l.length - (k + 1) < l.length - k; omega⟩
    rw [fY]
    congr 2
    have e1 : l.length - k = (l.length - (k + 1)) + 1 := by omega
    have e2 : zrep [thrV thr0] (l.length - k) = thrV thr0 :: zrep [thrV thr0] (l.length - (k + 1)) := by rw [e1]; rfl
    have e3 : 0 + k * 1 = ((pickL thr0 a (l.take k)).flatMap thrE.enc).length := by rw [hlen]; omega
    rw [e2, e3, set_next]
    congr 2
    rw [List.take_succ_eq_append_getElem hkl]
    unfold pickL
    rw [List.map_append, List.flatMap_append]
    congr 1
    simp [thrE, List.getElem?_eq_getElem hal]
  · have hc : ¬ (k : Int) < (l.length : Int) := of_decide_eq_false hc
    obtain rfl : k = l.length := by omega
    rw [List.take_length, Nat.sub_self] at hX
    have hX : X.heap[L]? = some (.cells ((pickL thr0 a l).flatMap thrE.enc).toArray 166 (0, 0)) := by rw [hX]; congr 2; exact congrArg List.toArray (List.append_nil _)
    exact ⟨L, rfl, cells_block hX, by omega, hlt hX, hbX⟩
theorem neq_ins (x y : Operand) (a b : InsD) (w : World) : (do eqGuard .neq 170 x y (.agg (insE.enc a).toArray) (.agg (insE.enc b).toArray); binOp .neq 170 (.agg (insE.enc a).toArray) (.agg (insE.enc b).toArray)).run Tryz.prog w = .ok (.bool (!decide (a = b))) w := by
  obtain ⟨G, h, hG⟩ := tIns
  rw [neq_ty h 9997 rfl (by kernel_rfl) rfl rfl (hG a) (hG b) x y w, cdec_iff ins_inj]
theorem Equal_ins_c {pa pb : Option Addr} {ca cb : Nat} {a b : List InsD} {w : World} (ha : SlR insE w pa a) (hb : SlR insE w pb b) (hn : a.length ≤ 140737488351232) :
    Calls Tryz.prog 112 #[.slice pa a.length ca, .slice pb b.length cb] w fun e w' => e = .returned (.bool (decide (a = b))) ∧ Below w.heap.size w w' := by
  refine calls_of_E (S := sg 26) (sgOk _) (args := [.slice pa a.length ca, .slice pb b.length cb]) Tryz.func112 rfl rfl (Nat.le_of_ble_eq_true rfl) rfl ?_
  refine And.intro (fun h => ?_) (fun h => ?_)
  · have h : (!decide ((a.length : Int) = b.length)) = true := h
    have h : ¬ (a.length : Int) = b.length := by simpa using h
    exact ⟨rb (decide_eq_false (fun e => h (by rw [e]))).symm, Below.refl _ _⟩
  have h : (!decide ((a.length : Int) = b.length)) = false := h
  have h : (a.length : Int) = b.length := by simpa using h
  have hab : a.length = b.length := by omega
  refine ⟨Nat, fun k => ⟨[(0, .slice pa a.length ca), (1, .slice pb b.length cb), (12, i64 a.length), (13, i64 (k : Nat))], []⟩, fun k X => k ≤ a.length ∧ a.take k = b.take k ∧ Below w.heap.size w X, fun k => a.length - k, 0,
    ⟨.cons rfl (.cons rfl (.cons rfl (.cons rfl .nil))), rfl⟩, ⟨Nat.zero_le _, rfl, Below.refl _ _⟩, ?_⟩
  rintro k X ⟨hk, he, hbX⟩
  dsimp only at hk he ⊢
  refine And.intro (fun hc => ?_) (fun hc => ?_)
  · have hc : (k : Int) < (a.length : Int) := of_decide_eq_true hc
    have hkl : k < a.length := by omega
    have hkb : k < b.length := by omega
    obtain ⟨b1, o1, rfl, hb1, hat1⟩ := ha.at hkl
    obtain ⟨b2, o2, rfl, hb2, hat2⟩ := hb.at hkb
    refine DrawE.ord [] [0, 1, 2, 3, 4, 5, 6, 7, 8] (by kernel_rfl) ?_
    have hbd : Below w.heap.size w X.drew := hbX.drew
    refine ⟨k, rfl, hkl, ?_⟩
    refine ⟨insE.enc a[k], rfl, cells_below hbd (hat1 k hkl), Nat.lt_of_lt_of_le hb1 hbd.size, ?_⟩
    refine ⟨k, rfl, hkb, ?_⟩
    refine ⟨insE.enc b[k], rfl, cells_below hbd (hat2 k hkb), Nat.lt_of_lt_of_le hb2 hbd.size, ?_⟩
    refine ⟨_, fun w => neq_ins _ _ a[k] b[k] w, ?_⟩
    refine And.intro (fun h1 => ?_) (fun h1 => ?_)
    · have h1 : (!decide (a[k] = b[k])) = true := h1
      have h1 : ¬ a[k] = b[k] := by simpa using h1
      exact ⟨rb (decide_eq_false (fun e => h1 (by simp [e]))).symm, hbd⟩
    · have h1 : (!decide (a[k] = b[k])) = false := h1
      have h1 : a[k] = b[k] := by simpa using h1
      refine ⟨_, (wrap_i64 (by omega)).trans rfl, ?_⟩
      exact ⟨k + 1, ⟨.cons rfl (.cons rfl (.cons rfl (.cons rfl .nil))), rfl⟩, ⟨hkl, by rw [List.take_succ_eq_append_getElem hkl, List.take_succ_eq_append_getElem hkb, he, h1], hbd⟩, by show a.length - (k + 1) < a.length - k; omega⟩
  · have hc : ¬ (k : Int) < (a.length : Int) := of_decide_eq_false hc
    have hk : k = a.length := by omega
    refine ⟨rb (decide_eq_true ?_).symm, hbX⟩
    rw [hk, List.take_length, hab, List.take_length] at he
    exact he
theorem keeps1_c {pa pb : Option Addr} {ca cb : Nat} {a b : List InsD} {w : World} (ha : SlR insE w pa a) (hb : SlR insE w pb b) (hn : a.length ≤ 140737488351232) :
    Calls Tryz.prog 111 #[.slice pa a.length ca, .slice pb b.length cb] w fun e w' => e = .returned (.bool (decide (a = b))) ∧ Below w.heap.size w w' := by
  refine calls_of_E (S := sg 8) (sgOk _) (args := [.slice pa a.length ca, .slice pb b.length cb]) Tryz.func111 rfl rfl (Nat.le_of_ble_eq_true rfl) rfl ?_
  refine Calls.mono (Equal_ins_c ha hb hn) ?_
  rintro e V ⟨rfl, hb⟩
  exact ⟨rfl, hb⟩
theorem EqualFunc_c {pa pb : Option Addr} {ca cb : Nat} {a b : List ThrR} {w : World} (ha : SlR thrE w pa a) (hb : SlR thrE w pb b) (hn : a.length ≤ 140737488351232) (ra : ∀ x ∈ a, SlR insE w x.2.1 x.1 ∧ x.1.length ≤ 140737488351232) (rb' : ∀ x ∈ b, SlR insE w x.2.1 x.1) :
    Calls Tryz.prog 110 #[.slice pa a.length ca, .slice pb b.length cb, .func (.func 111) #[] #[]] w fun e w' => e = .returned (.bool (decide (a.map (·.1) = b.map (·.1)))) ∧ Below w.heap.size w w' := by
  refine calls_of_E (S := sg 32) (sgOk _) (args := [.slice pa a.length ca, .slice pb b.length cb, .func (.func 111) #[] #[]]) Tryz.func110 rfl rfl (Nat.le_of_ble_eq_true rfl) rfl ?_
  refine And.intro (fun h => ?_) (fun h => ?_)
  · have h : (!decide ((a.length : Int) = b.length)) = true := h
    have h : ¬ (a.length : Int) = b.length := by simpa using h
    refine ⟨rb (decide_eq_false (fun e => h ?_)).symm, Below.refl _ _⟩
    have := congrArg List.length e
    rw [List.length_map, List.length_map] at this
    rw [this]
  have h : (!decide ((a.length : Int) = b.length)) = false := h
  have h : (a.length : Int) = b.length := by simpa using h
  have hab : a.length = b.length := by omega
  refine ⟨Nat, fun k => ⟨[(1, .slice pb b.length cb), (2, .func (.func 111) #[] #[]), (15, .slice pa a.length ca), (16, i64 a.length), (17, i64 (k : Nat))], []⟩, fun k X => k ≤ a.length ∧ (a.take k).map (·.1) = (b.take k).map (·.1) ∧ Below w.heap.size w X, fun k => a.length - k, 0,
    ⟨.cons rfl (.cons rfl (.cons rfl (.cons rfl (.cons rfl .nil)))), rfl⟩, ⟨Nat.zero_le _, rfl, Below.refl _ _⟩, ?_⟩
  rintro k X ⟨hk, he, hbX⟩
  dsimp only at hk he ⊢
  refine And.intro (fun hc => ?_) (fun hc => ?_)
  · have hc : (k : Int) < (a.length : Int) := of_decide_eq_true hc
    have hkl : k < a.length := by omega
    have hkb : k < b.length := by omega
    obtain ⟨b1, o1, rfl, hb1, hat1⟩ := ha.at hkl
    obtain ⟨b2, o2, rfl, hb2, hat2⟩ := hb.at hkb
    refine ⟨k, rfl, hkl, ?_⟩
    refine ⟨_, cells_at (cells_below hbX (hat1 k hkl)) (i := 0) rfl, ?_⟩
    refine ⟨k, rfl, hkb, ?_⟩
    refine ⟨_, cells_at (cells_below hbX (hat2 k hkb)) (i := 0) rfl, ?_⟩
    refine Calls.mono (keeps1_c ((ra _ (List.getElem_mem hkl)).1.below hbX) ((rb' _ (List.getElem_mem hkb)).below hbX) (ra _ (List.getElem_mem hkl)).2) ?_
    rintro e Y ⟨rfl, hbY⟩
    have hbY' : Below w.heap.size w Y := hbX.trans (hbY.mono hbX.size)
    refine And.intro (fun h1 => ?_) (fun h1 => ?_)
    · have h1 : (!decide ((a[k]).1 = (b[k]).1)) = true := h1
      have h1 : ¬ (a[k]).1 = (b[k]).1 := by simpa using h1
      refine ⟨rb (decide_eq_false (fun e => h1 ?_)).symm, hbY'⟩
      have e2 : (a.map (·.1))[k]? = (b.map (·.1))[k]? := by rw [e]
      rw [List.getElem?_map, List.getElem?_map, List.getElem?_eq_getElem hkl, List.getElem?_eq_getElem hkb] at e2
      exact Option.some.inj e2
    · have h1 : (!decide ((a[k]).1 = (b[k]).1)) = false := h1
      have h1 : (a[k]).1 = (b[k]).1 := by simpa using h1
      refine ⟨_, (wrap_i64 (by omega)).trans rfl, ?_⟩
      exact ⟨k + 1, ⟨.cons rfl (.cons rfl (.cons rfl (.cons rfl (.cons rfl .nil)))), rfl⟩, ⟨hkl, by rw [List.take_succ_eq_append_getElem hkl, List.take_succ_eq_append_getElem hkb, List.map_append, List.map_append, he]; simp [h1], hbY'⟩, by show a.length - (k + 1) < a.length - k; omega⟩
  · have hc : ¬ (k : Int) < (a.length : Int) := of_decide_eq_false hc
    have hk : k = a.length := by omega
    refine ⟨rb (decide_eq_true ?_).symm, hbX⟩
    rw [hk, List.take_length, hab, List.take_length] at he
    exact he
end Go.Proofs.YthgmcegmgjoafaaGreatDoor
namespace Go.Proofs.YthgmcegmgjoafaaGreatDoor
open Go.Vc Go.RowKit Go.Sei
theorem still_c {B : Nat} {q : Option Addr} {cq : Nat} {l : List Int} {w0 : World} {p : Option Addr} {kids : List Cnd} (hk : KidsV B w0 p kids) : ∀ (X : World) (c : Cnd) (b o cap : Nat), Below B w0 X → B ≤ X.heap.size → c.kids = kids → b < B → Cells X ⟨b, o, none⟩ (cndCells c p cap) → SlR Go.Sei.intE X q l →
    Calls Tryz.prog 113 #[.pointer (some ⟨b, o, none⟩), .slice q l.length cq] X fun e w' => e = .returned (.bool (stillL l c)) ∧ Below X.heap.size X w' := by
  induction hk with
  | mk p kids hn b1 o1 hp q1 c1 hks ht ih =>
    intro X c b o cap hbX hBX hck hb hc hl
    refine calls_of_E (S := sg 52) (sgOk _) (args := [.pointer (some ⟨b, o, none⟩), .slice q l.length cq]) Tryz.func113 rfl rfl (Nat.le_of_ble_eq_true rfl) rfl ?_
    have hbl : b < X.heap.size := Nat.lt_of_lt_of_le hb hBX
    refine ⟨_, cells_at hc (i := 0) rfl, ?_⟩
    refine And.intro (fun h1 => ?_) (fun h1 => ?_)
    · have h1 : c.kind = 1 := of_decide_eq_true ((u8d c.kind 1).symm.trans h1)
      have hdef : stillL l c = (decide (c.thread.toNat < l.length) && decide (l.getD c.thread.toNat 0 = c.thread.toNat)) := by rw [stillL_eq, if_pos h1]
      refine DrawE.ord [] [0, 1, 2, 3, 4, 5, 6, 7, 8, 9, 10, 11, 12, 13, 14, 15, 16, 17, 18, 19, 20, 21, 22, 23] (by kernel_rfl) ?_
      have hbd : Below X.heap.size X X.drew := (Below.refl _ X).drew
      have hcd := cells_below hbd hc
      refine ⟨_, cells_at hcd (i := 1) rfl, ?_⟩
      refine ⟨_, wrap_u8_i64 _, ?_⟩
      refine And.intro (fun h2 => ?_) (fun h2 => ?_)
      · have h2 : (c.thread.toNat : Int) < l.length := of_decide_eq_true h2
        have hlt : c.thread.toNat < l.length := by omega
        obtain ⟨b2, o2, rfl, hb2, hat⟩ := hl.at hlt
        refine ⟨_, cells_at hcd (i := 1) rfl, ?_⟩
        refine ⟨c.thread.toNat, rfl, hlt, ?_⟩
        refine ⟨_, cells_at (cells_below hbd (hat _ hlt)) (i := 0) rfl, ?_⟩
        refine ⟨_, cells_at hcd (i := 1) rfl, ?_⟩
        refine ⟨_, wrap_u8_i64 _, ?_⟩
        refine ⟨rb ?_, hbd⟩
        rw [hdef, decide_eq_true hlt, Bool.true_and]
        have e : l.getD c.thread.toNat 0 = l[c.thread.toNat] := by rw [List.getD_eq_getElem?_getD, List.getElem?_eq_getElem hlt]; rfl
        rw [e]
      · have h2 : ¬ (c.thread.toNat : Int) < l.length := of_decide_eq_false h2
        exact ⟨rb (by rw [hdef, decide_eq_false (by omega)]; rfl), hbd⟩
    have h1 : ¬ c.kind = 1 := of_decide_eq_false ((u8d c.kind 1).symm.trans h1)
    have hdef : stillL l c = kids.all (stillL l) := by rw [stillL_eq, if_neg h1, hck]
    rw [hdef]
    refine ⟨.slice p kids.length cap, cells_at hc (i := 4) (by rw [← hck]; rfl), ?_⟩
    refine ⟨Nat, fun k => ⟨[(0, .pointer (some ⟨b, o, none⟩)), (1, .slice q l.length cq), (38, i64 kids.length), (39, i64 (k : Nat))], []⟩, fun k Y => k ≤ kids.length ∧ (∀ x ∈ kids.take k, stillL l x = true) ∧ Below X.heap.size X Y, fun k => kids.length - k, 0,
      ⟨.cons rfl (.cons rfl (.cons rfl (.cons rfl .nil))), rfl⟩, ⟨Nat.zero_le _, by simp, Below.refl _ _⟩, ?_⟩
    rintro k Y ⟨hk, hall, hbY⟩
    dsimp only at hk hall ⊢
    refine And.intro (fun hc2 => ?_) (fun hc2 => ?_)
    · have hc2 : (k : Int) < (kids.length : Int) := of_decide_eq_true hc2
      have hkl : k < kids.length := by omega
      rcases hp with hp | rfl
      · omega
      have hb0Y : Below B w0 Y := hbX.trans (hbY.mono hBX)
      refine ⟨.slice (some ⟨b1, o1, none⟩) kids.length cap, cells_at (cells_below hbY hc) (i := 4) (by rw [← hck]; rfl), ?_⟩
      refine ⟨k, rfl, hkl, ?_⟩
      refine Calls.mono (ih k hkl Y kids[k] b1 (o1 + k * 5) (c1 k) hb0Y (Nat.le_trans hBX hbY.size) rfl (hks k hkl).1 (cells_belowB hb0Y (hks k hkl).1 (hks k hkl).2) (hl.below hbY)) ?_
      rintro e Z ⟨rfl, hbZ⟩
      have hbZ' : Below X.heap.size X Z := hbY.trans (hbZ.mono hbY.size)
      refine And.intro (fun h => ?_) (fun h => ?_)
      · have h : (!stillL l kids[k]) = true := h
        refine ⟨rb ?_, hbZ'⟩
        symm
        rw [List.all_eq_false]
        exact ⟨kids[k], List.getElem_mem _, by simpa using h⟩
      · have h : (!stillL l kids[k]) = false := h
        refine ⟨_, (wrap_i64 (by omega)).trans rfl, ?_⟩
        refine ⟨k + 1, ⟨.cons rfl (.cons rfl (.cons rfl (.cons rfl .nil))), rfl⟩, ⟨hkl, ?_, hbZ'⟩, by show kids.length - (k + 1) < kids.length - k; omega⟩
        rw [List.take_succ_eq_append_getElem hkl]
        intro x hx
        rcases List.mem_append.1 hx with hx | hx
        · exact hall x hx
        · simp only [List.mem_singleton] at hx
          rw [hx]; simpa using h
    · have hc2 : ¬ (k : Int) < (kids.length : Int) := of_decide_eq_false hc2
      obtain rfl : k = kids.length := by omega
      rw [List.take_length] at hall
      exact ⟨rb (List.all_eq_true.2 hall).symm, hbY⟩
def keepsL (p : Prg) (l : List Int) : Bool := decide (pickL [] p.threads l = p.threads) && stillL l p.cond
theorem pickL_map {xs : List ThrR} {l : List Int} : (pickL thr0 xs l).map (·.1) = pickL [] (xs.map (·.1)) l := by
  unfold pickL
  rw [List.map_map]
  refine List.map_congr_left fun x _ => ?_
  show (xs.getD x.toNat thr0).1 = (xs.map (·.1)).getD x.toNat []
  rw [List.getD_eq_getElem?_getD, List.getD_eq_getElem?_getD, List.getElem?_map]
  cases xs[x.toNat]? <;> rfl
section
variable {B wp : Nat} {p : Prg} {g : Geo} {md : UInt8} {w : World}
theorem keeps_c (h : WldC B w wp p g md) {q : Option Addr} {cap : Nat} {l : List Int} (hl : SlR Go.Sei.intE w q l) (hr : ∀ x ∈ l, 0 ≤ x ∧ x < p.threads.length) (hn : l.length ≤ 1000000) :
    Calls Tryz.prog 61 #[.pointer (some ⟨wp, 0, none⟩), .slice q l.length cap] w fun e w' => e = .returned (.bool (keepsL p l)) ∧ Below w.heap.size w w' := by
  refine calls_of_E (S := sg 28) (sgOk _) (args := [.pointer (some ⟨wp, 0, none⟩), .slice q l.length cap]) Tryz.func61 rfl rfl (Nat.le_of_ble_eq_true rfl) rfl ?_
  obtain ⟨pc, rest, hp, c1, c2, c3, hm, hlw⟩ := h.cells
  obtain ⟨hln, p1, k1, p2, k2, p3, k3, p4, k4, e, h1, h2, ⟨xs, hxs, hrx, hx⟩, h4, h5⟩ := hp
  have hlen : p.threads.length = xs.length := by rw [← hxs, List.length_map]
  have hlt := hln.threads
  subst e
  refine ⟨.slice p3 xs.length k3, cells_at c1 (i := 3) (by rw [← hlen]; rfl), ?_⟩
  refine Calls.mono (reorder_thr_c (hrx.slr h.hB) hl (fun x hx => by have := hr x hx; omega) hn) ?_
  rintro e V ⟨k, rfl, hkc, hk1, hk2, hbV⟩
  have hBV : B ≤ V.heap.size := Nat.le_trans h.hB hbV.size
  have hbB : Below B w V := hbV.mono h.hB
  refine ⟨.slice p3 xs.length k3, cells_at (cells_below hbV c1) (i := 3) (by rw [← hlen]; rfl), ?_⟩
  have hpl : (pickL thr0 xs l).length = l.length := by unfold pickL; rw [List.length_map]
  have hmem : ∀ y ∈ pickL thr0 xs l, y ∈ xs := by
    intro y hy
    unfold pickL at hy
    obtain ⟨x, hx1, rfl⟩ := List.mem_map.1 hy
    have := hr x hx1
    have h0 : x.toNat < xs.length := by omega
    rw [List.getD_eq_getElem?_getD, List.getElem?_eq_getElem h0]
    exact List.getElem_mem _
  have hx' : ∀ y ∈ xs, SlR insE V y.2.1 y.1 ∧ y.1.length ≤ 140737488351232 := fun y hy => ⟨((hx y hy).below hbB).slr hBV, hln.thread _ (by rw [← hxs]; exact List.mem_map.2 ⟨y, hy, rfl⟩)⟩
  have hEq := EqualFunc_c (pa := some ⟨k, 0, none⟩) (ca := l.length) (cb := k3) (w := V) (SlR.of_cells hk2 hkc) ((hrx.below hbB).slr hBV) (by rw [hpl]; omega) (fun y hy => hx' y (hmem y hy)) (fun y hy => (hx' y hy).1)
  rw [hpl] at hEq
  refine Calls.mono hEq ?_
  rintro e U ⟨rfl, hbU⟩
  have hbw : Below w.heap.size w U := hbV.trans (hbU.mono hbV.size)
  have e1 : decide ((pickL thr0 xs l).map (·.1) = xs.map (·.1)) = decide (pickL [] p.threads l = p.threads) := by rw [pickL_map, hxs]
  refine And.intro (fun ha => ?_) (fun ha => ?_)
  · have ha : decide (pickL [] p.threads l = p.threads) = true := e1.symm.trans ha
    have hcc : Cells w ⟨wp, 5, none⟩ (cndCells p.cond p4 k4) := cells_sub (n := 5) (m := 5) c1
    refine Calls.mono (still_c (B := w.heap.size) (h4.wider h.hB) U p.cond wp 5 k4 hbw hbw.size rfl hlw (cells_below hbw hcc) (hl.below hbw)) ?_
    rintro e Y ⟨rfl, hbY⟩
    exact ⟨rb (by unfold keepsL; rw [ha]; rfl), hbw.trans (hbY.mono hbw.size)⟩
  · have ha : decide (pickL [] p.threads l = p.threads) = false := e1.symm.trans ha
    exact ⟨rb (by unfold keepsL; rw [ha]; rfl), hbw⟩
theorem Keeps_c {vs : List Value} {q : Option Addr} {cap : Nat} {l : List Int} (hB : B ≤ w.heap.size) (hw : WldV B w vs p g md) (hT : GlobT w) (h1 : vs.all Value.oneCell' = true) (hl : SlR Go.Sei.intE w q l) (hn : l.length ≤ 1000000) :
    Calls Tryz.prog 21 #[.agg vs.toArray, .slice q l.length cap] w fun e w' => e = .returned (.bool ((turnsL p g && suitsL g md l) && keepsL p l)) ∧ Below w.heap.size w w' := by
  refine calls_of_E (S := sg 12) (sgOk _) (args := [.agg vs.toArray, .slice q l.length cap]) Tryz.func21 rfl rfl (Nat.le_of_ble_eq_true rfl) rfl ?_
  have hb0 : Below w.heap.size w (w.alloc (.cells vs.toArray 44)) := (Below.refl _ w).alloc (Nat.le_refl _) _
  have hn0 := hnew w (.cells vs.toArray 44)
  have hB0 : B ≤ (w.alloc (.cells vs.toArray 44)).heap.size := Nat.le_trans hB hb0.size
  have hw0 : WldV B (w.alloc (.cells vs.toArray 44)) vs p g md := hw.below (hb0.mono hB)
  refine ⟨vs, hw.len, cells_block hn0, hlt hn0, ?_⟩
  refine Calls.mono (FitsT_c hB0 hw0 (hT.below hb0) h1 (hl.below hb0) (by omega)) ?_
  rintro e V ⟨rfl, hbV⟩
  have hbw : Below w.heap.size w V := hb0.trans (hbV.mono hb0.size)
  refine And.intro (fun ha => ?_) (fun ha => ?_)
  · have ha : (turnsL p g && suitsL g md l) = true := ha
    have hC : WldC B V w.heap.size p g md := ⟨Nat.le_trans hB hbw.size, ⟨vs, block_below hbV hn0, hw.below (hbw.mono hB)⟩, hT.below hbw⟩
    have hr : ∀ x ∈ l, 0 ≤ x ∧ x < p.threads.length := by
      simp only [turnsL, suitsL, permL, Bool.and_eq_true, decide_eq_true_eq] at ha
      intro x hx
      have := perm_range ha.2.1.2 x hx
      omega
    refine Calls.mono (keeps_c hC (hl.below hbw) hr hn) ?_
    rintro e U ⟨rfl, hbU⟩
    exact ⟨rb (by rw [ha]; rfl), hbw.trans (hbU.mono hbw.size)⟩
  · have ha : (turnsL p g && suitsL g md l) = false := ha
    exact ⟨rb (by rw [ha]; rfl), hbw⟩
end
end Go.Proofs.YthgmcegmgjoafaaGreatDoor
namespace Go.Proofs.YthgmcegmgjoafaaGreatDoor
open Go.Vc Go.RowKit Go.Sei
def RevAt (R M : List Int) (k : Nat) : Prop := M.length = R.length ∧ ∀ i, i < R.length → M[i]? = if i < k ∨ R.length - k ≤ i then R[R.length - 1 - i]? else R[i]?
theorem Reverse_c {L cap : Nat} {A R : List Int} {w : World} (hb : w.heap[L]? = some (.cells ((A ++ R).map i64).toArray 3 (0, 0))) (hn : R.length ≤ 1000000) :
    Calls Tryz.prog 168 #[.slice (some ⟨L, A.length, none⟩) R.length cap] w fun e w' => e = .returned (.tuple #[]) ∧ w'.heap[L]? = some (.cells ((A ++ R.reverse).map i64).toArray 3 (0, 0)) ∧ w.grownBy w' (some L) ∧ w'.heap.size = w.heap.size := by
  refine calls_of_E (S := sg 28) (sgOk _) (args := [.slice (some ⟨L, A.length, none⟩) R.length cap]) Tryz.func168 rfl rfl (Nat.le_of_ble_eq_true rfl) rfl ?_
  refine ⟨((R.length : Int) - 1), wrap_i64 (by omega), ?_⟩
  have p3 : some (Value.int .i64 ((R.length : Int) - 1)) = some (i64 ((R.length : Int) - 1 - ((0 : Nat) : Int))) := by simp [i64]
  refine ⟨Nat × List Int, fun s => ⟨[(0, .slice (some ⟨L, A.length, none⟩) R.length cap), (2, i64 (s.1 : Nat)), (3, i64 ((R.length : Int) - 1 - (s.1 : Nat)))], []⟩,
    fun s X => s.1 ≤ R.length ∧ 2 * s.1 ≤ R.length + 1 ∧ RevAt R s.2 s.1 ∧ X.heap[L]? = some (.cells ((A ++ s.2).map i64).toArray 3 (0, 0)) ∧ w.grownBy X (some L) ∧ X.heap.size = w.heap.size, fun s => R.length - s.1, (0, R),
    ⟨.cons rfl (.cons rfl (.cons p3 .nil)), rfl⟩, ⟨Nat.zero_le _, by dsimp only; omega, ⟨rfl, fun i hi => by rw [if_neg (by omega)]⟩, hb, grown_refl _ _, rfl⟩, ?_⟩
  rintro ⟨k, M⟩ X ⟨hk, hk2, ⟨hM, hM2⟩, hX, gX, sX⟩
  dsimp only at hk hk2 hM hM2 hX ⊢
  refine And.intro (fun hc => ?_) (fun hc => ?_)
  · have hc : (k : Int) < (R.length : Int) - 1 - (k : Nat) := of_decide_eq_true hc
    have h1 : k < R.length := by omega
    have hkM : k < M.length := by omega
    have hjM : R.length - 1 - k < M.length := by omega
    refine DrawE.ord [13, 15] [0, 1, 4, 5, 6, 7, 8, 9, 10, 11, 2, 3, 12, 13, 14, 15] (by kernel_rfl) ?_
    have hXd : X.drew.heap[L]? = some (.cells ((A ++ M).map i64).toArray 3 (0, 0)) := block_below ((Below.refl _ X).drew) hX
    have ld : ∀ j (hj : j < M.length), X.drew.cell? ⟨L, A.length + j * 1, none⟩ = some (i64 M[j]) := fun j hj => by
      have h := cells_at (cells_block hXd) (i := A.length + j) (v := i64 M[j]) (by rw [List.getElem?_map, List.getElem?_append_right (by omega), Nat.add_sub_cancel_left, List.getElem?_eq_getElem hj]; rfl)
      rw [Nat.mul_one]
      rw [Nat.zero_add] at h
      exact h
    refine ⟨R.length - 1 - k, by omega, by omega, ?_⟩
    refine ⟨_, ld _ hjM, ?_⟩
    refine ⟨k, rfl, h1, ?_⟩
    refine ⟨_, ld _ hkM, ?_⟩
    refine ⟨k, rfl, h1, ?_⟩
    refine store_one (ttOk.get 3 _ rfl) hXd (o := A.length + k * 1) (v := i64 M[R.length - 1 - k]) rfl rfl (by simp; omega) rfl fun Y fY gY sY => ?_
    have e1 : ((A ++ M).map i64).set (A.length + k * 1) (i64 M[R.length - 1 - k]) = (A ++ M.set k M[R.length - 1 - k]).map i64 := by
      rw [← List.map_set, List.set_append_right _ _ (by omega), Nat.mul_one, Nat.add_sub_cancel_left]
    rw [e1] at fY
    refine ⟨R.length - 1 - k, by omega, by omega, ?_⟩
    refine store_one (ttOk.get 3 _ rfl) fY (o := A.length + (R.length - 1 - k) * 1) (v := i64 M[k]) rfl rfl (by simp; omega) rfl fun Z fZ gZ sZ => ?_
    have e2 : ((A ++ M.set k M[R.length - 1 - k]).map i64).set (A.length + (R.length - 1 - k) * 1) (i64 M[k]) = (A ++ (M.set k M[R.length - 1 - k]).set (R.length - 1 - k) M[k]).map i64 := by
      rw [← List.map_set, List.set_append_right _ _ (by omega), Nat.mul_one, Nat.add_sub_cancel_left]
    rw [e2] at fZ
    refine ⟨((k + 1 : Nat) : Int), (wrap_i64 (by omega)).trans rfl, ?_⟩
    refine ⟨((R.length : Int) - 1 - (k + 1 : Nat)), (wrap_i64 (by omega)).trans (by omega), ?_⟩
    refine ⟨(k + 1, (M.set k M[R.length - 1 - k]).set (R.length - 1 - k) M[k]), ⟨.cons rfl (.cons rfl (.cons rfl .nil)), rfl⟩, ⟨by dsimp only; omega, by dsimp only; omega, ⟨by simpa using hM, fun i hi => ?_⟩, fZ, ?_, ?_⟩, by show R.length - (k + 1) < R.length - k; omega⟩
    · have gk : M[k]? = R[k]? := by rw [hM2 k h1, if_neg (by omega)]
      have gj : M[R.length - 1 - k]? = R[R.length - 1 - k]? := by rw [hM2 _ (by omega), if_neg (by omega)]
      dsimp only
      rw [List.getElem?_set, List.getElem?_set, List.length_set]
      by_cases ij : R.length - 1 - k = i
      · rw [if_pos ij, if_pos (by omega), if_pos (by omega), ← List.getElem?_eq_getElem hkM, gk]
        congr 1; omega
      · rw [if_neg ij]
        by_cases ik : k = i
        · rw [if_pos ik, if_pos (by omega), if_pos (by omega), ← List.getElem?_eq_getElem hjM, gj]
          congr 1; omega
        · rw [if_neg ik, hM2 i hi]
          by_cases hh : i < k ∨ R.length - k ≤ i
          · rw [if_pos hh, if_pos (by omega)]
          · rw [if_neg hh, if_neg (by omega)]
    · exact grown_trans gX (grown_trans (grown_of_below ((Below.refl _ X).drew)) (grown_trans gY gZ))
    · rw [sZ, sY, ← sX]; rfl
  · have hc : ¬ (k : Int) < (R.length : Int) - 1 - (k : Nat) := of_decide_eq_false hc
    have hMR : M = R.reverse := by
      apply List.ext_getElem?
      intro i
      by_cases hi : i < R.length
      · rw [hM2 i hi, List.getElem?_reverse hi]
        by_cases hh : i < k ∨ R.length - k ≤ i
        · rw [if_pos hh]
        · rw [if_neg hh]; congr 1; omega
      · rw [List.getElem?_eq_none (by omega), List.getElem?_eq_none (by simp; omega)]
    refine ⟨rfl, ?_, gX, sX⟩
    rw [hX, hMR]
end Go.Proofs.YthgmcegmgjoafaaGreatDoor
namespace Go.Proofs.YthgmcegmgjoafaaGreatDoor
open Go.Vc Go.RowKit Go.Sei
theorem pivGo_lt {l : List Int} : ∀ {m i : Nat}, pivGo l m = some i → i < m
  | 0, _, h => by cases h
  | m + 1, i, h => by
    unfold pivGo at h
    split at h
    · have := pivGo_lt h; omega
    · simp only [Option.some.injEq] at h; omega
theorem advance_c {L cap : Nat} {l : List Int} {w : World} (hb : w.heap[L]? = some (.cells (l.map i64).toArray 3 (0, 0))) (h1 : 1 ≤ l.length) (hn : l.length ≤ 1000000) (hcap : l.length ≤ cap) :
    Calls Tryz.prog 107 #[.slice (some ⟨L, 0, none⟩) l.length cap] w fun e w' => e = .returned (.bool (stepL l).isSome) ∧ w'.heap[L]? = some (.cells (((stepL l).getD l).map i64).toArray 3 (0, 0)) ∧ w.grownBy w' (some L) ∧ w'.heap.size = w.heap.size := by
  refine calls_of_E (S := sg 59) (sgOk _) (args := [.slice (some ⟨L, 0, none⟩) l.length cap]) Tryz.func107 rfl rfl (Nat.le_of_ble_eq_true rfl) rfl ?_
  have ldX : ∀ (X : World) (M : List Int), X.heap[L]? = some (.cells (M.map i64).toArray 3 (0, 0)) → ∀ j (hj : j < M.length), X.cell? ⟨L, 0 + j * 1, none⟩ = some (i64 M[j]) := fun X M hX j hj => by
    have h := cells_at (cells_block hX) (i := j) (v := i64 M[j]) (by rw [List.getElem?_map, List.getElem?_eq_getElem hj]; rfl)
    rw [Nat.mul_one]
    exact h
  have gd : ∀ j (hj : j < l.length), l.getD j 0 = l[j] := fun j hj => by rw [List.getD_eq_getElem?_getD, List.getElem?_eq_getElem hj]; rfl
  refine ⟨((l.length : Int) - 2), wrap_i64 (by omega), ?_⟩
  have p3 : some (Value.int .i64 ((l.length : Int) - 2)) = some (i64 (((l.length - 1 : Nat) : Int) - 1)) := by
    rw [show ((l.length - 1 : Nat) : Int) - 1 = (l.length : Int) - 2 by omega]; rfl
  refine ⟨Nat, fun m => ⟨[(0, .slice (some ⟨L, 0, none⟩) l.length cap), (3, i64 ((m : Nat) - 1 : Int))], []⟩,
    fun m X => m ≤ l.length - 1 ∧ pivGo l m = pivGo l (l.length - 1) ∧ X.heap[L]? = some (.cells (l.map i64).toArray 3 (0, 0)) ∧ w.grownBy X (some L) ∧ X.heap.size = w.heap.size, fun m => m, l.length - 1,
    ⟨.cons rfl (.cons p3 .nil), rfl⟩, ⟨Nat.le_refl _, rfl, hb, grown_refl _ _, rfl⟩, ?_⟩
  rintro m X ⟨hm, hpv, hX, gX, sX⟩
  dsimp only at hm hpv ⊢
  refine DrawE.ord [] [0, 1, 2, 3, 4, 5, 6, 7, 8, 9, 10, 11, 12, 13] (by kernel_rfl) ?_
  have hXd : X.drew.heap[L]? = some (.cells (l.map i64).toArray 3 (0, 0)) := block_below ((Below.refl _ X).drew) hX
  have gXd : w.grownBy X.drew (some L) := grown_trans gX (grown_of_below ((Below.refl _ X).drew))
  have sXd : X.drew.heap.size = w.heap.size := sX
  refine And.intro (fun hc => ?_) (fun hc => ?_)
  · have hc : (0 : Int) ≤ (m : Int) - 1 := of_decide_eq_true hc
    obtain ⟨k, rfl⟩ : ∃ k, m = k + 1 := ⟨m - 1, by omega⟩
    have hk : k < l.length := by omega
    have hk1 : k + 1 < l.length := by omega
    refine ⟨k, by omega, hk, ?_⟩
    refine ⟨_, ldX _ _ hXd k hk, ?_⟩
    refine ⟨((k + 1 : Nat) : Int), (wrap_i64 (by omega)).trans (by omega), ?_⟩
    refine ⟨k + 1, rfl, hk1, ?_⟩
    refine ⟨_, ldX _ _ hXd (k + 1) hk1, ?_⟩
    refine And.intro (fun hg => ?_) (fun hg => ?_)
    · have hg : l[k + 1] < l[k] := of_decide_eq_true hg
      refine ⟨((k : Nat) : Int) - 1, (wrap_i64 (by omega)).trans (by omega), ?_⟩
      refine ⟨k, ⟨.cons rfl (.cons rfl .nil), rfl⟩, ⟨by omega, ?_, hXd, gXd, sXd⟩, Nat.lt_succ_self _⟩
      rw [← hpv]
      show _ = if l.getD (k + 1) 0 < l.getD k 0 then pivGo l k else some k
      rw [gd _ hk, gd _ hk1, if_pos hg]
    · have hg : ¬ l[k + 1] < l[k] := of_decide_eq_false hg
      have hpk : pivGo l (l.length - 1) = some k := by
        rw [← hpv]
        show (if l.getD (k + 1) 0 < l.getD k 0 then pivGo l k else some k) = _
        rw [gd _ hk, gd _ hk1, if_neg hg]
      refine And.intro (fun h => ?_) (fun _ => ?_)
      · have h : ((k + 1 : Nat) : Int) - 1 < 0 := of_decide_eq_true h
        omega
      refine ⟨((l.length - 1 : Nat) : Int), (wrap_i64 (by omega)).trans (by omega), ?_⟩
      have hgk : l.getD k 0 = l[k] := gd _ hk
      have p4 : some (i64 (((k + 1 : Nat) : Int) - 1)) = some (i64 (k : Nat)) := by rw [show ((k + 1 : Nat) : Int) - 1 = (k : Int) by omega]
      refine ⟨Nat, fun j => ⟨[(0, .slice (some ⟨L, 0, none⟩) l.length cap), (3, i64 (k : Nat)), (4, i64 (j : Nat))], []⟩,
        fun j Y => k ≤ j ∧ j < l.length ∧ jGo l l[k] (j + 1) = jGo l l[k] l.length ∧ Y.heap[L]? = some (.cells (l.map i64).toArray 3 (0, 0)) ∧ w.grownBy Y (some L) ∧ Y.heap.size = w.heap.size, fun j => j, l.length - 1,
        ⟨.cons rfl (.cons p4 (.cons rfl .nil)), rfl⟩, ⟨by omega, by omega, by rw [show l.length - 1 + 1 = l.length by omega], hXd, gXd, sXd⟩, ?_⟩
      clear hX gX sX hXd gXd sXd
      rintro j Y ⟨hkj, hj, hjg, hY, gY, sY⟩
      dsimp only at hkj hj hjg ⊢
      refine DrawE.ord [] [0, 1, 2, 3, 4, 5, 6, 7, 8] (by kernel_rfl) ?_
      have hYd : Y.drew.heap[L]? = some (.cells (l.map i64).toArray 3 (0, 0)) := block_below ((Below.refl _ Y).drew) hY
      have gYd : w.grownBy Y.drew (some L) := grown_trans gY (grown_of_below ((Below.refl _ Y).drew))
      have sYd : Y.drew.heap.size = w.heap.size := sY
      refine ⟨j, rfl, hj, ?_⟩
      refine ⟨_, ldX _ _ hYd j hj, ?_⟩
      refine ⟨k, rfl, hk, ?_⟩
      refine ⟨_, ldX _ _ hYd k hk, ?_⟩
      refine And.intro (fun h2 => ?_) (fun h2 => ?_)
      · have h2 : l[j] < l[k] := of_decide_eq_true h2
        have hjk : j ≠ k := fun e => by subst e; omega
        refine ⟨((j - 1 : Nat) : Int), (wrap_i64 (by omega)).trans (by omega), ?_⟩
        refine ⟨j - 1, ⟨.cons rfl (.cons rfl (.cons rfl .nil)), rfl⟩, ⟨by omega, by omega, ?_, hYd, gYd, sYd⟩, by show j - 1 < j; omega⟩
        rw [← hjg, show j - 1 + 1 = j by omega]
        show _ = if l.getD j 0 < l[k] then jGo l l[k] j else j
        rw [gd _ hj, if_pos h2]
      · have h2 : ¬ l[j] < l[k] := of_decide_eq_false h2
        have hjv : jGo l l[k] l.length = j := by
          rw [← hjg]
          show (if l.getD j 0 < l[k] then jGo l l[k] j else j) = j
          rw [gd _ hj, if_neg h2]
        clear hY gY sY
        have hst : stepL l = some (((l.set k l[j]).set j l[k]).take (k + 1) ++ (((l.set k l[j]).set j l[k]).drop (k + 1)).reverse) := by
          unfold stepL
          rw [hpk]
          dsimp only
          rw [hgk, hjv, gd _ hj]
        rw [hst]
        refine DrawE.ord [13, 15] [0, 1, 4, 5, 6, 7, 8, 9, 10, 11, 2, 3, 12, 13, 14, 15] (by kernel_rfl) ?_
        have hZd : Y.drew.drew.heap[L]? = some (.cells (l.map i64).toArray 3 (0, 0)) := block_below ((Below.refl _ Y.drew).drew) hYd
        have gZd : w.grownBy Y.drew.drew (some L) := grown_trans gYd (grown_of_below ((Below.refl _ Y.drew).drew))
        have sZd : Y.drew.drew.heap.size = w.heap.size := sYd
        refine ⟨j, rfl, hj, ?_⟩
        refine ⟨_, ldX _ _ hZd j hj, ?_⟩
        refine ⟨k, rfl, hk, ?_⟩
        refine ⟨_, ldX _ _ hZd k hk, ?_⟩
        refine ⟨k, rfl, hk, ?_⟩
        refine store_one (ttOk.get 3 _ rfl) hZd (o := 0 + k * 1) (v := i64 l[j]) rfl rfl (by simp; omega) rfl fun U fU gU sU => ?_
        rw [← List.map_set, Nat.mul_one, Nat.zero_add] at fU
        refine ⟨j, rfl, hj, ?_⟩
        refine store_one (ttOk.get 3 _ rfl) fU (o := 0 + j * 1) (v := i64 l[k]) rfl rfl (by simp; omega) rfl fun T fT gT sT => ?_
        rw [← List.map_set, Nat.mul_one, Nat.zero_add] at fT
        obtain ⟨M, hM⟩ : ∃ M, M = (l.set k l[j]).set j l[k] := ⟨_, rfl⟩
        have hMl : M.length = l.length := by rw [hM]; simp
        rw [← hM] at fT ⊢
        have gTw : w.grownBy T (some L) := grown_trans gZd (grown_trans gU gT)
        have sTw : T.heap.size = w.heap.size := by rw [sT, sU, sZd]
        refine ⟨((k + 1 : Nat) : Int), (wrap_i64 (by omega)).trans rfl, ?_⟩
        refine ⟨k + 1, rfl, by omega, ?_⟩
        have hrev : Calls Tryz.prog 168 #[.slice (cutBase (some ⟨L, 0, none⟩) cap (k + 1) 1) (l.length - (k + 1)) (cap - (k + 1))] T fun e w' => e = .returned (.tuple #[]) ∧ w'.heap[L]? = some (.cells ((M.take (k + 1) ++ (M.drop (k + 1)).reverse).map i64).toArray 3 (0, 0)) ∧ T.grownBy w' (some L) ∧ w'.heap.size = T.heap.size := by
          have h := Reverse_c (L := L) (cap := cap - (k + 1)) (A := M.take (k + 1)) (R := M.drop (k + 1)) (w := T) (by rw [List.take_append_drop]; exact fT) (by rw [List.length_drop]; omega)
          have e1 : (M.take (k + 1)).length = k + 1 := by rw [List.length_take]; omega
          have e2 : (M.drop (k + 1)).length = l.length - (k + 1) := by rw [List.length_drop, hMl]
          have e3 : cutBase (some ⟨L, 0, none⟩) cap (k + 1) 1 = some ⟨L, k + 1, none⟩ := by
            unfold cutBase
            rw [if_neg (by omega), Nat.mul_one]
            show some (Addr.add ⟨L, 0, none⟩ (k + 1)) = _
            simp [Addr.add]
          rw [e1, e2] at h
          rw [e3]
          exact h
        refine Calls.mono hrev ?_
        rintro e S ⟨rfl, fS, gS, sS⟩
        exact ⟨rfl, fS, grown_trans gTw gS, by rw [sS, sTw]⟩
  · have hc : ¬ (0 : Int) ≤ (m : Int) - 1 := of_decide_eq_false hc
    obtain rfl : m = 0 := by omega
    have hst : stepL l = none := by unfold stepL; rw [← hpv]; rfl
    rw [hst]
    refine brF ?_
    refine And.intro (fun _ => ?_) (fun h => ?_)
    · exact ⟨rfl, hXd, gXd, sXd⟩
    · have h : ¬ ((0 : Nat) : Int) - 1 < 0 := of_decide_eq_false h
      omega
end Go.Proofs.YthgmcegmgjoafaaGreatDoor
