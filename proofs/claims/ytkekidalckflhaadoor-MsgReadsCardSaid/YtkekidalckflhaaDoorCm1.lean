/- Contracts: isNaN, cmp.Compare, slices.Compare at bytes. -/
import Derived.Test.YtkekidalckflhaaDoorVcS
import Derived.Test.YtkekidalckflhaaDoorMsgM
import Derived.Test.YtkekidalckflhaaDoorSig
namespace Go.Proofs.YtkekidalckflhaaDoor
open Go.Vc Go.RowKit Go.Sei

def cmp8 (x y : UInt8) : Int := if x.toNat < y.toNat then -1 else if y.toNat < x.toNat then 1 else 0
def cmpL : List UInt8 → List UInt8 → Int
  | [], [] => 0
  | [], _ :: _ => -1
  | _ :: _, [] => 1
  | x :: r, y :: s => if x = y then cmpL r s else cmp8 x y

theorem isNaN_c (x : UInt8) (w : World) : Calls Tryd.prog 61 #[u8 x] w fun e w' => e = .returned (.bool false) ∧ w = w' := by
  refine calls_of_E (S := sg 6) (sgOk _) (args := [u8 x]) Tryd.func61 rfl rfl (Nat.le_of_ble_eq_true rfl) rfl ?_
  exact And.intro (rb (by simp)) rfl

theorem Compare8_c (x y : UInt8) (w : World) : Calls Tryd.prog 42 #[u8 x, u8 y] w fun e w' => e = .returned (.int .i64 (cmp8 x y)) ∧ w = w' := by
  refine calls_of_E (S := sg 20) (sgOk _) (args := [u8 x, u8 y]) Tryd.func42 rfl rfl (Nat.le_of_ble_eq_true rfl) rfl ?_
  refine Calls.mono (isNaN_c x w) ?_
  rintro e w' ⟨rfl, rfl⟩
  refine Calls.mono (isNaN_c y w) ?_
  rintro e w' ⟨rfl, rfl⟩
  refine And.intro (fun h => by cases h) (fun _ => ?_)
  refine And.intro (fun h => by cases h) (fun _ => ?_)
  refine And.intro (fun h => ?_) (fun h => ?_)
  · have h : (x.toNat : Int) < y.toNat := of_decide_eq_true h
    exact And.intro (ri (by unfold cmp8; rw [if_pos (by omega)])) rfl
  · have h : ¬ (x.toNat : Int) < y.toNat := of_decide_eq_false h
    refine And.intro (fun h2 => ?_) (fun h2 => ?_)
    · have h2 : (y.toNat : Int) < x.toNat := of_decide_eq_true h2
      exact And.intro (ri (by unfold cmp8; rw [if_neg (by omega), if_pos (by omega)])) rfl
    · have h2 : ¬ (y.toNat : Int) < x.toNat := of_decide_eq_false h2
      exact And.intro (ri (by unfold cmp8; rw [if_neg (by omega), if_neg (by omega)])) rfl

def byteE : Enc UInt8 := ⟨fun b => [u8 b], 1, fun _ => rfl, by decide, fun a u hu => by
  simp only [List.mem_cons, List.not_mem_nil, or_false] at hu; subst hu; rfl⟩
theorem byte_at {w : World} {p : Option Addr} {l : List UInt8} (h : SlR byteE w p l) {k : Nat} (hk : k < l.length) : ∃ b o, p = some ⟨b, o, none⟩ ∧ b < w.heap.size ∧ w.cell? ⟨b, o + k * 1, none⟩ = some (u8 l[k]) := by
  obtain ⟨b, o, rfl, hb, hc⟩ := h.at hk
  exact ⟨b, o, rfl, hb, cells_head (hc k hk)⟩
theorem cmpL_drop : ∀ (l1 l2 : List UInt8) (k : Nat), k ≤ l1.length → k ≤ l2.length → l1.take k = l2.take k → cmpL l1 l2 = cmpL (l1.drop k) (l2.drop k)
  | l1, l2, 0, _, _, _ => by simp
  | [], _, k + 1, h, _, _ => by simp at h
  | _ :: _, [], k + 1, _, h, _ => by simp at h
  | x :: r, y :: s, k + 1, h1, h2, h3 => by
    simp at h1 h2 h3
    rw [cmpL, if_pos h3.1, List.drop_succ_cons, List.drop_succ_cons]
    exact cmpL_drop r s k h1 h2 h3.2
theorem cmp8_ne {x y : UInt8} (h : x ≠ y) : cmp8 x y ≠ 0 := by
  have : x.toNat ≠ y.toNat := fun e => h (UInt8.toNat_inj.1 e)
  unfold cmp8; split
  · decide
  · split
    · decide
    · omega
theorem cmp8_self (x : UInt8) : cmp8 x x = 0 := by simp [cmp8]

theorem CompareL_c (p1 p2 : Option Addr) (cap1 cap2 : Nat) (l1 l2 : List UInt8) (w : World) (h1 : SlR byteE w p1 l1) (h2 : SlR byteE w p2 l2) (hn : l1.length ≤ 1000000000) :
    Calls Tryd.prog 23 #[.slice p1 l1.length cap1, .slice p2 l2.length cap2] w fun e w' => e = .returned (.int .i64 (cmpL l1 l2)) ∧ w = w' := by
  refine calls_of_E (S := sg 36) (sgOk _) (args := [.slice p1 l1.length cap1, .slice p2 l2.length cap2]) Tryd.func23 rfl rfl (Nat.le_of_ble_eq_true rfl) rfl ?_
  refine ⟨Nat, fun k => ⟨[(0, .slice p1 l1.length cap1), (1, .slice p2 l2.length cap2), (4, .int .i64 0), (9, .slice p1 l1.length cap1), (10, .int .i64 l1.length), (11, .int .i64 (k : Nat))], []⟩,
    fun k X => k ≤ l1.length ∧ k ≤ l2.length ∧ X = w ∧ l1.take k = l2.take k, fun k => l1.length - k, 0, ⟨.cons rfl (.cons rfl (.cons rfl (.cons rfl (.cons rfl (.cons rfl .nil))))), rfl⟩, ⟨Nat.zero_le _, Nat.zero_le _, rfl, by simp⟩, ?_⟩
  rintro k X ⟨hk, hk2, rfl, hm⟩
  have hcd := cmpL_drop l1 l2 k hk hk2 hm
  refine And.intro (fun h => ?_) (fun h => ?_)
  · have h : (k : Int) < l1.length := of_decide_eq_true h
    have hkl : k < l1.length := by omega
    have hd1 : l1.drop k = l1[k] :: l1.drop (k + 1) := List.drop_eq_getElem_cons hkl
    obtain ⟨b1, o1, rfl, hb1, hc1⟩ := byte_at h1 hkl
    refine ⟨k, rfl, hkl, ?_⟩
    refine ⟨_, hc1, ?_⟩
    refine And.intro (fun h => ?_) (fun h => ?_)
    · have h : (l2.length : Int) ≤ k := of_decide_eq_true h
      refine And.intro (ri ?_) rfl
      have hd2 : l2.drop k = [] := List.drop_of_length_le (by omega)
      rw [hcd, hd1, hd2]; rfl
    · have h : ¬ (l2.length : Int) ≤ k := of_decide_eq_false h
      have hkl2 : k < l2.length := by omega
      have hd2 : l2.drop k = l2[k] :: l2.drop (k + 1) := List.drop_eq_getElem_cons hkl2
      obtain ⟨b2, o2, rfl, hb2, hc2⟩ := byte_at h2 hkl2
      refine ⟨k, rfl, hkl2, ?_⟩
      refine ⟨_, hc2, ?_⟩
      refine Calls.mono (Compare8_c l1[k] l2[k] X) ?_
      rintro e w' ⟨rfl, rfl⟩
      refine And.intro (fun h => ?_) (fun h => ?_)
      · have h : ¬ cmp8 l1[k] l2[k] = 0 := by simpa using h
        have hne : l1[k] ≠ l2[k] := fun e => h (by rw [e]; exact cmp8_self _)
        refine And.intro (ri ?_) rfl
        rw [hcd, hd1, hd2, cmpL, if_neg hne]
      · have h : cmp8 l1[k] l2[k] = 0 := by simpa using h
        have he : l1[k] = l2[k] := Decidable.byContradiction fun hne => cmp8_ne hne h
        refine ⟨(k + 1 : Nat), (wrap_i64 (by omega)).trans (by omega), ?_⟩
        refine ⟨k + 1, ⟨.cons rfl (.cons rfl (.cons rfl (.cons rfl (.cons rfl (.cons rfl .nil))))), rfl⟩, ⟨hkl, hkl2, rfl, ?_⟩, by dsimp only; omega⟩
        rw [List.take_succ_eq_append_getElem hkl, List.take_succ_eq_append_getElem hkl2, hm, he]
  · have h : ¬ (k : Int) < l1.length := of_decide_eq_false h
    refine And.intro (fun h2 => ?_) (fun h2 => ?_)
    · have h2 : (l1.length : Int) < l2.length := of_decide_eq_true h2
      refine And.intro (ri ?_) rfl
      have hd1 : l1.drop k = [] := List.drop_of_length_le (by omega)
      have hd2 : l2.drop k = l2[k] :: l2.drop (k + 1) := List.drop_eq_getElem_cons (by omega)
      rw [hcd, hd1, hd2]; rfl
    · have h2 : ¬ (l1.length : Int) < l2.length := of_decide_eq_false h2
      refine And.intro (ri ?_) rfl
      have hd1 : l1.drop k = [] := List.drop_of_length_le (by omega)
      have hd2 : l2.drop k = [] := List.drop_of_length_le (by omega)
      rw [hcd, hd1, hd2]; rfl
end Go.Proofs.YtkekidalckflhaaDoor
