/- Law17: the closures number and skip of msg.scan; kindOf. -/
import Derived.Test.YtkekidalckflhaaDoorMg4
import Derived.Lib.SmallJoins
namespace Go.Proofs.YtkekidalckflhaaDoor
open Go.Vc Go.RowKit Go.Sei

theorem eq_nil0 (d : Nat) (w : World) : (Op.equalIn (d + 1) 66 .nilIface .nilIface).run Tryd.prog w = .ok true w := by
  simp [Op.equalIn, run_underlying Tryd.underlying66]
theorem eq_nil1 (d : Nat) (t : TypeId) (v : Value) (w : World) : (Op.equalIn (d + 1) 66 (.iface t v) .nilIface).run Tryd.prog w = .ok false w := by
  simp [Op.equalIn, run_underlying Tryd.underlying66]
theorem neq_nil0 (x : Operand) (w : World) : (do eqGuard .neq 66 x (.const .nilIface) .nilIface .nilIface; binOp .neq 66 .nilIface .nilIface).run Tryd.prog w = .ok (.bool false) w := by
  have h : (Op.equal 66 .nilIface .nilIface).run Tryd.prog w = .ok true w := eq_nil0 9999 w
  have h1 : (eqGuard .neq 66 x (.const .nilIface) .nilIface .nilIface).run Tryd.prog w = .ok () w := by
    simp [eqGuard]
  rw [Sem.run_bind, h1]
  simp only [Result.andThen_ok, binOp, Sem.run_bind, h, Sem.run_pure]; rfl
theorem neq_nil1 (x : Operand) (t : TypeId) (v : Value) (w : World) : (do eqGuard .neq 66 x (.const .nilIface) (.iface t v) .nilIface; binOp .neq 66 (.iface t v) .nilIface).run Tryd.prog w = .ok (.bool true) w := by
  have h : (Op.equal 66 (.iface t v) .nilIface).run Tryd.prog w = .ok false w := eq_nil1 9999 t v w
  have h1 : (eqGuard .neq 66 x (.const .nilIface) (.iface t v) .nilIface).run Tryd.prog w = .ok () w := by
    simp [eqGuard]
  rw [Sem.run_bind, h1]
  simp only [Result.andThen_ok, binOp, Sem.run_bind, h, Sem.run_pure]; rfl
theorem wrap_u8_nat (u : Nat) : IntKind.u8.wrap (u : Int) = ((UInt8.ofNat u).toNat : Int) := by
  rw [UInt8.toNat_ofNat']
  unfold IntKind.wrap
  simp only [IntKind.bits, IntKind.signed, Bool.false_and, Bool.false_eq_true, if_false]
  omega

theorem num_c (s : List UInt8) (hs : s.length ≤ 4294967280) (w0 : World) (st : Wst) (m : Msg) (V : World) (h : Sc w0 st m V) :
    Calls Tryd.prog 44 #[strV s, .pointer (some ⟨w0.heap.size + 2, 0, none⟩)] V fun e V' => e = .returned (u8 (num s st).1) ∧ Sc w0 (num s st).2 m V' := by
  refine calls_of_E (S := sg 15) (sgOk _) (args := [strV s, .pointer (some ⟨w0.heap.size + 2, 0, none⟩)]) Tryd.func44 rfl rfl (Nat.le_of_ble_eq_true rfl) rfl ?_
  have hg := h.glob.below h.bel
  have hsz : (bs s).size = s.length := rfl
  have hl := h.lt
  have bad : ∀ V1, Sc w0 st m V1 → Sc w0 (st.1, false) m (V1.setRow (w0.heap.size + 2) #[.bool false]) := fun V1 h => by
    obtain ⟨⟨p, cap, f1, hr, hc⟩, fm, fo, fn, hb, hg, hsh⟩ := h
    exact ⟨⟨p, cap, (setRow_old (by omega)).trans f1, hr, hc⟩, (setRow_old (by omega)).trans fm, setRow_new fo, (setRow_old (by omega)).trans fn, below_setRow hb (by omega) _, hg, hsh⟩
  cases hp : Lib.parseUintB 8 s
  · rename_i u
    have hn : num s st = (UInt8.ofNat u, st) := by unfold num; rw [hp]
    refine Calls.mono (Tryd.strconv_ParseUint_10_at8_ok (bs s) (by omega) u hp V) ?_
    rintro e V1 ⟨rfl, hV⟩
    have hb1 : Below V.heap.size V V1 := by
      rcases hV with rfl | rfl
      · exact Below.refl _ _
      · exact Go.Joins.below_bytesWorld _ _ _ _ (Nat.le_refl _)
    refine ⟨_, fun w => neq_nil0 _ w, ?_⟩
    refine And.intro (fun h => by cases h) (fun _ => ?_)
    rw [hn]
    refine ⟨((UInt8.ofNat u).toNat : Int), wrap_u8_nat u, ?_⟩
    exact And.intro rfl (h.below hb1)
  · have hn : num s st = (0, (st.1, false)) := by unfold num; rw [hp]
    obtain ⟨ev, he, he2⟩ := hg.syn
    refine Calls.mono (Any.strconv_ParseUint_10_at8_syntax Tryd.laysPu14 (bs s) (by omega) hp ev V he he2) ?_
    rintro e V1 ⟨N, rfl, _, _, hb1⟩
    refine ⟨_, fun w => neq_nil1 _ _ _ w, ?_⟩
    refine And.intro (fun _ => ?_) (fun h => by cases h)
    have h1 := h.below hb1
    refine store_box (v := .bool false) (ttOk.get 4 _ rfl) h1.o (by rfl) rfl (by rfl) ?_
    rw [hn]
    exact And.intro rfl (bad V1 h1)
  · have hn : num s st = (0, (st.1, false)) := by unfold num; rw [hp]
    obtain ⟨ev, he, he2⟩ := hg.rng
    refine Calls.mono (Tryd.strconv_ParseUint_10_at8_range (bs s) (by omega) hp ev V he he2) ?_
    rintro e V1 ⟨N, rfl, _, _, hb1⟩
    refine ⟨_, fun w => neq_nil1 _ _ _ w, ?_⟩
    refine And.intro (fun _ => ?_) (fun h => by cases h)
    have h1 := h.below hb1
    refine store_box (v := .bool false) (ttOk.get 4 _ rfl) h1.o (by rfl) rfl (by rfl) ?_
    rw [hn]
    exact And.intro rfl (bad V1 h1)

theorem skip_c (wd : List UInt8) (w0 : World) (st : Wst) (m : Msg) (V : World) (h : Sc w0 st m V) :
    Calls Tryd.prog 46 #[strV wd, .pointer (some ⟨w0.heap.size, 0, none⟩), .pointer (some ⟨w0.heap.size + 3, 0, none⟩)] V fun e V' => e = .returned (.bool (skp wd st).1) ∧ Sc w0 (skp wd st).2 m V' := by
  refine calls_of_E (S := sg 17) (sgOk _) (args := [strV wd, .pointer (some ⟨w0.heap.size, 0, none⟩), .pointer (some ⟨w0.heap.size + 3, 0, none⟩)]) Tryd.func46 rfl rfl (Nat.le_of_ble_eq_true rfl) rfl ?_
  obtain ⟨p, cap, f1, hr, hc⟩ := h.w
  refine ⟨_, cells_head (cells_block f1), ?_⟩
  refine And.intro (fun h0 => ?_) (fun h0 => ?_)
  · have h0 : (st.1.length : Int) = 0 := of_decide_eq_true h0
    have he : st.1 = [] := List.eq_nil_of_length_eq_zero (by omega)
    have hn : skp wd st = (false, st) := by unfold skp; rw [he]
    refine And.intro (fun _ => ?_) (fun h => by cases h)
    rw [hn]
    exact And.intro rfl h
  · have h0 : ¬ (st.1.length : Int) = 0 := of_decide_eq_false h0
    obtain ⟨x, r, he⟩ : ∃ x r, st.1 = x :: r := by
      cases hs : st.1 with
      | nil => rw [hs] at h0; simp at h0
      | cons x r => exact ⟨x, r, rfl⟩
    have hlen : st.1.length = r.length + 1 := by rw [he]; rfl
    have hr' := hr
    rw [he] at hr'
    obtain ⟨bk, o, hp, hbk, hcl⟩ := hr'.at (i := 0) (by simp)
    subst hp
    refine ⟨_, cells_head (cells_block f1), ?_⟩
    refine ⟨0, rfl, by omega, ?_⟩
    have hx := cells_head (cells_below h.bel (hcl 0 (by simp)))
    refine ⟨_, hx, ?_⟩
    refine ⟨_, fun w => neq_str _ _ x wd w, ?_⟩
    refine And.intro (fun h1 => ?_) (fun h1 => ?_)
    · have h1 : ¬ x = wd := by simpa using h1
      have hn : skp wd st = (false, st) := by unfold skp; rw [he]; simp only [if_neg h1]
      rw [hn]
      exact And.intro rfl h
    · have h1 : x = wd := by simpa using h1
      have hn : skp wd st = (true, (r, st.2)) := by unfold skp; rw [he]; simp only [if_pos h1]
      have hnx : nxt st = (x, (r, st.2)) := by unfold nxt; rw [he]
      refine ⟨_, cells_head (cells_block h.n), ?_⟩
      refine Calls.mono (next_c w0 st m V h) ?_
      rintro e V1 ⟨rfl, h2⟩
      rw [hnx] at h2
      rw [hn]
      exact And.intro rfl h2

def kindL (s : List UInt8) : UInt8 := if kindNames.idxOf s < 13 then UInt8.ofNat (kindNames.idxOf s) else 0
theorem kindOf_c (s : List UInt8) (w : World) (hg : GlobM w) : Calls Tryd.prog 47 #[strV s] w fun e w' => e = .returned (u8 (kindL s)) ∧ w = w' := by
  refine calls_of_E (S := sg 16) (sgOk _) (args := [strV s]) Tryd.func47 rfl rfl (Nat.le_of_ble_eq_true rfl) rfl ?_
  refine ⟨kindNames.map strV, rfl, hg.nms, hg.lt, ?_⟩
  refine ⟨Nat, fun k => ⟨[(0, strV s), (5, .agg (kindNames.map strV).toArray), (6, .int .i64 (k : Nat))], []⟩, fun k V => k ≤ 13 ∧ (∀ j (hj : j < kindNames.length), j < k → kindNames[j] ≠ s) ∧ w = V, fun k => 13 - k, 0,
    ⟨.cons rfl (.cons rfl (.cons rfl .nil)), rfl⟩, ⟨Nat.zero_le _, fun _ _ h => absurd h (by omega), rfl⟩, ?_⟩
  rintro k _ ⟨hk, hno, rfl⟩
  refine And.intro (fun h => ?_) (fun h => ?_)
  · have h : (k : Int) < 13 := of_decide_eq_true h
    have hkl : k < kindNames.length := by show k < 13; omega
    refine ⟨k, rfl, by omega, ?_⟩
    have hget : (kindNames.map strV)[k * 1]? = some (strV kindNames[k]) := by
      rw [Nat.mul_one, List.getElem?_map, List.getElem?_eq_getElem hkl]; rfl
    refine partE_at hget ?_
    refine ⟨_, fun w => eql_str _ _ kindNames[k] s w, ?_⟩
    refine And.intro (fun h1 => ?_) (fun h1 => ?_)
    · have h1 : kindNames[k] = s := of_decide_eq_true h1
      have hi : kindNames.idxOf s = k := by
        have h2 : kindNames.idxOf s ≤ k := by
          refine Nat.le_of_not_lt fun hlt2 => ?_
          have hlt2 : k < kindNames.findIdx (fun x => x == s) := hlt2
          have := List.not_of_lt_findIdx hlt2
          simp [h1] at this
        have h3 : kindNames.idxOf s < kindNames.length := by omega
        have h4 : kindNames[kindNames.idxOf s] = s := List.getElem_idxOf h3
        rcases Nat.lt_or_ge (kindNames.idxOf s) k with h5 | h5
        · exact absurd h4 (hno _ h3 h5)
        · omega
      refine ⟨((UInt8.ofNat k).toNat : Int), wrap_u8_nat k, ?_⟩
      refine And.intro ?_ rfl
      unfold kindL; rw [hi, if_pos (by omega)]; rfl
    · have h1 : ¬ kindNames[k] = s := of_decide_eq_false h1
      refine ⟨(k + 1 : Nat), (wrap_i64 (by omega)).trans (by omega), ?_⟩
      refine ⟨k + 1, ⟨.cons rfl (.cons rfl (.cons rfl .nil)), rfl⟩, ⟨by omega, fun j hj hjk => ?_, rfl⟩, by dsimp only; omega⟩
      by_cases e : j = k
      · subst e; exact h1
      · exact hno j hj (by omega)
  · have h : ¬ (k : Int) < 13 := of_decide_eq_false h
    have hi : ¬ kindNames.idxOf s < 13 := fun h3 => by
      have h3 : kindNames.idxOf s < kindNames.length := h3
      exact hno _ h3 (by have : kindNames.length = 13 := rfl; omega) (List.getElem_idxOf h3)
    refine And.intro ?_ rfl
    unfold kindL; rw [if_neg hi]; rfl
end Go.Proofs.YtkekidalckflhaaDoor
