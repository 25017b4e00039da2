/- Law17: contracts of the reference: Names, number, value, Bytes, Class, Less, Read. -/
import Derived.Test.YtkekidalckflhaaDoorRp1
import Derived.Test.YtkekidalckflhaaDoorMs0
import Derived.Test.YtkekidalckflhaaDoorVcS
namespace Go.Proofs.YtkekidalckflhaaDoor
open Go.Vc Go.RowKit Go.Sei

theorem NamesR_c (w : World) : Calls Tryd.prog 31 #[] w fun e w' => e = .returned (.slice (some ⟨w.heap.size, 0, none⟩) 12 12) ∧ w' = w.alloc (.cells (namesR.map strV).toArray 9) := by
  refine calls_of_E (S := sg 2) (sgOk _) (args := []) Tryd.func31 rfl rfl (Nat.le_of_ble_eq_true rfl) rfl ?_
  refine ⟨⟨by decide, by decide, rfl⟩, namesR.map strV, by kernel_rfl, ?_⟩
  exact And.intro rfl rfl
theorem names_row (w : World) : SlR strE (w.alloc (.cells (namesR.map strV).toArray 9)) (some ⟨w.heap.size, 0, none⟩) namesR :=
  SlR.of_cells (by simp) (by rw [strE_flat]; exact cells_new)
theorem names_at {w V : World} (hb : Below (w.alloc (.cells (namesR.map strV).toArray 9)).heap.size (w.alloc (.cells (namesR.map strV).toArray 9)) V) {k : Nat} (hk : k < 12) :
    V.cell? ⟨w.heap.size, 0 + k * 1, none⟩ = some (strV (namesR.getD k [])) := by
  have h : (namesR.map strV)[k]? = some (strV (namesR.getD k [])) := by
    have hl : k < namesR.length := hk
    rw [List.getElem?_map, List.getElem?_eq_getElem hl, List.getD_eq_getElem?_getD, List.getElem?_eq_getElem hl]; rfl
  have hc : Cells (w.alloc (.cells (namesR.map strV).toArray 9)) ⟨w.heap.size, 0, none⟩ (namesR.map strV) := cells_new
  have := cells_at (cells_below hb hc) h
  rw [Nat.mul_one]; exact this

/-! ### number -/
def outD (n : Nat) : Nat → List UInt8
  | 0 => [UInt8.ofNat (48 + n % 10)]
  | j + 1 => UInt8.ofNat (48 + n / 10 ^ (j + 1) % 10) :: outD n j
theorem outD_end : ∀ n j : Nat, n < 256 → j < 3 → n / 10 ^ j ≤ 9 → (j = 0 ∨ 9 < n / 10 ^ (j - 1)) → outD n j = dig3 n := by
  have h : ((List.range 256).all fun n => (List.range 3).all fun j => !(Nat.ble (n / 10 ^ j) 9 && (Nat.beq j 0 || Nat.blt 9 (n / 10 ^ (j - 1)))) || decide (outD n j = dig3 n)) = true := by kernel_rfl
  intro n j hn hj h1 h2
  have h3 := List.all_eq_true.1 (List.all_eq_true.1 h n (List.mem_range.2 hn)) j (List.mem_range.2 hj)
  have e1 : Nat.ble (n / 10 ^ j) 9 = true := Nat.ble_eq_true_of_le h1
  have e2 : (Nat.beq j 0 || Nat.blt 9 (n / 10 ^ (j - 1))) = true := by
    rcases h2 with rfl | h2
    · rfl
    · rw [show Nat.blt 9 (n / 10 ^ (j - 1)) = true from Nat.ble_eq_true_of_le h2, Bool.or_true]
  rw [e1, e2] at h3
  exact of_decide_eq_true h3
theorem outD_len (n : Nat) : ∀ j, (outD n j).length = j + 1
  | 0 => rfl
  | j + 1 => by show (outD n j).length + 1 = _; rw [outD_len n j]
theorem d_u8 (k : Nat) : IntKind.u8.wrap (48 + ((k % 10 : Nat) : Int)) = ((UInt8.ofNat (48 + k % 10)).toNat : Int) := by
  have h : k % 10 < 10 := Nat.mod_lt _ (by decide)
  obtain ⟨q, hq⟩ : ∃ q, q = k % 10 := ⟨_, rfl⟩
  rw [← hq] at h ⊢
  rw [UInt8.toNat_ofNat', Nat.mod_eq_of_lt (by omega), wrap_u8 (by omega)]
  omega
theorem tmod_nat10 (a : Nat) : (a : Int).tmod 10 = ((a % 10 : Nat) : Int) := rfl
theorem tdiv_nat10 (a : Nat) : (a : Int).tdiv 10 = ((a / 10 : Nat) : Int) := rfl
theorem numberR_c (n : UInt8) (w : World) : Calls Tryd.prog 41 #[u8 n] w fun e w' => e = .returned (strV (dig n)) ∧ Below w.heap.size w w' := by
  refine calls_of_M (S := sg 21) (sgOk _) (args := [u8 n]) (.s .p (.c .p .p)) Tryd.func41 rfl rfl (Nat.le_of_ble_eq_true rfl) rfl ?_
  have hn := n.toNat_lt
  refine ⟨Unit, fun _ => ⟨[(0, .int .u8 ((n.toNat / 10 ^ 0 : Nat) : Int)), (3, strV (outD n.toNat 0))], []⟩, fun _ V => Below w.heap.size w V, ?_, ?_⟩
  · refine ⟨by decide, ((n.toNat % 10 : Nat) : Int), tmod_nat10 n.toNat, ?_⟩
    refine ⟨((UInt8.ofNat (48 + n.toNat % 10)).toNat : Int), d_u8 n.toNat, ?_⟩
    refine ⟨⟨by decide, by decide, rfl⟩, [u8 (UInt8.ofNat (48 + n.toNat % 10))], rfl, ?_⟩
    have f := hnew w (.cells [u8 (UInt8.ofNat (48 + n.toNat % 10))].toArray 5)
    refine ⟨_, fun w2 hb => conv_str (l := outD n.toNat 0) f rfl w2 hb, ?_⟩
    refine ⟨(), ⟨.cons ?_ (.cons rfl .nil), rfl⟩, (Below.refl _ _).alloc (Nat.le_refl _) _⟩
    rw [Nat.pow_zero, Nat.div_one]; rfl
  rintro _ V hb
  refine ⟨Nat, fun j => ⟨[(0, .int .u8 ((n.toNat / 10 ^ j : Nat) : Int)), (3, strV (outD n.toNat j))], []⟩, fun j X => j < 3 ∧ (j = 0 ∨ 9 < n.toNat / 10 ^ (j - 1)) ∧ Below w.heap.size w X, fun j => 3 - j, 0, ⟨.cons rfl (.cons rfl .nil), rfl⟩, ⟨by decide, .inl rfl, hb⟩, ?_⟩
  rintro j X ⟨hj, hprev, hbX⟩
  have hq9 : n.toNat / 10 ^ j ≤ n.toNat := Nat.div_le_self _ _
  obtain ⟨q, hq⟩ : ∃ q, q = n.toNat / 10 ^ j := ⟨_, rfl⟩
  refine And.intro (fun h => ?_) (fun h => ?_)
  · have h : (9 : Int) < ((n.toNat / 10 ^ j : Nat) : Int) := of_decide_eq_true h
    rw [← hq] at h hq9
    have hj2 : j < 2 := by
      refine Nat.lt_of_not_le fun h2 => ?_
      have : j = 2 := by omega
      subst this
      have : q = n.toNat / 100 := hq
      omega
    have hd : q / 10 = n.toNat / 10 ^ (j + 1) := by rw [hq, Nat.div_div_eq_div_mul, Nat.pow_succ]
    refine ⟨by decide, ((q / 10 : Nat) : Int), by rw [← hq]; exact (congrArg _ (tdiv_nat10 q)).trans (wrap_u8 (by omega)), ?_⟩
    refine ⟨by decide, ((q / 10 % 10 : Nat) : Int), tmod_nat10 (q / 10), ?_⟩
    refine ⟨((UInt8.ofNat (48 + q / 10 % 10)).toNat : Int), d_u8 (q / 10), ?_⟩
    refine ⟨⟨by decide, by decide, rfl⟩, [u8 (UInt8.ofNat (48 + q / 10 % 10))], rfl, ?_⟩
    have f := hnew X (.cells [u8 (UInt8.ofNat (48 + q / 10 % 10))].toArray 5)
    refine ⟨_, fun w2 hb => conv_str (l := [UInt8.ofNat (48 + q / 10 % 10)]) f rfl w2 hb, ?_⟩
    refine ⟨_, fun w => add_str _ _ [UInt8.ofNat (48 + q / 10 % 10)] (outD n.toNat j) (by rw [outD_len]; simp; omega) w, ?_⟩
    refine ⟨j + 1, ⟨.cons ?_ (.cons ?_ .nil), rfl⟩, ⟨by omega, .inr ?_, hbX.alloc hbX.size _⟩, by dsimp only; omega⟩
    · rw [← hd]; rfl
    · show _ = some (strV (UInt8.ofNat (48 + n.toNat / 10 ^ (j + 1) % 10) :: outD n.toNat j))
      rw [← hd]; rfl
    · rw [Nat.add_sub_cancel, ← hq]; omega
  · have h : ¬ (9 : Int) < ((n.toNat / 10 ^ j : Nat) : Int) := of_decide_eq_false h
    refine And.intro ?_ hbX
    rw [dig_eq, ← outD_end n.toNat j hn hj (by omega) hprev]; rfl
end Go.Proofs.YtkekidalckflhaaDoor
