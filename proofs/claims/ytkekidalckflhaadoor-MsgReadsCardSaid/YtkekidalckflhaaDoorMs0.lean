/- Law17: Read and Parse undone; a byte slice as a string. -/
import Derived.Test.YtkekidalckflhaaDoorMr1
import Derived.Test.YtkekidalckflhaaDoorMg9
import Derived.Test.YtkekidalckflhaaDoorVcJ
namespace Go.Proofs.YtkekidalckflhaaDoor
open Go.Vc Go.RowKit Go.Sei

theorem readL_ok {l : List UInt8} (h : (readL l).2 = true) : codeOf (readL l).1 = l := by
  unfold readL at h ⊢
  split
  · rename_i b0 b1 b2 b3 b4 b5 b6 b7 b8 b9 b10
    split
    · rename_i h6
      have : (if b6 = 1 then (1 : UInt8) else 0) = b6 := by
        have h3 : b6.toNat = 0 ∨ b6.toNat = 1 := by omega
        rcases h3 with h3 | h3
        · have : b6 = 0 := UInt8.toNat_inj.1 h3
          subst this; rfl
        · have : b6 = 1 := UInt8.toNat_inj.1 h3
          subst this; rfl
      simp only [codeOf, decide_eq_true_eq, this]
    · simp_all
  · simp_all
theorem readL_no {l : List UInt8} (h : (readL l).2 = false) : (readL l).1 = zeroM := by
  unfold readL at h ⊢
  split
  · split
    · simp_all
    · rfl
  · rfl
theorem parseL_ok {s : List UInt8} (h : (parseL s).2 = 0) : textOf (parseL s).1 = s := by
  unfold parseL at h ⊢
  split
  · rename_i hh; exact hh.2
  · rename_i hh; rw [if_neg hh] at h; simp at h
theorem parseL_no {s : List UInt8} (h : (parseL s).2 ≠ 0) : (parseL s).1 = zeroM ∧ (parseL s).2 = 170 := by
  unfold parseL at h ⊢
  split
  · rename_i hh; rw [if_pos hh] at h; simp at h
  · exact ⟨rfl, rfl⟩
theorem conv_arg {w : World} {p : Option Addr} {cap : Nat} {l : List UInt8} (h : SlR byteE w p l) (w2 : World) (hb : Below w.heap.size w w2) :
    (convert 22 9 (.slice p l.length cap)).run Tryd.prog w2 = .ok (strV l) w2 := by
  have h2 := h.below hb
  cases p with
  | none =>
    have hl : l = [] := h2.none
    subst hl
    exact run_convert_bytes_nil (P := Tryd.prog) (w := w2) 22 5 Tryd.underlying22 Tryd.underlying5 0 cap 9 Tryd.underlying9
  | some a =>
    cases l with
    | nil =>
      obtain ⟨b, o, f⟩ := a
      have := run_convert_bytes_string w2 22 9 5 (some ⟨b, o, f⟩) 0 cap Tryd.underlying22 Tryd.underlying5 Tryd.underlying9
      rw [show ([] : List UInt8).length = 0 from rfl, this]
      rfl
    | cons x r =>
      obtain ⟨b, o, hp, hbk, hcl⟩ := h2.at (i := 0) (by simp)
      obtain rfl := Option.some.inj hp
      have := run_convert_bytes_arg (P := Tryd.prog) w2 22 5 Tryd.underlying22 Tryd.underlying5 b o (x :: r).length cap ((x :: r).map fun b => (b.toNat : Int)) (by simp) (fun i hi => by
        have h3 : w2.cell? ⟨b, o + i * 1, none⟩ = some (u8 ((x :: r)[i]'hi)) := cells_head (hcl i hi)
        rw [Nat.mul_one] at h3
        have h4 : ((x :: r).map fun b => (b.toNat : Int)).getD i 0 = (((x :: r)[i]'hi).toNat : Int) := by
          rw [List.getD_eq_getElem?_getD, List.getElem?_map, List.getElem?_eq_getElem hi]; rfl
        rw [h3, h4]; rfl) 9 Tryd.underlying9
      rw [this, strOfNums_u8]; rfl
end Go.Proofs.YtkekidalckflhaaDoor
