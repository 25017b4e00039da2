/- Law17: awake. -/
import Derived.Test.YtkekidalckflhaaDoorMg7
import Derived.KernelRfl
namespace Go.Proofs.YtkekidalckflhaaDoor
open Go.Vc Go.RowKit Go.Sei

def awM : Msg := ⟨10, 2, 0, 1, 0, 1, false, 7, 0, 0, 0⟩
def awT : List UInt8 := [86, 97, 108, 117, 101, 32, 50, 62, 48, 32, 108, 105, 110, 101, 32, 49, 32, 97, 99, 107, 115, 32, 49, 32, 100, 97, 116, 97, 32, 55, 32, 48, 32, 48, 32, 48]
def awZ : List UInt8 := [107, 105, 110, 100, 32, 48, 32, 48, 62, 48, 32, 108, 105, 110, 101, 32, 48]
theorem dig_one (n : UInt8) (h : n.toNat < 10) : dig n = [UInt8.ofNat (48 + n.toNat)] := by
  unfold dig Lib.itoa
  rw [if_neg (by omega), Int.toNat_natCast, Lib.decDigits_one h]
theorem aw_text : textOf awM = awT := by
  have d0 : dig 0 = [48] := dig_one 0 (by decide)
  have d1 : dig 1 = [49] := dig_one 1 (by decide)
  have d2 : dig 2 = [50] := dig_one 2 (by decide)
  have d7 : dig 7 = [55] := dig_one 7 (by decide)
  have hw : w5 awM = [[86, 97, 108, 117, 101], [50, 62, 48], [108, 105, 110, 101], [49], [97, 99, 107, 115], [49], [100, 97, 116, 97], [55], [48], [48], [48]] := by
    have e0 : w0 awM = [[86, 97, 108, 117, 101]] := by unfold w0; rw [if_neg (by decide)]; rfl
    have e1 : w1 awM = [[86, 97, 108, 117, 101], [50, 62, 48], [108, 105, 110, 101], [49]] := by
      unfold w1; rw [e0]
      show _ ++ [dig 2 ++ [62] ++ dig 0, [108, 105, 110, 101], dig 1] = _
      rw [d0, d1, d2]; rfl
    have e2 : w2 awM = w1 awM := by unfold w2; rw [if_pos (by decide), List.append_nil]
    have e3 : w3 awM = w2 awM ++ [[97, 99, 107, 115], [49]] := by
      unfold w3; rw [if_neg (by decide)]
      show _ ++ [[97, 99, 107, 115], dig 1] = _
      rw [d1]
    have e4 : w4 awM = w3 awM := by unfold w4; rw [if_neg (by decide), List.append_nil]
    unfold w5; rw [if_neg (by decide)]
    show _ ++ [[100, 97, 116, 97], dig 7, dig 0, dig 0, dig 0] = _
    rw [e4, e3, e2, e1, d0, d7]; rfl
  unfold textOf; rw [hw]; rfl
theorem aw_zero : textOf zeroM = awZ := by
  have d0 : dig 0 = [48] := dig_one 0 (by decide)
  have hw : w5 zeroM = [[107, 105, 110, 100], [48], [48, 62, 48], [108, 105, 110, 101], [48]] := by
    have e0 : w0 zeroM = [[107, 105, 110, 100], [48]] := by
      unfold w0; rw [if_pos (by decide)]
      show [_, dig 0] = _
      rw [d0]
    have e1 : w1 zeroM = [[107, 105, 110, 100], [48], [48, 62, 48], [108, 105, 110, 101], [48]] := by
      unfold w1; rw [e0]
      show _ ++ [dig 0 ++ [62] ++ dig 0, [108, 105, 110, 101], dig 0] = _
      rw [d0]; rfl
    unfold w5 w4 w3 w2; rw [if_pos (by decide), if_pos (by decide), if_neg (by decide), if_pos (by decide), e1]; rfl
  unfold textOf; rw [hw]; rfl
theorem aw_words : wordsL awT = [[86, 97, 108, 117, 101], [50, 62, 48], [108, 105, 110, 101], [49], [97, 99, 107, 115], [49], [100, 97, 116, 97], [55], [48], [48], [48]] := by kernel_rfl
theorem aw_parse : parseL awT = (awM, 0) := by
  have h : scanL (wordsL awT) = (awM, true) := by rw [aw_words]; kernel_rfl
  unfold parseL; rw [h, if_pos ⟨rfl, aw_text⟩]

theorem parse_aw (w : World) (hg : GlobM w) : Calls Tryd.prog 10 #[strV awT] w fun e w' => e = .returned (.tuple #[awM.val, .int .i64 0]) ∧ Below w.heap.size w w' := by
  have h := Parse_c awT (by decide) w hg
  rw [aw_parse] at h
  exact h
theorem text_aw (w : World) (hg : GlobM w) : Calls Tryd.prog 11 #[awM.val] w fun e w' => e = .returned (strV awT) ∧ Below w.heap.size w w' := by
  have h := Text_c awM w hg
  rw [aw_text] at h
  exact h
theorem text_zero (w : World) (hg : GlobM w) : Calls Tryd.prog 11 #[zeroM.val] w fun e w' => e = .returned (strV awZ) ∧ Below w.heap.size w w' := by
  have h := Text_c zeroM w hg
  rw [aw_zero] at h
  exact h
end Go.Proofs.YtkekidalckflhaaDoor
