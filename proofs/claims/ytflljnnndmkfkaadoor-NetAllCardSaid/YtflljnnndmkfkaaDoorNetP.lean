/- Plain: the messages that may be delivered next. -/
import Derived.Test.YtflljnnndmkfkaaDoorMsgM
namespace Go.Sei
open Go.Vc

/-- May message i be delivered next? -/
def dlv (l : List Msg) (mode : UInt8) (i : Nat) : Bool :=
  decide (mode = 1) || (match l[i]? with
    | some m => decide (((l.take i).map (queue · mode)).count (queue m mode) = 0)
    | none => false)
def upto (l : List Msg) (mode : UInt8) (k : Nat) : List Nat := (List.range k).filter (dlv l mode)
def nextL (l : List Msg) (mode : UInt8) : List Nat := if knownB mode then upto l mode l.length else []
theorem upto_succ (l : List Msg) (mode : UInt8) (k : Nat) : upto l mode (k + 1) = upto l mode k ++ (if dlv l mode k then [k] else []) := by
  unfold upto; rw [List.range_succ, List.filter_append]; congr 1; simp [List.filter_cons]
theorem upto_prefix (l : List Msg) (mode : UInt8) {k n : Nat} (h : k ≤ n) : upto l mode k <+: upto l mode n := by
  induction n with
  | zero => have : k = 0 := by omega
            subst this; exact List.prefix_refl _
  | succ n ih =>
    rcases Nat.lt_or_ge k (n + 1) with h1 | h1
    · rw [upto_succ]; exact (ih (by omega)).trans (List.prefix_append _ _)
    · have : k = n + 1 := by omega
      subst this; exact List.prefix_refl _
/-- How often each queue has come up. -/
def cnt (l : List Msg) (mode : UInt8) (k : Nat) (q : UInt8 × UInt8 × UInt8) : Nat := ((l.take k).map (queue · mode)).count q
theorem cnt_succ (l : List Msg) (mode : UInt8) {k : Nat} (hk : k < l.length) (q : UInt8 × UInt8 × UInt8) : cnt l mode (k + 1) q = cnt l mode k q + if q = queue l[k] mode then 1 else 0 := by
  unfold cnt
  rw [List.take_succ_eq_append_getElem hk, List.map_append, List.count_append]
  simp only [List.map_cons, List.map_nil, List.count_cons, List.count_nil, Nat.zero_add, beq_iff_eq]
  congr 1
  by_cases h : q = queue l[k] mode
  · simp [h]
  · have : ¬ queue l[k] mode = q := fun e => h e.symm
    simp [h, this]
/-- The map that the iterator keeps. -/
def cntF (l : List Msg) (mode : UInt8) (k : Nat) (q : UInt8 × UInt8 × UInt8) : Option Value := if cnt l mode k q = 0 then none else some (.int .i64 (cnt l mode k q))
theorem cntF_getD (l : List Msg) (mode : UInt8) (k : Nat) (q : UInt8 × UInt8 × UInt8) : (cntF l mode k q).getD (.int .i64 0) = .int .i64 (cnt l mode k q) := by
  unfold cntF; split
  · rename_i h; simp [h]
  · rfl
theorem cnt_le (l : List Msg) (mode : UInt8) (k : Nat) (q : UInt8 × UInt8 × UInt8) : cnt l mode k q ≤ l.length := by
  unfold cnt
  refine Nat.le_trans List.count_le_length ?_
  simp; omega
theorem dlv_eq (l : List Msg) (mode : UInt8) {k : Nat} (hk : k < l.length) : dlv l mode k = (decide (mode = 1) || decide (cnt l mode k (queue l[k] mode) = 0)) := by
  unfold dlv cnt; rw [List.getElem?_eq_getElem hk]
theorem cntF_step (l : List Msg) (mode : UInt8) {k : Nat} (hk : k < l.length) : (fun q' => if q' = queue l[k] mode then some (Value.int .i64 (cnt l mode k (queue l[k] mode) + 1 : Int)) else if q' = queue l[k] mode then some ((cntF l mode k (queue l[k] mode)).getD (.int .i64 0)) else cntF l mode k q') = cntF l mode (k + 1) := by
  funext q
  have h := cnt_succ l mode hk q
  by_cases e : q = queue l[k] mode
  · subst e
    rw [if_pos rfl] at h
    simp [cntF, h]
  · rw [if_neg e, Nat.add_zero] at h
    simp [cntF, e, h]
end Go.Sei
