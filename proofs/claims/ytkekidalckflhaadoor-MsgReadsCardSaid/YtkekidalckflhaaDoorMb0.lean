/- Law17: comparisons; Read, Parse and Less at messages of one's own. -/
import Derived.Test.YtkekidalckflhaaDoorMb1
import Derived.Test.YtkekidalckflhaaDoorMo0
namespace Go.Proofs.YtkekidalckflhaaDoor
open Go.Vc Go.RowKit Go.Sei

theorem eq_bool (d : Nat) (a b : Bool) (w : World) : (Op.equalIn (d + 1) 4 (.bool a) (.bool b)).run Tryd.prog w = .ok (decide (a = b)) w := by
  simp only [Op.equalIn, Sem.run_bind, run_underlying Tryd.underlying4, Result.andThen_ok, Sem.run_pure]
  cases a <;> cases b <;> rfl
theorem eql_bool (x y : Operand) (a b : Bool) (w : World) : (do eqGuard .eql 4 x y (.bool a) (.bool b); binOp .eql 4 (.bool a) (.bool b)).run Tryd.prog w = .ok (.bool (decide (a = b))) w := by
  have h : (Op.equal 4 (.bool a) (.bool b)).run Tryd.prog w = .ok (decide (a = b)) w := eq_bool 9999 a b w
  have h1 : (eqGuard .eql 4 x y (.bool a) (.bool b)).run Tryd.prog w = .ok () w := rfl
  rw [Sem.run_bind, h1]
  simp only [Result.andThen_ok, binOp, Sem.run_bind, h, Sem.run_pure]
theorem bytesLess_cmp : ∀ (a b : List UInt8), Op.bytesLess a b = decide (cmpL a b < 0)
  | [], [] => rfl
  | _ :: _, [] => rfl
  | [], _ :: _ => rfl
  | x :: r, y :: s => by
    have ih := bytesLess_cmp r s
    unfold Op.bytesLess
    rw [ih]
    have h := @cmpL_lt_cons x y r s
    by_cases hxy : x < y
    · have : x.toNat < y.toNat := UInt8.lt_iff_toNat_lt.1 hxy
      rw [decide_eq_true (h.2 (.inl this))]; simp [hxy]
    · have hn : ¬ x.toNat < y.toNat := fun e => hxy (UInt8.lt_iff_toNat_lt.2 e)
      by_cases he : x = y
      · subst he
        by_cases hc : cmpL r s < 0
        · rw [decide_eq_true hc, decide_eq_true (h.2 (.inr ⟨rfl, hc⟩))]; simp
        · rw [decide_eq_false hc, decide_eq_false (fun e => (h.1 e).elim hn fun e => hc e.2)]; simp [hxy]
      · rw [decide_eq_false (fun e => (h.1 e).elim hn fun e => he e.1)]; simp [hxy, he]
theorem lss_str (x y : Operand) (a b : List UInt8) (w : World) : (do eqGuard .lss 9 x y (strV a) (strV b); binOp .lss 9 (strV a) (strV b)).run Tryd.prog w = .ok (.bool (decide (cmpL a b < 0))) w := by
  have h1 : (eqGuard .lss 9 x y (strV a) (strV b)).run Tryd.prog w = .ok () w := rfl
  rw [Sem.run_bind, h1, Result.andThen_ok]
  show (Op.stringOp .lss (bs a) (bs b)).run Tryd.prog w = _
  simp only [Op.stringOp, Sem.run_pure, ByteArray.toList_eq, bs_list, bytesLess_cmp]

theorem read_code (m : Msg) : readL (codeOf m) = (m, true) := by
  obtain ⟨_, _, _, _, _, _, al, _, _, _, _⟩ := m
  cases al <;> rfl
theorem read_own (m : Msg) (g : Nat) (t : TypeId) (w : World) (h : w.heap[g]? = some (.cells ((codeOf m).map u8).toArray t (0, 0))) :
    Calls Tryd.prog 13 #[.slice (some ⟨g, 0, none⟩) 11 11] w fun e w' => e = .returned (.tuple #[m.val, .bool true]) ∧ Below w.heap.size w w' := by
  have := Read_c (some ⟨g, 0, none⟩) 11 (codeOf m) w (bytes_row h) (Nat.le_refl _)
  rw [read_code] at this
  exact this
theorem text_short (m : Msg) : (textOf m).length ≤ 4294967280 := by
  have h := join_len (w5 m) (w_word m)
  have h2 := (w_len m).2.2.2.2.2
  have h3 : (textOf m).length = (Lib.join (w5 m) [32]).length := rfl
  omega
theorem parse_own (m : Msg) (w : World) (hg : GlobM w) : Calls Tryd.prog 10 #[strV (textOf m)] w fun e w' => e = .returned (.tuple #[m.val, .int .i64 0]) ∧ Below w.heap.size w w' := by
  have := Parse_c (textOf m) (text_short m) w hg
  rw [parse_text] at this
  exact this
theorem less_own (a b : Msg) (w : World) : Calls Tryd.prog 8 #[a.val, b.val] w fun e w' => e = .returned (.bool (les a b)) ∧ Below w.heap.size w w' := Less_c a b w
theorem les_self (m : Msg) : les m m = false := by unfold les; rw [cmpL_self]; rfl
theorem les_total {m o : Msg} (h : m ≠ o) : les m o = true ∨ les o m = true := by
  rcases cmpL_total (codeOf m) (codeOf o) with k | k | k
  · exact .inl (decide_eq_true k)
  · exact .inr (decide_eq_true k)
  · exact absurd (code_inj k) h
end Go.Proofs.YtkekidalckflhaaDoor
