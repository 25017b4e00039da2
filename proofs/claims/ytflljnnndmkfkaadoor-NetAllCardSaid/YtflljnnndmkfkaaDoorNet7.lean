/- The law NetNext: what it computes. -/
import Derived.Test.YtflljnnndmkfkaaDoorNet6
namespace Go.Proofs.YtflljnnndmkfkaaDoor
open Go.Vc Go.RowKit Go.Sei

theorem eq_bool (d : Nat) (a b : Bool) (w : World) : (Op.equalIn (d + 1) 4 (.bool a) (.bool b)).run Tryd.prog w = .ok (decide (a = b)) w := by
  simp only [Op.equalIn, Sem.run_bind, run_underlying Tryd.underlying4, Result.andThen_ok, Sem.run_pure]
  cases a <;> cases b <;> rfl
theorem neq_bool (x y : Operand) (a b : Bool) (w : World) : (do eqGuard .neq 4 x y (.bool a) (.bool b); binOp .neq 4 (.bool a) (.bool b)).run Tryd.prog w = .ok (.bool (!decide (a = b))) w := by
  have h : (Op.equal 4 (.bool a) (.bool b)).run Tryd.prog w = .ok (decide (a = b)) w := eq_bool 9999 a b w
  have h1 : (eqGuard .neq 4 x y (.bool a) (.bool b)).run Tryd.prog w = .ok () w := rfl
  rw [Sem.run_bind, h1]
  simp only [Result.andThen_ok, binOp, Sem.run_bind, h, Sem.run_pure]

theorem netNext_c (p : Option Addr) (cap : Nat) (l : List Msg) (w : World) (hl : SlR Msg.E w p l) (hg : Glob w) :
    Calls Tryd.prog 3 #[.slice p l.length cap] w fun e w' => e = .returned (.bool true) ∧ Below w.heap.size w w' := by
  refine calls_of_E (S := sg 120) (sgOk _) (args := [.slice p l.length cap]) Tryd.func3 rfl rfl (Nat.le_of_ble_eq_true rfl) rfl ?_
  refine Calls.mono (awake_c w hg) ?_
  rintro e W1 ⟨rfl, hb1⟩
  refine And.intro (fun h => by cases h) (fun _ => ?_)
  refine And.intro (fun h => ?_) (fun h => ?_)
  · exact And.intro rfl hb1
  have hn : l.length ≤ 60 := by have := of_decide_eq_false h; omega
  refine Calls.mono (Next_c p cap l 1 W1 (hl.below hb1) (hg.below hb1) (by omega)) ?_
  rintro e W2 ⟨pA, cA, rfl, hA, hb2⟩
  have hw2 := hb1.trans (hb2.mono hb1.size)
  refine Calls.mono (Next_c p cap l 2 W2 (hl.below hw2) (hg.below hw2) (by omega)) ?_
  rintro e W3 ⟨pF, cF, rfl, hF, hb3⟩
  have hw3 := hw2.trans (hb3.mono hw2.size)
  refine Calls.mono (Next_c p cap l 3 W3 (hl.below hw3) (hg.below hw3) (by omega)) ?_
  rintro e W4 ⟨pC, cC, rfl, hC, hb4⟩
  have hw4 := hw3.trans (hb4.mono hw3.size)
  have hA4 : SlR intE W4 pA (nats (List.range l.length)) := by
    rw [← next_all]; exact (hA.below hb3).below hb4
  have hF4 : SlR intE W4 pF (nats (upto l 2 l.length)) := by
    rw [← next_fifo]; exact hF.below hb4
  have hC4 : SlR intE W4 pC (nats (upto l 3 l.length)) := by
    rw [← next_class]; exact hC
  rw [next_all, next_fifo, next_class]
  have hl4 := hl.below hw4
  have hnA : (nats (List.range l.length)).length = l.length := by simp [nats]
  refine And.intro (fun h => (neq_t h (by rw [hnA])).elim) (fun _ => ?_)
  have hup : ∀ mode, decide ((0 : Int) < ((nats (upto l mode l.length)).length : Nat)) = decide ((0 : Int) < (l.length : Nat)) := fun mode => by
    rw [decide_eq_decide, nats_len]
    by_cases h0 : 0 < l.length
    · obtain ⟨t, ht⟩ := upto_head l mode h0
      rw [ht]; simp; omega
    · have : l = [] := List.eq_nil_of_length_eq_zero (by omega)
      subst this; simp [upto]
  refine ⟨_, fun w => neq_bool _ _ _ _ w, ?_⟩
  refine And.intro (fun h => ?_) (fun _ => ?_)
  · rw [hup 2] at h; simp at h
  refine ⟨_, fun w => neq_bool _ _ _ _ w, ?_⟩
  refine And.intro (fun h => ?_) (fun _ => ?_)
  · rw [hup 3] at h; simp at h
  have head : ∀ mode (h0 : 0 < (nats (upto l mode l.length)).length), (nats (upto l mode l.length))[0] = 0 := fun mode h0 => by
    have h1 : 0 < l.length := by
      have := hup mode; rw [decide_eq_decide] at this
      have := this.1 (by omega); omega
    obtain ⟨t, ht⟩ := upto_head l mode h1
    simp [nats, ht]
  refine And.intro (fun h => ?_) (fun h => ?_)
  have h := of_decide_eq_true h
  have hF0 : 0 < (nats (upto l 2 l.length)).length := by
    have := hup 2; rw [decide_eq_decide] at this
    have := this.2 h; omega
  have hC0 : 0 < (nats (upto l 3 l.length)).length := by
    have := hup 3; rw [decide_eq_decide] at this
    have := this.2 h; omega
  obtain ⟨bF, oF, hpF, hbF, hcF⟩ := int_at hF4 hF0
  obtain ⟨bC, oC, hpC, hbC, hcC⟩ := int_at hC4 hC0
  subst hpF
  subst hpC
  refine ⟨0, rfl, hF0, ?_⟩
  refine ⟨_, hcF, ?_⟩
  refine And.intro (fun h => (neq_t h (head 2 hF0)).elim) (fun _ => ?_)
  refine ⟨0, rfl, hC0, ?_⟩
  refine ⟨_, hcC, ?_⟩
  refine And.intro (fun h => (neq_t h (head 3 hC0)).elim) (fun _ => ?_)
  rotate_left
  refine And.intro (fun h => by cases h) (fun _ => ?_)
  rotate_left
  all_goals
    refine ⟨Nat, fun i => ⟨[(0, .slice p l.length cap), (2, .bool false), (3, .slice pA (nats (List.range l.length)).length cA), (4, .slice _ (nats (upto l 2 l.length)).length cF), (5, .slice _ (nats (upto l 3 l.length)).length cC), (6, .int .i64 (i : Nat))], []⟩,
      fun i X => i ≤ l.length ∧ Below W4.heap.size W4 X, fun i => l.length - i, 0, ⟨.cons rfl (.cons rfl (.cons rfl (.cons rfl (.cons rfl (.cons rfl .nil))))), rfl⟩, ⟨Nat.zero_le _, Below.refl _ _⟩, ?_⟩
    rintro i X ⟨hi, hbX⟩
    refine And.intro (fun h => ?_) (fun h => ?_)
    · have h := of_decide_eq_true h
      rw [hnA] at h
      have hil : i < l.length := by omega
      have hiA : i < (nats (List.range l.length)).length := by rw [hnA]; exact hil
      have hAi : (nats (List.range l.length))[i] = (i : Int) := by simp [nats]
      have hAX := hA4.below hbX
      have hFX := hF4.below hbX
      have hCX := hC4.below hbX
      obtain ⟨bA, oA, hpA, hbA, hcA⟩ := int_at hAX hiA
      subst hpA
      have hFl : (nats (upto l 2 l.length)).length ≤ 1000000000 := by
        rw [nats_len]; unfold upto; refine Nat.le_trans (List.length_filter_le _ _) ?_; simp; omega
      have hCl : (nats (upto l 3 l.length)).length ≤ 1000000000 := by
        rw [nats_len]; unfold upto; refine Nat.le_trans (List.length_filter_le _ _) ?_; simp; omega
      have hFm : decide ((i : Int) ∈ nats (upto l 2 l.length)) = firstB l l[i] i := by
        rw [Bool.eq_iff_iff, decide_eq_true_iff, mem_nats, mem_upto, dlv_fifo l hil]
        exact ⟨fun h => h.2, fun h => ⟨hil, h⟩⟩
      refine ⟨i, rfl, hiA, ?_⟩
      refine ⟨_, hcA, ?_⟩
      refine And.intro (fun h => (neq_t h hAi).elim) (fun _ => ?_)
      refine Calls.mono (has_c _ cF _ (i : Nat) X hFX hFl) ?_
      rintro e X' ⟨rfl, rfl⟩
      refine And.intro (fun hh => ?_) (fun hh => ?_)
      have hhC : (i : Int) ∈ nats (upto l 3 l.length) := by
        have := of_decide_eq_true hh
        rw [mem_nats, mem_upto] at this ⊢
        exact ⟨this.1, fifo_class l hil this.2⟩
      refine Calls.mono (has_c _ cC _ (i : Nat) X hCX hCl) ?_
      rintro e X' ⟨rfl, rfl⟩
      refine And.intro (fun h => by simp [hhC] at h) (fun _ => ?_)
      rotate_left
      refine And.intro (fun h => by cases h) (fun _ => ?_)
      rotate_left
      all_goals
        refine ⟨Nat, fun k => ⟨[(0, .slice p l.length cap), (2, .bool false), (3, .slice _ (nats (List.range l.length)).length cA), (4, .slice _ (nats (upto l 2 l.length)).length cF), (5, .slice _ (nats (upto l 3 l.length)).length cC), (6, .int .i64 (i : Nat)),
            (7, .bool (firstB l l[i] k)), (8, .int .i64 (k : Nat))], []⟩,
          fun k Y => k ≤ i ∧ Below W4.heap.size W4 Y, fun k => i - k, 0, ⟨.cons rfl (.cons rfl (.cons rfl (.cons rfl (.cons rfl (.cons rfl (.cons rfl (.cons rfl .nil))))))), rfl⟩, ⟨Nat.zero_le _, hbX⟩, ?_⟩
        rintro k Y ⟨hk, hbY⟩
        refine And.intro (fun h => ?_) (fun h => ?_)
        · have h := of_decide_eq_true h
          have hki : k < i := by omega
          have hkl : k < l.length := by omega
          have hfs := firstB_succ l l[i] hkl
          have hYd : Below W4.heap.size W4 Y.drew := hbY.drew
          refine DrawE.ord [] [0, 1, 2, 3, 4, 5, 6, 7, 8, 9, 10, 11, 12, 13, 14, 15, 16, 17, 18, 19, 20, 21, 22, 23, 24, 25, 26, 27] (by kernel_rfl) ?_
          refine And.intro (fun hf => ?_) (fun hf => ?_)
          · obtain ⟨b, o, hp, hb, hc⟩ := (hl4.below hYd).at hkl
            subst hp
            refine ⟨k, rfl, hkl, ?_⟩
            refine ⟨_, cells_at (hc k hkl) (i := 1) rfl, ?_⟩
            refine ⟨i, rfl, hil, ?_⟩
            refine ⟨_, cells_at (hc i hil) (i := 1) rfl, ?_⟩
            refine And.intro (fun h1 => ?_) (fun h1 => ?_)
            · have h1 := neq_t h1
              have h1 : ¬ l[k].from_ = l[i].from_ := fun e => h1 (by rw [e])
              have hfs : firstB l l[i] (k + 1) = true := by rw [hfs, hf]; simp [Go.Sei.differ, h1]
              refine ⟨_, wrap_i64 (by omega), ?_⟩
              exact ⟨k + 1, ⟨.cons rfl (.cons rfl (.cons rfl (.cons rfl (.cons rfl (.cons rfl (.cons (by rw [hfs]; rfl) (.cons rfl .nil))))))), rfl⟩, ⟨hki, hYd⟩, by dsimp only; omega⟩
            · have h1 : l[k].from_ = l[i].from_ := u8_eq.1 (neq_f h1)
              refine ⟨k, rfl, hkl, ?_⟩
              refine ⟨_, cells_at (hc k hkl) (i := 2) rfl, ?_⟩
              refine ⟨i, rfl, hil, ?_⟩
              refine ⟨_, cells_at (hc i hil) (i := 2) rfl, ?_⟩
              have hfs : firstB l l[i] (k + 1) = !decide ((l[k].to.toNat : Int) = (l[i].to.toNat : Int)) := by
                rw [hfs, hf]
                by_cases h2 : l[k].to = l[i].to
                · simp [Go.Sei.differ, h1, h2]
                · have : ¬ (l[k].to.toNat : Int) = (l[i].to.toNat : Int) := fun e => h2 (u8_eq.1 e)
                  rw [decide_eq_false this]
                  simp [Go.Sei.differ, h2]
              refine ⟨_, wrap_i64 (by omega), ?_⟩
              exact ⟨k + 1, ⟨.cons rfl (.cons rfl (.cons rfl (.cons rfl (.cons rfl (.cons rfl (.cons (by rw [hfs]; rfl) (.cons rfl .nil))))))), rfl⟩, ⟨hki, hYd⟩, by dsimp only; omega⟩
          · have hfs : firstB l l[i] (k + 1) = false := by rw [hfs, hf]; rfl
            refine ⟨_, wrap_i64 (by omega), ?_⟩
            exact ⟨k + 1, ⟨.cons rfl (.cons rfl (.cons rfl (.cons rfl (.cons rfl (.cons rfl (.cons (by rw [hfs]; rfl) (.cons rfl .nil))))))), rfl⟩, ⟨hki, hYd⟩, by dsimp only; omega⟩
        · have h := of_decide_eq_false h
          have hki : k = i := by omega
          subst hki
          refine Calls.mono (has_c _ cF _ (k : Nat) Y (hF4.below hbY) hFl) ?_
          rintro e Y' ⟨rfl, rfl⟩
          refine ⟨_, fun w => neq_bool _ _ _ _ w, ?_⟩
          refine And.intro (fun h => by rw [hFm] at h; simp at h) (fun _ => ?_)
          refine ⟨_, wrap_i64 (by omega), ?_⟩
          exact ⟨k + 1, ⟨.cons rfl (.cons rfl (.cons rfl (.cons rfl (.cons rfl (.cons rfl .nil))))), rfl⟩, ⟨hil, hbY⟩, by dsimp only; omega⟩
    · exact And.intro rfl (hw4.trans (hbX.mono hw4.size))
end Go.Proofs.YtflljnnndmkfkaaDoor
