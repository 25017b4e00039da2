/- The law NetSame: what it computes. -/
import Derived.Test.YtflljnnndmkfkaaDoorNs1
namespace Go.Proofs.YtflljnnndmkfkaaDoor
open Go.Vc Go.RowKit Go.Sei

theorem next_mem {l : List Msg} {mode : UInt8} {i : Nat} (h : i < (nextL l mode).length) : ∃ _ : (nextL l mode)[i] < l.length, dlv l mode (nextL l mode)[i] = true := by
  have hm := List.getElem_mem h
  unfold nextL at hm
  split at hm
  · have := (mem_upto l mode _ _).1 hm
    unfold nextL
    rename_i hk
    simp only [hk, if_true] at this ⊢
    exact ⟨this.1, this.2⟩
  · cases hm
theorem next_len (l : List Msg) (mode : UInt8) : (nextL l mode).length ≤ l.length := by
  unfold nextL; split
  · unfold upto; refine Nat.le_trans (List.length_filter_le _ _) ?_; simp
  · simp
theorem nats_get {l : List Nat} {i : Nat} (h : i < l.length) (h' : i < (nats l).length) : (nats l)[i] = ((l[i] : Nat) : Int) := by simp [nats]

theorem eql_msg (x y : Operand) (m n : Msg) (w : World) : (do eqGuard .eql 30 x y m.val n.val; binOp .eql 30 m.val n.val).run Tryd.prog w = .ok (.bool (decide (m = n))) w := by
  have h : (Op.equal 30 m.val n.val).run Tryd.prog w = .ok (decide (m = n)) w := eq_msg 9997 m n w
  have hg : Tryd.prog.eqGuardType Tryd.prog.depth 30 = false := by kernel_rfl
  have h1 : (eqGuard .eql 30 x y m.val n.val).run Tryd.prog w = .ok () w := by
    simp only [eqGuard, Msg.val, Bool.not_true, Bool.false_eq_true, if_false, Sem.run_bind, run_program, Result.andThen_ok, hg, Bool.not_false, if_true, Sem.run_pure]
  rw [Sem.run_bind, h1]
  rw [Msg.val, Msg.val] at h
  simp only [Result.andThen_ok, binOp, Msg.val, Sem.run_bind, h, Sem.run_pure]

/-- Does the k-th delivery from b answer the delivery of message x from a? -/
def Ans (mode : UInt8) (a b : List Msg) (x : Nat) (k : Nat) : Prop := ∃ (hx : x < a.length) (hk : k < (nextL b mode).length) (hy : (nextL b mode)[k] < b.length), a[x] = b[(nextL b mode)[k]] ∧ EqM mode (a.eraseIdx x) (b.eraseIdx (nextL b mode)[k])
theorem ans_some {mode : UInt8} {a b : List Msg} (hm : knownB mode = true) (h : EqM mode a b) {x : Nat} (hx : x < a.length) (hd : dlv a mode x = true) : ∃ k, k < (nextL b mode).length ∧ Ans mode a b x k := by
  obtain ⟨y, hy, hdy, e1, e2⟩ := eqM_next h hx hd
  have : y ∈ nextL b mode := by
    unfold nextL; rw [if_pos hm]; exact (mem_upto b mode _ _).2 ⟨hy, hdy⟩
  obtain ⟨k, hk, e⟩ := List.getElem_of_mem this
  subst e
  exact ⟨k, hk, hx, hk, hy, e1, e2⟩

theorem netSame_c (p1 : Option Addr) (cap1 : Nat) (a : List Msg) (p2 : Option Addr) (cap2 : Nat) (b : List Msg) (mode : UInt8) (w : World) (h1 : SlR Msg.E w p1 a) (k1 : p1 = none → cap1 = 0) (c1 : a.length ≤ cap1)
    (h2 : SlR Msg.E w p2 b) (k2 : p2 = none → cap2 = 0) (c2 : b.length ≤ cap2) (hg : Glob w) :
    Calls Tryd.prog 4 #[.slice p1 a.length cap1, .slice p2 b.length cap2, u8 mode] w fun e w' => e = .returned (.bool true) ∧ Below w.heap.size w w' := by
  refine calls_of_M (S := sg 131) (sgOk _) (args := [.slice p1 a.length cap1, .slice p2 b.length cap2, u8 mode])
    (.s .p (.s .p (.s .p (.s .p (.c .p (.c .p (.s .p (.s .p (.s (.s .p (.b (.l (.s .p (.s (.b (.c .p (.s .p (.c .p .p)))) .p))))) .p)))))))))
    Tryd.func4 rfl rfl (Nat.le_of_ble_eq_true rfl) rfl ?_
  refine Calls.mono (awake_c w hg) ?_
  rintro e W1 ⟨rfl, hb1⟩
  refine And.intro (fun h => by cases h) (fun _ => ?_)
  refine And.intro (fun h => ?_) (fun h => ?_)
  · refine And.intro (fun _ => ?_) (fun h => by cases h)
    exact And.intro rfl hb1
  have hn1 : a.length ≤ 60 := by have := of_decide_eq_false h; omega
  refine And.intro (fun h => ?_) (fun h => ?_)
  · exact And.intro rfl hb1
  have hn2 : b.length ≤ 60 := by have := of_decide_eq_false h; omega
  refine Calls.mono (Same_c p1 p2 cap1 cap2 a b mode W1 (h1.below hb1) (h2.below hb1) k1 k2 (hg.below hb1) (by omega) (by omega)) ?_
  rintro e W2 ⟨v, rfl, hv, hb2⟩
  have hw2 := hb1.trans (hb2.mono hb1.size)
  refine ⟨Unit, fun _ => ⟨[(0, .slice p1 a.length cap1), (1, .slice p2 b.length cap2), (2, u8 mode), (7, .bool v), (8, .bool (knownB mode))], []⟩, fun _ V => W2 = V, ?_, ?_⟩
  · refine And.intro (fun h => ?_) (fun h => ?_)
    · exact ⟨(), ⟨.cons rfl (.cons rfl (.cons rfl (.cons rfl (.cons (by dsimp only; unfold knownB; rw [h]; rfl) .nil)))), rfl⟩, rfl⟩
    · exact ⟨(), ⟨.cons rfl (.cons rfl (.cons rfl (.cons rfl (.cons (by dsimp only; unfold knownB; rw [h]; rfl) .nil)))), rfl⟩, rfl⟩
  rintro _ _ rfl
  refine ⟨Unit, fun _ => ⟨[(0, .slice p1 a.length cap1), (1, .slice p2 b.length cap2), (2, u8 mode), (7, .bool v)], []⟩, fun _ V => Below w.heap.size w V, ?_, ?_⟩
  · refine And.intro (fun hm => ?_) (fun hm => ?_)
    · refine Calls.mono (Sort_c p1 cap1 a mode W2 (h1.below hw2) k1 (hg.below hw2) (by omega)) ?_
      rintro e W3 ⟨r, q1, d1, rfl, s1, _, ho1, hb3⟩
      have hw3 := hw2.trans (hb3.mono hw2.size)
      refine Calls.mono (Sort_c p2 cap2 b mode W3 (h2.below hw3) k2 (hg.below hw3) (by omega)) ?_
      rintro e W4 ⟨s, q2, d2, rfl, s2, _, ho2, hb4⟩
      have hw4 := hw3.trans (hb4.mono hw3.size)
      have hr := (s1 hm).perm.length_eq
      refine Calls.mono (SameMsgs_c q1 q2 d1 d2 r s W4 (ho1.row.below hb4) ho2.row (by omega)) ?_
      rintro e W5 ⟨rfl, hb5⟩
      have hw5 := hw4.trans (hb5.mono hw4.size)
      have hvr : v = decide (r = s) := by
        rw [Bool.eq_iff_iff, hv, decide_eq_true_iff, isSort_eq (s1 hm) (s2 hm)]
        exact ⟨fun e => e.2, fun e => ⟨hm, e⟩⟩
      refine ⟨_, fun w => neq_bool _ _ _ _ w, ?_⟩
      refine And.intro (fun h => by rw [hvr] at h; simp at h) (fun _ => ?_)
      refine Calls.mono (Same_c p2 p1 cap2 cap1 b a mode W5 (h2.below hw5) (h1.below hw5) k2 k1 (hg.below hw5) (by omega) (by omega)) ?_
      rintro e W6 ⟨v2, rfl, hv2, hb6⟩
      have hw6 := hw5.trans (hb6.mono hw5.size)
      have hvv : v2 = v := by
        rw [Bool.eq_iff_iff, hv, hv2]
        exact ⟨fun e => ⟨e.1, e.2.symm⟩, fun e => ⟨e.1, e.2.symm⟩⟩
      refine ⟨_, fun w => neq_bool _ _ _ _ w, ?_⟩
      refine And.intro (fun h => by rw [hvv] at h; simp at h) (fun _ => ?_)
      refine Calls.mono (Same_c p1 p1 cap1 cap1 a a mode W6 (h1.below hw6) (h1.below hw6) k1 k1 (hg.below hw6) (by omega) (by omega)) ?_
      rintro e W7 ⟨v3, rfl, hv3, hb7⟩
      have hvk : v3 = knownB mode := by
        rw [Bool.eq_iff_iff, hv3]
        exact ⟨fun e => e.1, fun e => ⟨e, EqM.refl _ _⟩⟩
      refine ⟨_, fun w => neq_bool _ _ _ _ w, ?_⟩
      refine And.intro (fun h => by rw [hvk] at h; simp at h) (fun _ => ?_)
      exact ⟨(), ⟨.cons rfl (.cons rfl (.cons rfl (.cons rfl .nil))), rfl⟩, hw6.trans (hb7.mono hw6.size)⟩
    · have hvf : v = false := by
        cases v with
        | false => rfl
        | true => have := (hv.1 rfl).1; rw [hm] at this; cases this
      refine ⟨_, fun w => neq_bool _ _ _ _ w, ?_⟩
      refine And.intro (fun h => by rw [hvf] at h; simp at h) (fun _ => ?_)
      refine Calls.mono (Same_c p2 p1 cap2 cap1 b a mode W2 (h2.below hw2) (h1.below hw2) k2 k1 (hg.below hw2) (by omega) (by omega)) ?_
      rintro e W6 ⟨v2, rfl, hv2, hb6⟩
      have hw6 := hw2.trans (hb6.mono hw2.size)
      have hvv : v2 = v := by
        rw [Bool.eq_iff_iff, hv, hv2]
        exact ⟨fun e => ⟨e.1, e.2.symm⟩, fun e => ⟨e.1, e.2.symm⟩⟩
      refine ⟨_, fun w => neq_bool _ _ _ _ w, ?_⟩
      refine And.intro (fun h => by rw [hvv] at h; simp at h) (fun _ => ?_)
      refine Calls.mono (Same_c p1 p1 cap1 cap1 a a mode W6 (h1.below hw6) (h1.below hw6) k1 k1 (hg.below hw6) (by omega) (by omega)) ?_
      rintro e W7 ⟨v3, rfl, hv3, hb7⟩
      have hvk : v3 = knownB mode := by
        rw [Bool.eq_iff_iff, hv3]
        exact ⟨fun e => e.1, fun e => ⟨e, EqM.refl _ _⟩⟩
      refine ⟨_, fun w => neq_bool _ _ _ _ w, ?_⟩
      refine And.intro (fun h => by rw [hvk] at h; simp at h) (fun _ => ?_)
      exact ⟨(), ⟨.cons rfl (.cons rfl (.cons rfl (.cons rfl .nil))), rfl⟩, hw6.trans (hb7.mono hw6.size)⟩
  rintro _ W hw
  refine And.intro (fun h => ?_) (fun h => ?_)
  · exact And.intro rfl hw
  have hvt : v = true := by simpa using h
  obtain ⟨hm, hE⟩ := hv.1 hvt
  refine Calls.mono (Next_c p1 cap1 a mode W (h1.below hw) (hg.below hw) (by omega)) ?_
  rintro e W3 ⟨pA, cA, rfl, hA, hb3⟩
  have hw3 := hw.trans (hb3.mono hw.size)
  refine Calls.mono (Next_c p2 cap2 b mode W3 (h2.below hw3) (hg.below hw3) (by omega)) ?_
  rintro e W4 ⟨pB, cB, rfl, hB, hb4⟩
  have hw4 := hw3.trans (hb4.mono hw3.size)
  have hA4 := hA.below hb4
  have lA := next_len a mode
  have lB := next_len b mode
  have nA := nats_len (nextL a mode)
  have nB := nats_len (nextL b mode)
  refine ⟨Nat, fun i => ⟨[(0, .slice p1 a.length cap1), (1, .slice p2 b.length cap2), (2, u8 mode), (9, .slice pA (nats (nextL a mode)).length cA), (10, .slice pB (nats (nextL b mode)).length cB), (11, .int .i64 (i : Nat))], []⟩,
    fun i X => i ≤ (nextL a mode).length ∧ Below W4.heap.size W4 X, fun i => (nextL a mode).length - i, 0, ⟨.cons rfl (.cons rfl (.cons rfl (.cons rfl (.cons rfl (.cons rfl .nil))))), rfl⟩, ⟨Nat.zero_le _, Below.refl _ _⟩, ?_⟩
  rintro i X ⟨hi, hbX⟩
  have hwX := hw4.trans (hbX.mono hw4.size)
  refine And.intro (fun h => ?_) (fun h => ?_)
  rotate_left
  · exact And.intro rfl hwX
  have h := of_decide_eq_true h
  have hil : i < (nextL a mode).length := by omega
  have hil' : i < (nats (nextL a mode)).length := by omega
  obtain ⟨hx, hdx⟩ := next_mem hil
  obtain ⟨x, hxe⟩ : ∃ x, x = (nextL a mode)[i] := ⟨_, rfl⟩
  rw [← hxe] at hdx
  simp only [← hxe] at hx
  refine ⟨Option Addr × Nat × Nat, fun s => ⟨[(0, .slice p1 a.length cap1), (1, .slice p2 b.length cap2), (2, u8 mode), (9, .slice pA (nats (nextL a mode)).length cA), (10, .slice pB (nats (nextL b mode)).length cB), (11, .int .i64 (i : Nat)),
      (12, .slice s.1 (a.eraseIdx x).length s.2.1), (13, .pointer (some ⟨s.2.2, 0, none⟩)), (14, .int .i64 0)], []⟩,
    fun s Y => Below W4.heap.size W4 Y ∧ SlR Msg.E Y s.1 (a.eraseIdx x) ∧ (s.1 = none → s.2.1 = 0) ∧ Y.heap[s.2.2]? = some (.cells (a[x]).val.cells 30 (0, 0)), ?_, ?_⟩
  · obtain ⟨bA, oA, hpA, hbA, hcA⟩ := int_at (hA4.below hbX) hil'
    subst hpA
    refine ⟨i, rfl, hil', ?_⟩
    refine ⟨_, hcA, ?_⟩
    rw [nats_get hil, ← hxe]
    refine Calls.mono (take_ok_c p1 cap1 a x hx X (h1.below hwX) c1 (by omega)) ?_
    rintro e Y ⟨p', cap', rfl, ho, hbY⟩
    have hoc := own_cap ho
    have hXY := hbX.trans (hbY.mono hbX.size)
    refine store_new (X := Y) (v := a[x].val) (ttOk.get 30 _ rfl) (by rfl) rfl (by rfl) fun Z hbZ fZ sZ => ?_
    exact ⟨(p', cap', Y.heap.size), ⟨.cons rfl (.cons rfl (.cons rfl (.cons rfl (.cons rfl (.cons rfl (.cons rfl (.cons rfl (.cons rfl .nil)))))))), rfl⟩, hXY.trans (hbZ.mono hXY.size), ho.row.below hbZ, hoc.2, fZ⟩
  rintro ⟨q, qc, gx⟩ Y ⟨hbY, hq, hqc, fx⟩
  dsimp only at hq hqc fx
  refine ⟨Bool, fun s => ⟨[(0, .slice p1 a.length cap1), (1, .slice p2 b.length cap2), (2, u8 mode), (9, .slice pA (nats (nextL a mode)).length cA), (10, .slice pB (nats (nextL b mode)).length cB), (11, .int .i64 (i : Nat)),
      (14, .int .i64 0), (15, .bool s)], []⟩, fun s Z => s = true ∧ Below W4.heap.size W4 Z, ?_, ?_⟩
  rotate_left
  · rintro s Z ⟨rfl, hbZ⟩
    refine And.intro (fun h => by simp at h) (fun _ => ?_)
    refine And.intro (fun h => by cases h) (fun _ => ?_)
    refine ⟨(i + 1 : Nat), (wrap_i64 (by omega)).trans (by omega), ?_⟩
    exact ⟨i + 1, ⟨.cons rfl (.cons rfl (.cons rfl (.cons rfl (.cons rfl (.cons rfl .nil))))), rfl⟩, ⟨hil, hbZ⟩, by dsimp only; omega⟩
  refine ⟨Nat × Bool, fun s => ⟨[(0, .slice p1 a.length cap1), (1, .slice p2 b.length cap2), (2, u8 mode), (9, .slice pA (nats (nextL a mode)).length cA), (10, .slice pB (nats (nextL b mode)).length cB), (11, .int .i64 (i : Nat)),
      (12, .slice q (a.eraseIdx x).length qc), (13, .pointer (some ⟨gx, 0, none⟩)), (14, .int .i64 0), (15, .bool s.2), (16, .int .i64 s.1)], []⟩,
    fun s Z => s.1 ≤ (nextL b mode).length ∧ (s.2 = false → ∀ k, k < s.1 → ¬ Ans mode a b x k) ∧ Below W4.heap.size W4 Z ∧ Below Y.heap.size Y Z, fun s => (nextL b mode).length - s.1, (0, false),
    ⟨.cons rfl (.cons rfl (.cons rfl (.cons rfl (.cons rfl (.cons rfl (.cons rfl (.cons rfl (.cons rfl (.cons rfl (.cons rfl .nil)))))))))), rfl⟩, ⟨Nat.zero_le _, fun _ k hk => absurd hk (by simp), hbY, Below.refl _ _⟩, ?_⟩
  rintro ⟨k, fd⟩ Z ⟨hk, hno, hbZ, hbYZ⟩
  dsimp only at hk hno
  have hwZ := hw4.trans (hbZ.mono hw4.size)
  refine And.intro (fun h => ?_) (fun h => ?_)
  rotate_left
  · refine And.intro (fun h => by cases h) (fun _ => ?_)
    have h : ¬ (k : Int) < (nats (nextL b mode)).length := of_decide_eq_false h
    refine ⟨fd, ⟨.cons rfl (.cons rfl (.cons rfl (.cons rfl (.cons rfl (.cons rfl (.cons rfl (.cons rfl .nil))))))), rfl⟩, ?_, hbZ⟩
    cases fd with
    | true => rfl
    | false =>
      obtain ⟨k', hk', hans⟩ := ans_some hm hE hx hdx
      exact absurd hans (hno rfl k' (by omega))
  have h : (k : Int) < (nats (nextL b mode)).length := of_decide_eq_true h
  have hkl : k < (nextL b mode).length := by omega
  have hkl' : k < (nats (nextL b mode)).length := by omega
  refine And.intro (fun hf => ?_) (fun hf => ?_)
  rotate_left
  · have hf : fd = true := by simpa using hf
    subst hf
    exact ⟨true, ⟨.cons rfl (.cons rfl (.cons rfl (.cons rfl (.cons rfl (.cons rfl (.cons rfl (.cons rfl .nil))))))), rfl⟩, rfl, hbZ⟩
  have hf : fd = false := by simpa using hf
  subst hf
  obtain ⟨hy, hdy⟩ := next_mem hkl
  obtain ⟨y, hye⟩ : ∃ y, y = (nextL b mode)[k] := ⟨_, rfl⟩
  have hy' : y < b.length := by rw [hye]; exact hy
  have hansk : Ans mode a b x k ↔ a[x] = b[y] ∧ EqM mode (a.eraseIdx x) (b.eraseIdx y) := by
    subst hye
    exact ⟨fun ⟨_, _, _, e1, e2⟩ => ⟨e1, e2⟩, fun ⟨e1, e2⟩ => ⟨hx, hkl, hy, e1, e2⟩⟩
  obtain ⟨bB, oB, hpB, hbB, hcB⟩ := int_at ((hB.below hbZ)) hkl'
  subst hpB
  refine ⟨k, rfl, hkl', ?_⟩
  refine ⟨_, hcB, ?_⟩
  rw [nats_get hkl, ← hye]
  refine Calls.mono (take_ok_c p2 cap2 b y hy' Z (h2.below hwZ) c2 (by omega)) ?_
  rintro e Z1 ⟨o, oc, rfl, ho, hb1Z⟩
  have hoc := own_cap ho
  refine store_new (X := Z1) (v := b[y].val) (ttOk.get 30 _ rfl) (by rfl) rfl (by rfl) fun Z2 hb2Z fy sZ => ?_
  have hbZ2 : Below Z.heap.size Z Z2 := hb1Z.trans (hb2Z.mono hb1Z.size)
  have hbA2 := hbZ.trans (hbZ2.mono hbZ.size)
  have hbY2 := hbYZ.trans (hbZ2.mono hbYZ.size)
  have fx2 := block_below hbY2 fx
  have step : ∀ (fd : Bool) (V : World), (fd = true ↔ Ans mode a b x k) → (fd = false → ∀ k', k' < k + 1 → ¬ Ans mode a b x k') := fun fd V h e k' hk' => by
    rcases Nat.lt_or_ge k' k with h2 | h2
    · exact hno rfl k' h2
    · have : k' = k := by omega
      subst this
      intro h3
      have := h.2 h3
      rw [e] at this; cases this
  refine And.intro (fun _ => ?_) (fun h => by simp at h)
  refine ⟨_, rfl, cells_block fx2, hlt fx2, ?_⟩
  refine ⟨_, rfl, cells_block fy, hlt fy, ?_⟩
  refine ⟨_, fun w => eql_msg _ _ _ _ w, ?_⟩
  refine And.intro (fun he => ?_) (fun he => ?_)
  · have he : a[x] = b[y] := of_decide_eq_true he
    have hwZ2 := hw4.trans (hbA2.mono hw4.size)
    refine Calls.mono (Same_c q o qc oc (a.eraseIdx x) (b.eraseIdx y) mode Z2 (hq.below hbY2) (ho.row.below hb2Z) hqc hoc.2 (hg.below hwZ2) (by rw [List.length_eraseIdx]; split <;> omega) (by rw [List.length_eraseIdx]; split <;> omega)) ?_
    rintro e Z3 ⟨v3, rfl, hv3, hb3Z⟩
    refine ⟨(k + 1 : Nat), (wrap_i64 (by omega)).trans (by omega), ?_⟩
    refine ⟨(k + 1, v3), ⟨.cons rfl (.cons rfl (.cons rfl (.cons rfl (.cons rfl (.cons rfl (.cons rfl (.cons rfl (.cons rfl (.cons rfl (.cons rfl .nil)))))))))), rfl⟩, ⟨hkl, step v3 Z3 ?_, hbA2.trans (hb3Z.mono hbA2.size), hbY2.trans (hb3Z.mono hbY2.size)⟩, by dsimp only; omega⟩
    rw [hansk, hv3]
    exact ⟨fun e => ⟨he, e.2⟩, fun e => ⟨hm, e.2⟩⟩
  · have he : ¬ a[x] = b[y] := of_decide_eq_false he
    refine ⟨(k + 1 : Nat), (wrap_i64 (by omega)).trans (by omega), ?_⟩
    refine ⟨(k + 1, false), ⟨.cons rfl (.cons rfl (.cons rfl (.cons rfl (.cons rfl (.cons rfl (.cons rfl (.cons rfl (.cons rfl (.cons rfl (.cons rfl .nil)))))))))), rfl⟩, ⟨hkl, step false Z2 ?_, hbA2, hbY2⟩, by dsimp only; omega⟩
    rw [hansk]
    exact ⟨fun h => (by cases h), fun e => absurd e.1 he⟩
end Go.Proofs.YtflljnnndmkfkaaDoor
