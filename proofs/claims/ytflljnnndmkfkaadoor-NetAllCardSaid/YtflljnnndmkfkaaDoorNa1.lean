/- The law NetAll: what it computes. -/
import Derived.Test.YtflljnnndmkfkaaDoorNm1
namespace Go.Proofs.YtflljnnndmkfkaaDoor
open Go.Vc Go.RowKit Go.Sei

/-- What has come out and what is still on its way are together what was sent. -/
def Del (mode : UInt8) (l out way : List Msg) : Prop := ∀ q, out.filter (fun m => decide (mkey mode m = q)) ++ way.filter (fun m => decide (mkey mode m = q)) = l.filter (fun m => decide (mkey mode m = q))
theorem Del.step {mode : UInt8} {l out way : List Msg} (h : Del mode l out way) {i : Nat} (hi : i < way.length) (hd : dlv way mode i = true) : Del mode l (out ++ [way[i]]) (way.eraseIdx i) :=
  fun q => (deliver hi hd out q).trans (h q)
theorem Del.done {mode : UInt8} {l out : List Msg} (h : Del mode l out []) : EqM mode out l := fun q => by have := h q; simpa using this

theorem netAll_c (p1 : Option Addr) (cap1 : Nat) (l : List Msg) (p2 : Option Addr) (cap2 : Nat) (pk : List Int) (mode : UInt8) (w : World) (h1 : SlR Msg.E w p1 l) (k1 : p1 = none → cap1 = 0) (_c1 : l.length ≤ cap1)
    (h2 : SlR intE w p2 pk) (_k2 : p2 = none → cap2 = 0) (_c2 : pk.length ≤ cap2) (hg : Glob w) :
    Calls Tryd.prog 5 #[.slice p1 l.length cap1, .slice p2 pk.length cap2, u8 mode] w fun e w' => e = .returned (.bool true) ∧ Below w.heap.size w w' := by
  refine calls_of_M (S := sg 118) (sgOk _) (args := [.slice p1 l.length cap1, .slice p2 pk.length cap2, u8 mode])
    (.s .p (.s .p (.s .p (.s .p (.c .p (.s (.s .p (.b (.l (.s .p (.s (.b (.c .p (.c .p (.s .p (.c .p (.c .p .p)))))) .p))))) .p))))))
    Tryd.func5 rfl rfl (Nat.le_of_ble_eq_true rfl) rfl ?_
  refine Calls.mono (awake_c w hg) ?_
  rintro e W1 ⟨rfl, hb1⟩
  refine And.intro (fun h => by cases h) (fun _ => ?_)
  refine And.intro (fun h => ?_) (fun h => ?_)
  · refine And.intro (fun _ => ?_) (fun h => by cases h)
    refine And.intro (fun _ => ?_) (fun h => by cases h)
    exact And.intro rfl hb1
  have hn1 : l.length ≤ 60 := by have := of_decide_eq_false h; omega
  refine And.intro (fun h => ?_) (fun hm1 => ?_)
  · refine And.intro (fun _ => ?_) (fun h => by cases h)
    exact And.intro rfl hb1
  have hm1 : ¬ (mode.toNat : Int) < 1 := of_decide_eq_false hm1
  refine And.intro (fun h => ?_) (fun hm2 => ?_)
  · exact And.intro rfl hb1
  have hm2 : ¬ (3 : Int) < mode.toNat := of_decide_eq_false hm2
  have hm := (known_iff mode).2 ⟨by omega, by omega⟩
  have h1' := h1.below hb1
  -- all is sent
  refine ⟨Option Addr × Nat, fun s => ⟨[(0, .slice p1 l.length cap1), (1, .slice p2 pk.length cap2), (2, u8 mode), (7, .slice s.1 l.length s.2), (8, .slice none 0 0)], []⟩,
    fun s V => OwnS Msg.E 30 W1.heap.size V s.1 s.2 l ∧ Below W1.heap.size W1 V, ?_, ?_⟩
  · refine ⟨Nat × Option Addr × Nat, fun s => ⟨[(0, .slice p1 l.length cap1), (1, .slice p2 pk.length cap2), (2, u8 mode), (7, .slice s.2.1 (l.take s.1).length s.2.2), (8, .slice none 0 0), (9, .int .i64 s.1)], []⟩,
      fun s V => s.1 ≤ l.length ∧ OwnS Msg.E 30 W1.heap.size V s.2.1 s.2.2 (l.take s.1) ∧ Below W1.heap.size W1 V, fun s => l.length - s.1, (0, none, 0),
      ⟨.cons rfl (.cons rfl (.cons rfl (.cons rfl (.cons rfl (.cons rfl .nil))))), rfl⟩, ⟨Nat.zero_le _, .nil, Below.refl _ _⟩, ?_⟩
    rintro ⟨k, q, qc⟩ V ⟨hk, ho, hbV⟩
    dsimp only at hk ho
    refine And.intro (fun h => ?_) (fun h => ?_)
    · have h : (k : Int) < l.length := of_decide_eq_true h
      have hkl : k < l.length := by omega
      have hoc := own_cap ho
      have hs1 := hbV.size
      obtain ⟨b, o, hp, hb, hc⟩ := (h1'.below hbV).at hkl
      subst hp
      refine ⟨k, rfl, hkl, ?_⟩
      refine ⟨l[k].enc, rfl, hc k hkl, hb, ?_⟩
      refine ⟨⟨by decide, by decide, rfl⟩, l[k].enc, rfl, ?_⟩
      have hb2 : Below V.heap.size V (V.alloc (.cells l[k].enc.toArray 30)) := (Below.refl _ _).alloc (Nat.le_refl _) _
      have hnew : SlR Msg.E (V.alloc (.cells l[k].enc.toArray 30)) (some ⟨V.heap.size, 0, none⟩) [l[k]] := SlR.of_cells (by simp) (by rw [List.flatMap_singleton]; exact cells_new)
      refine Calls.mono (Send_c q (some ⟨V.heap.size, 0, none⟩) qc 1 (l.take k) [l[k]] _ (ho.below hb2).row hnew hoc.2 (fun h => by cases h) (by simp; omega)) ?_
      rintro e V2 ⟨p', cap', rfl, ho', hb3⟩
      have hts : l.take (k + 1) = l.take k ++ [l[k]] := List.take_succ_eq_append_getElem hkl
      have hb23 := hb2.trans (hb3.mono hb2.size)
      refine ⟨(k + 1 : Nat), (wrap_i64 (by omega)).trans (by omega), ?_⟩
      refine ⟨(k + 1, p', cap'), ⟨.cons rfl (.cons rfl (.cons rfl (.cons (by dsimp only; rw [hts]; rfl) (.cons rfl (.cons rfl .nil))))), rfl⟩, ⟨hkl, by dsimp only; rw [hts]; exact own_weaken ho' (by simp; omega), hbV.trans (hb23.mono hs1)⟩, by dsimp only; omega⟩
    · have h : ¬ (k : Int) < l.length := of_decide_eq_false h
      rw [List.take_of_length_le (by omega)] at ho
      exact ⟨(q, qc), ⟨.cons rfl (.cons rfl (.cons rfl (.cons (by dsimp only; rw [List.take_of_length_le (by omega)]; rfl) (.cons rfl .nil)))), rfl⟩, ho, hbV⟩
  rintro ⟨q0, qc0⟩ V0 ⟨ho0, hb0⟩
  dsimp only at ho0
  have h1s := hb1.size
  have hw0 := hb1.trans (hb0.mono h1s)
  -- all is delivered
  refine ⟨(Nat × List Msg × List Msg) × (Option Addr × Nat) × Option Addr × Nat, fun s => ⟨[(0, .slice p1 l.length cap1), (1, .slice p2 pk.length cap2), (2, u8 mode), (7, .slice s.2.1.1 s.1.2.1.length s.2.1.2), (8, .slice s.2.2.1 s.1.2.2.length s.2.2.2), (10, .int .i64 s.1.1)], []⟩,
    fun s V => s.1.2.1.length + s.1.1 = l.length ∧ (s.1.2.2 ++ s.1.2.1).Perm l ∧ Del mode l s.1.2.2 s.1.2.1 ∧ OwnS Msg.E 30 w.heap.size V s.2.1.1 s.2.1.2 s.1.2.1 ∧ OwnS Msg.E 30 w.heap.size V s.2.2.1 s.2.2.2 s.1.2.2 ∧
      (∀ a b, s.2.1.1 = some a → s.2.2.1 = some b → a.block ≠ b.block) ∧ Below w.heap.size w V, fun s => s.1.2.1.length, ((0, l, []), (q0, qc0), none, 0),
    ⟨.cons rfl (.cons rfl (.cons rfl (.cons rfl (.cons rfl (.cons rfl .nil))))), rfl⟩, ⟨by simp, by simp, fun q => by simp, own_weaken ho0 h1s, .nil, (fun _ _ _ h => by cases h), hw0⟩, ?_⟩
  rintro ⟨⟨n, way, out⟩, ⟨q, qc⟩, qo, co⟩ V ⟨hnl, hpm, hdel, ho, hoo, hdis, hw⟩
  dsimp only at hnl hpm hdel ho hoo hdis
  refine And.intro (fun h => ?_) (fun h => ?_)
  rotate_left
  · have h : ¬ (0 : Int) < way.length := of_decide_eq_false h
    have hwy : way = [] := List.eq_nil_of_length_eq_zero (by omega)
    subst hwy
    refine And.intro (fun h => by cases h) (fun _ => ?_)
    have hpm : out.Perm l := by simpa using hpm
    have heq := hdel.done
    have hbV := hw
    have hooc := own_cap hoo
    refine And.intro (fun h => absurd (of_decide_eq_true h) (by omega)) (fun _ => ?_)
    refine And.intro (fun h => absurd (by rw [hpm.length_eq]) (nt h)) (fun _ => ?_)
    refine Calls.mono (Same_c qo p1 co cap1 out l 1 V hoo.row (h1.below hbV) hooc.2 k1 (hg.below hbV) (by rw [hpm.length_eq]; omega) (by omega)) ?_
    rintro e V2 ⟨v, rfl, hv, hb2⟩
    have hv : v = true := hv.2 ⟨by decide, perm_bag hpm⟩
    subst hv
    have hbV2 := hbV.trans (hb2.mono hbV.size)
    refine And.intro (fun h => by cases h) (fun _ => ?_)
    refine And.intro (fun h => ?_) (fun h => ?_)
    · exact And.intro rfl hbV2
    have h : mode = 2 := u8_eq.1 (neq_f h)
    subst h
    refine Calls.mono (Same_c qo p1 co cap1 out l 2 V2 (hoo.row.below hb2) (h1.below hbV2) hooc.2 k1 (hg.below hbV2) (by rw [hpm.length_eq]; omega) (by omega)) ?_
    rintro e V3 ⟨v, rfl, hv, hb3⟩
    have hv : v = true := hv.2 ⟨by decide, heq⟩
    subst hv
    exact And.intro rfl (hbV2.trans (hb3.mono hbV2.size))
  have h : (0 : Int) < way.length := of_decide_eq_true h
  have hwl : 0 < way.length := by omega
  refine And.intro (fun _ => ?_) (fun h => ?_)
  rotate_left
  · have h : ¬ (n : Int) ≤ l.length := of_decide_eq_false h
    omega
  have hoc := own_cap ho
  refine ⟨Option Addr × Nat, fun s => ⟨[(0, .slice p1 l.length cap1), (1, .slice p2 pk.length cap2), (2, u8 mode), (7, .slice q way.length qc), (8, .slice qo out.length co), (10, .int .i64 n), (11, .slice s.1 (nats (nextL way mode)).length s.2)], []⟩, fun s V1 => SlR intE V1 s.1 (nats (nextL way mode)) ∧ Below V.heap.size V V1, ?_, ?_⟩
  · refine Calls.mono (Next_c q qc way mode V ho.row (hg.below hw) (by omega)) ?_
    rintro e V1 ⟨px, cx, rfl, hx, hbV1⟩
    exact ⟨(px, cx), ⟨.cons rfl (.cons rfl (.cons rfl (.cons rfl (.cons rfl (.cons rfl (.cons rfl .nil)))))), rfl⟩, hx, hbV1⟩
  rintro ⟨px, cx⟩ V1 ⟨hx, hbV1⟩
  dsimp only at hx
  have hw1 := hw.trans (hbV1.mono hw.size)
  have nX := nats_len (nextL way mode)
  have hX0 : 0 < (nextL way mode).length := by
    obtain ⟨t, ht⟩ := upto_head way mode hwl
    unfold nextL; rw [if_pos hm, ht]; simp
  have lX := next_len way mode
  have ho1 := ho.below hbV1
  have hoo1 := hoo.below hbV1
  refine ⟨Unit, fun _ => ⟨[(0, .slice p1 l.length cap1), (1, .slice p2 pk.length cap2), (2, u8 mode), (7, .slice q way.length qc), (8, .slice qo out.length co), (10, .int .i64 n), (11, .slice px (nats (nextL way mode)).length cx)], []⟩, fun _ X => V1 = X, ?_, ?_⟩
  · refine And.intro (fun h => ?_) (fun _ => ?_)
    · have h := of_decide_eq_true h
      omega
    exact ⟨(), ⟨.cons rfl (.cons rfl (.cons rfl (.cons rfl (.cons rfl (.cons rfl (.cons rfl .nil)))))), rfl⟩, rfl⟩
  rintro _ _ rfl
  refine ⟨Nat, fun j => ⟨[(0, .slice p1 l.length cap1), (1, .slice p2 pk.length cap2), (2, u8 mode), (7, .slice q way.length qc), (8, .slice qo out.length co), (10, .int .i64 n), (11, .slice px (nats (nextL way mode)).length cx), (12, .int .i64 (j : Nat))], []⟩,
    fun j X => j < (nextL way mode).length ∧ V1 = X, ?_, ?_⟩
  · refine And.intro (fun h => ?_) (fun h => ?_)
    · have h : (n : Int) < pk.length := of_decide_eq_true h
      have hnp : n < pk.length := by omega
      obtain ⟨b, o, hp, hb, hc⟩ := int_at (h2.below hw1) hnp
      subst hp
      refine ⟨n, rfl, hnp, ?_⟩
      refine ⟨_, hc, ?_⟩
      refine Calls.mono (Pick_c pk[n] (nats (nextL way mode)).length (by omega) (by omega) V1) ?_
      rintro e _ ⟨j, hj, rfl, rfl⟩
      exact ⟨j, ⟨.cons rfl (.cons rfl (.cons rfl (.cons rfl (.cons rfl (.cons rfl (.cons rfl (.cons rfl .nil))))))), rfl⟩, by omega, rfl⟩
    · exact ⟨0, ⟨.cons rfl (.cons rfl (.cons rfl (.cons rfl (.cons rfl (.cons rfl (.cons rfl (.cons rfl .nil))))))), rfl⟩, hX0, rfl⟩
  rintro j _ ⟨hj, rfl⟩
  obtain ⟨hy, hdy⟩ := next_mem hj
  obtain ⟨y, hye⟩ : ∃ y, y = (nextL way mode)[j] := ⟨_, rfl⟩
  rw [← hye] at hdy
  simp only [← hye] at hy
  have hj' : j < (nats (nextL way mode)).length := by omega
  have hel : (way.eraseIdx y).length = way.length - 1 := List.length_eraseIdx_of_lt hy
  refine ⟨Option Addr × Nat × Nat, fun s => ⟨[(0, .slice p1 l.length cap1), (1, .slice p2 pk.length cap2), (2, u8 mode), (7, .slice q way.length qc), (8, .slice qo out.length co), (10, .int .i64 n), (13, .slice s.1 (way.eraseIdx y).length s.2.1), (14, .pointer (some ⟨s.2.2, 0, none⟩)), (15, .int .i64 0)], []⟩,
    fun s X => OwnS Msg.E 30 w.heap.size X s.1 s.2.1 (way.eraseIdx y) ∧ OwnS Msg.E 30 w.heap.size X qo co out ∧ (∀ a b, s.1 = some a → qo = some b → a.block ≠ b.block) ∧ X.heap[s.2.2]? = some (.cells way[y].val.cells 30 (0, 0)) ∧ Below w.heap.size w X, ?_, ?_⟩
  · obtain ⟨b, o, hp, hb, hc⟩ := int_at hx hj'
    subst hp
    refine ⟨j, rfl, hj', ?_⟩
    refine ⟨_, hc, ?_⟩
    rw [nats_get hj, ← hye]
    refine Calls.mono (take_ok_c q qc way y hy V1 ho1.row hoc.1 (by omega)) ?_
    rintro e X ⟨p', cap', rfl, ho2, hbX⟩
    have hw2 := hw1.trans (hbX.mono hw1.size)
    refine store_new (X := X) (v := way[y].val) (ttOk.get 30 _ rfl) (by rfl) rfl (by rfl) fun Z hbZ fZ sZ => ?_
    refine ⟨(p', cap', X.heap.size), ⟨.cons rfl (.cons rfl (.cons rfl (.cons rfl (.cons rfl (.cons rfl (.cons rfl (.cons rfl (.cons rfl .nil)))))))), rfl⟩, own_weaken (ho2.below hbZ) hw1.size, (hoo1.below hbX).below hbZ, fun a b ha hb2 => ?_, fZ, hw2.trans (hbZ.mono hw2.size)⟩
    dsimp only at ha
    rcases ho2.inv with ⟨e1, _⟩ | ⟨g, _, e1, e2, _⟩
    · rw [e1] at ha; cases ha
    · rw [e1] at ha; cases ha
      rcases hoo1.inv with ⟨e3, _⟩ | ⟨g3, _, e3, _, e4, _⟩
      · rw [e3] at hb2; cases hb2
      · rw [e3] at hb2; cases hb2
        have := hlt e4
        dsimp only; omega
  rintro ⟨r, rc, gx⟩ X ⟨hr, hoX, hdX, fx, hwX⟩
  dsimp only at hr hdX fx
  refine And.intro (fun h => by simp at h) (fun _ => ?_)
  refine ⟨(way.length - 1 : Nat), (wrap_i64 (by omega)).trans (by omega), ?_⟩
  refine And.intro (fun h => absurd (by rw [hel]) (nt h)) (fun _ => ?_)
  refine ⟨_, rfl, cells_block fx, hlt fx, ?_⟩
  refine ⟨⟨by decide, by decide, rfl⟩, way[y].enc, rfl, ?_⟩
  have hsX := hwX.size
  have hlo : out.length ≤ 60 := by
    have := hpm.length_eq
    simp at this; omega
  refine app_own (E := Msg.E) (news := [way[y]]) (B := w.heap.size) Tryd.underlying22 (ttOk.get 30 _ rfl) rfl rfl rfl (hoX.alloc _) rfl (by rw [List.flatMap_singleton]; exact cells_new) (by simp; omega) (by show out.length + 1 ≤ _; omega) (by show (out.length + 1) * 11 ≤ 140737488355328; omega) ?_
  intro p4 cap4 W4 ho4 hg4 hb4 hat
  refine ⟨(n + 1 : Nat), (wrap_i64 (by omega)).trans (by omega), ?_⟩
  have hwb : Below w.heap.size w (X.alloc (.cells way[y].enc.toArray 30)) := hwX.alloc hsX _
  refine ⟨((n + 1, way.eraseIdx y, out ++ [way[y]]), (r, rc), p4, cap4), ⟨.cons rfl (.cons rfl (.cons rfl (.cons rfl (.cons rfl (.cons rfl .nil))))), rfl⟩, ⟨by dsimp only; omega, ?_, hdel.step hy hdy, ?_, ho4, ?_, hwb.trans hb4⟩, by dsimp only; omega⟩
  · dsimp only
    rw [List.append_assoc]
    refine (List.Perm.append_left out ?_).trans hpm
    have e : way = way.take y ++ way[y] :: way.drop (y + 1) := by rw [List.getElem_cons_drop, List.take_append_drop]
    rw [List.eraseIdx_eq_take_drop_succ]
    refine List.Perm.trans ?_ (List.Perm.of_eq e.symm)
    show (way[y] :: (way.take y ++ way.drop (y + 1))).Perm _
    exact (List.perm_middle).symm
  · refine (hr.alloc _).kept hg4 fun g hgr e => ?_
    cases hqo : qo with
    | none => rw [hqo] at e; simp [Value.ownBlock] at e
    | some a =>
      rw [hqo] at e
      simp only [Value.ownBlock, Option.some.injEq] at e
      exact hdX _ _ hgr hqo e.symm
  · intro a b ha hb
    dsimp only at ha hb
    rcases hat b hb with h3 | h3
    · exact hdX a b ha h3
    · rw [h3]
      rcases hr.inv with ⟨e1, _⟩ | ⟨g, _, e1, _, e4, _⟩
      · rw [e1] at ha; cases ha
      · rw [e1] at ha; cases ha
        have := hlt e4
        simp; omega
end Go.Proofs.YtflljnnndmkfkaaDoor
