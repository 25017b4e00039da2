/- Contracts: Next. -/
import Derived.Test.YtflljnnndmkfkaaDoorNet4
import Derived.Test.YtflljnnndmkfkaaDoorNetP2
namespace Go.Proofs.YtflljnnndmkfkaaDoor
open Go.Vc Go.RowKit Go.Sei



/-- The box of what is gathered, and its row. -/
def FpN (g : Nat) (X : World) (k : Nat) : Prop := k = g ∨ ∃ a n cap, X.heap[g]? = some (.cells #[.slice (some a) n cap] 24 (0, 0)) ∧ k = a.block
def JN (w0 : World) (g : Nat) (xs : List Nat) (X : World) : Prop :=
  Below w0.heap.size w0 X ∧ ∃ p cap, X.heap[g]? = some (.cells #[.slice p (nats xs).length cap] 24 (0, 0)) ∧ OwnS intE 3 (g + 1) X p cap (nats xs)

theorem FpN.row {X : World} {g : Nat} {p : Option Addr} {n cap : Nat} (hg : X.heap[g]? = some (.cells #[.slice p n cap] 24 (0, 0))) {k : Nat} (h : FpN g X k) : k = g ∨ ∃ a, p = some a ∧ k = a.block := by
  rcases h with h | ⟨a, n', cap', h1, h2⟩
  · exact .inl h
  · rw [hg] at h1
    simp at h1
    exact .inr ⟨a, h1.1, h2⟩

theorem JN.iter {w0 : World} {g n0 : Nat} (h0 : w0.heap.size ≤ n0) : IterJ n0 (FpN g) (JN w0 g) := by
  refine ⟨fun xs A B ⟨hb, p, cap, hg, ho⟩ hs => ?_, fun xs A k ⟨hb, p, cap, hg, ho⟩ hf => ?_⟩
  · have hgB : B.heap[g]? = some (.cells #[.slice p (nats xs).length cap] 24 (0, 0)) := (hs.same g (hlt hg) (.inr (.inl rfl))).trans hg
    have hrow : ∀ a, p = some a → B.heap[a.block]? = A.heap[a.block]? := fun a ha => by
      rcases ho.inv with ⟨rfl, _⟩ | ⟨g', cur, rfl, _, hg', _⟩
      · cases ha
      · cases ha
        exact hs.same _ (hlt hg') (.inr (.inr ⟨_, _, _, hg, rfl⟩))
    refine ⟨⟨⟨hs.os.trans hb.os, hs.tape.trans hb.tape, hs.output.trans hb.output, Nat.le_trans hb.size hs.size, fun k hk => ?_⟩, p, cap, hgB, ho.same hrow⟩, fun k hk => ?_⟩
    · exact (hs.same k (Nat.lt_of_lt_of_le hk hb.size) (.inl (by omega))).trans (hb.block k hk)
    · rcases FpN.row hgB hk with rfl | ⟨a, rfl, rfl⟩
      · exact .inl rfl
      · exact .inr ⟨_, _, _, hg, rfl⟩
  · rcases FpN.row hg hf with rfl | ⟨a, rfl, rfl⟩
    · exact hlt hg
    · rcases ho.inv with ⟨h, _⟩ | ⟨g', cur, h, _, hg', _⟩
      · cases h
      · cases h; exact hlt hg'

theorem Next_c (p : Option Addr) (cap : Nat) (l : List Msg) (mode : UInt8) (w : World) (hl : SlR Msg.E w p l) (hg : Glob w) (hn : l.length ≤ 1000000000) :
    Calls Tryd.prog 8 #[.slice p l.length cap, u8 mode] w fun e w' => ∃ p' cap', e = .returned (.slice p' (nats (nextL l mode)).length cap') ∧ SlR intE w' p' (nats (nextL l mode)) ∧ Below w.heap.size w w' := by
  refine calls_of_E (S := sg 19) (sgOk _) (args := [.slice p l.length cap, u8 mode]) Tryd.func8 rfl rfl (Nat.le_of_ble_eq_true rfl) rfl ?_
  refine Calls.mono (known_c mode w) ?_
  rintro e w' ⟨rfl, rfl⟩
  refine And.intro (fun h => ?_) (fun h => ?_)
  · have h : knownB mode = false := by simpa using h
    have : nextL l mode = [] := by simp [nextL, h]
    rw [this]
    exact ⟨none, 0, rfl, .nil, Below.refl _ _⟩
  have h : knownB mode = true := by simpa using h
  have hb1 : Below w.heap.size w (w.alloc (.cells #[.slice none 0 0] 24)) := (Below.refl _ _).alloc (Nat.le_refl _) _
  refine Calls.mono (ready_c p cap l mode _ (hl.below hb1) (hg.below hb1)) ?_
  rintro e W0 ⟨rfl, hb2, hF⟩
  have hsz1 : (w.alloc (.cells #[.slice none 0 0] 24)).heap.size = w.heap.size + 1 := World.size_alloc _ _
  rw [hsz1] at hF hb2
  have hbw : Below w.heap.size w W0 := hb1.trans (hb2.mono (by omega))
  have hbox : W0.heap[w.heap.size]? = some (.cells #[.slice none 0 0] 24 (0, 0)) := by
    rw [hb2.block _ (by omega)]; exact hnew w _
  have hs0 := hb2.size
  rw [hsz1] at hs0
  refine rangeE (sgOk _) rfl (lb := #[.pointer (some ⟨(w.alloc (.cells #[.slice none 0 0] 24)).heap.size, 0, none⟩), .pointer (some ⟨(w.alloc (.cells #[.slice none 0 0] 24)).heap.size + 1, 0, none⟩)]) rfl rfl
    (by rw [hsz1]; exact ready1_c _ _ p cap l mode W0 hF hn) (Nat.le_refl _) (fun k hk => ⟨RdN.lt hF hk, rfl⟩) (fun _ => rfl) (by decide) (FpN w.heap.size) (JN w w.heap.size) (fun _ _ _ => False) ?_ (JN.iter (by omega)) (fun _ => ⟨fun _ _ _ h _ => h.elim, fun _ _ _ h _ => h.elim⟩) ?_ ?_ ?_ ?_
  · intro k hk hf
    rcases FpN.row hbox hf with rfl | ⟨a, ha, _⟩
    · rcases hk with h1 | h1 | h1 | ⟨h1, a, rfl, h2⟩
      · have : 0 < w.heap.size := World.block_lt_of_cell? w _ (cells_head hg)
        omega
      · omega
      · omega
      · rcases hl with h3 | ⟨b, o, h4, h5, _⟩
        · exact h1 h3
        · cases h4; dsimp only at h2; omega
    · cases ha
  · exact ⟨hbw, none, 0, hbox, .nil⟩
  · intro yl pre x W hyl hpre hJ hfy hly
    refine ⟨rfl, Keeps.refl _ _, hJ, ?_⟩
    rintro o W2 - ⟨hbW, p2, cap2, hgW, ho⟩ hF2
    refine ⟨_, cells_head (cells_block hgW), ?_⟩
    have hlen : (nats pre).length + 1 ≤ 1000000000 := by
      have h1 := hpre.length_le
      have h2 : (upto l mode l.length).length ≤ l.length := by unfold upto; refine Nat.le_trans (List.length_filter_le _ _) ?_; simp
      simp [nats] at h1 ⊢
      omega
    refine ⟨⟨by decide, by decide, rfl⟩, [.int .i64 x], rfl, ?_⟩
    have hw2 := hlt hgW
    refine app_own (E := intE) (news := [(x : Int)]) (B := w.heap.size + 1) Tryd.underlying24 (ttOk.get 3 _ rfl) rfl rfl rfl (ho.alloc _) rfl cells_new (by simp; omega) (by show (nats pre).length + 1 ≤ _; omega) (by show ((nats pre).length + 1) * 8 ≤ _; omega) ?_
    intro p3 cap3 W4 ho4 hg4 hb4 hat
    have hbox3 : (W2.alloc (.cells #[.int .i64 x] 3)).heap[w.heap.size]? = some (.cells #[.slice p2 (nats pre).length cap2] 24 (0, 0)) := hold _ hgW
    have hbox4 : W4.heap[w.heap.size]? = some (.cells #[.slice p2 (nats pre).length cap2] 24 (0, 0)) := (hb4.block _ (by omega)).trans hbox3
    refine store_box (ttOk.get 24 _ rfl) hbox4 (by rfl) rfl (by rfl) ?_
    have hnat : nats pre ++ [(x : Int)] = nats (pre ++ [x]) := by simp [nats]
    rw [hnat] at ho4 ⊢
    have hbox5 := setRow_new (cs' := (Value.slice p3 (nats (pre ++ [x])).length cap3).cells) hbox4
    have hbB : Below w.heap.size W2 (W4.setRow w.heap.size (Value.slice p3 (nats (pre ++ [x])).length cap3).cells) :=
      below_setRow (((Below.refl _ W2).alloc (by omega) _).trans (hb4.mono (by omega))) (Nat.le_refl _) _
    refine And.intro ⟨hbW.trans hbB, p3, cap3, hbox5, ho4.same fun a ha => ?_⟩ ⟨hbB.os, hbB.tape, hbB.output, hbB.size, fun k hk hf => ?_, fun k hk => ?_⟩
    · refine setRow_old ?_
      rcases ho4.inv with ⟨h1, _⟩ | ⟨g', _, h1, h2, _⟩
      · rw [h1] at ha; cases ha
      · rw [h1] at ha; cases ha; dsimp only; omega
    · have h1 : k ≠ w.heap.size := fun e => hf (.inl e)
      rw [setRow_old h1]
      refine (hg4.block k (by simp; omega) ?_).trans ?_
      · intro e
        cases p2 with
        | none => simp [Value.ownBlock] at e
        | some a =>
          simp only [Value.ownBlock, Option.some.injEq] at e
          exact hf (.inr ⟨a, _, _, hgW, e⟩)
      · show (W2.heap.push _)[k]? = _
        rw [Array.getElem?_push, if_neg (Nat.ne_of_lt hk)]
    · rcases FpN.row hbox5 hk with rfl | ⟨a, ha, rfl⟩
      · exact .inl (.inl rfl)
      · rcases hat a ha with h1 | h1
        · exact .inl (.inr ⟨a, _, _, h1 ▸ hgW, rfl⟩)
        · refine .inr ?_
          rw [h1]; simp
  · intro D W hD hfD hJ hdef
    obtain ⟨hbW, p2, cap2, hgW, ho⟩ := hJ
    refine ⟨_, cells_head (cells_block hgW), ?_⟩
    have hnx : nextL l mode = upto l mode l.length := by simp [nextL, h]
    rw [hnx]
    refine ⟨_, rfl, hdef, ?_⟩
    refine ⟨p2, cap2, rfl, (ho.same fun a ha => heap_put_old fun e => ?_).row, below_put hbW (by omega) _⟩
    subst ha
    exact hfD (.inr ⟨a, _, _, hgW, e.symm⟩)
  · exact fun _ _ _ _ _ _ _ h => h.elim
end Go.Proofs.YtflljnnndmkfkaaDoor
