/- Law17: contracts of the reference: Parse. -/
import Derived.Test.YtkekidalckflhaaDoorRf4
namespace Go.Proofs.YtkekidalckflhaaDoor
open Go.Vc Go.RowKit Go.Sei

theorem sp_short : ∀ (s w : List UInt8), ∀ x ∈ sp w s, x.length ≤ w.length + s.length
  | [], w, x, h => by
    have : x = w := by simpa [sp] using h
    rw [this]; simp
  | c :: r, w, x, h => by
    unfold sp at h
    split at h
    · rcases List.mem_cons.1 h with rfl | h
      · omega
      · have := sp_short r [] x h; simp only [List.length_nil, List.length_cons] at this ⊢; omega
    · have := sp_short r (w ++ [c]) x h; simp only [List.length_append, List.length_nil, List.length_cons] at this ⊢; omega

/-- A store of some cells into a box of cells. -/
theorem store_cells {P : Program} {w : World} {g : Nat} {Te : TypeId} {iT : TI} (hT : TIok P Te iT) {cs : Array Value} {t : TypeId} (hg : w.heap[g]? = some (.cells cs t (0, 0))) {o : Nat} {v : Value} {vs : List Value} (hv : v.cells = vs.toArray) (hs : iT.size = vs.length) (ho : o + vs.length ≤ cs.size) (h1 : ∀ u ∈ vs, u.oneCell' = true) {K : World → Prop}
    (k : ∀ w', w'.heap[g]? = some (.cells (cs.toList.take o ++ vs ++ cs.toList.drop (o + vs.length)).toArray t (0, 0)) → w.grownBy w' (some g) → w'.heap.size = w.heap.size → K w') :
    SatR ((storeVar Te ⟨g, o, none⟩ v).run P w) fun _ w' => K w' := by
  obtain ⟨⟨inf, hinf, hsz, _, _⟩, _⟩ := hT
  have hst := run_storeCells_at P g o t vs 0 cs w hg (by simpa using ho) h1
  have hrun : (sizeOf Te).run P w = .ok iT.size w := by simp [sizeOf, typeInfo, hinf, hsz]
  refine SatR.mk (v := ()) (w' := w.setRow g (cs.toList.take o ++ vs ++ cs.toList.drop (o + vs.length)).toArray) ?_ (k _ (setRow_new hg) (grown_setRow w g _) (by simp))
  simp only [storeVar, Sem.run_bind, hrun, Result.andThen_ok, hv, hs]
  simpa using hst
/-- The box of the message that is read. -/
structure PS (W1 : World) (m : Msg) (V : World) : Prop where
  box : V.heap[W1.heap.size]? = some (.cells m.val.cells 30 (0, 0))
  bel : Below W1.heap.size W1 V
theorem PS.below {W1 V V2 : World} {m : Msg} (h : PS W1 m V) (hb : Below V.heap.size V V2) : PS W1 m V2 := ⟨block_below hb h.box, h.bel.trans (hb.mono h.bel.size)⟩
theorem PS.set {W1 V : World} {m : Msg} {T : TypeId} {iT : TI} (h : PS W1 m V) (hT : TIok Tryd.prog T iT) (hs : iT.size = 1) {o : Nat} {v : Value} (ho : o < 11) (hv : v.cells = #[v]) (h1 : v.oneCell' = true) (m' : Msg) (he : m.enc.take o ++ [v] ++ m.enc.drop (o + 1) = m'.enc)
    {K : World → Prop} (k : ∀ V', PS W1 m' V' → K V') : SatR ((storeVar T ⟨W1.heap.size, o, none⟩ v).run Tryd.prog V) fun _ w' => K w' := by
  obtain ⟨fx, hb⟩ := h
  refine store_cell hT hs fx (by show o < 11; exact ho) hv h1 fun V' f gr z => k V' ⟨?_, hb.grown gr hb.size (fun j e => by simp at e; omega)⟩
  rw [f]
  have : m.val.cells.toList = m.enc := rfl
  rw [this, he]; rfl

theorem PS.setD {W1 V : World} {m : Msg} (h : PS W1 m V) (a b c d : UInt8) {K : World → Prop} (k : ∀ V', PS W1 { m with d0 := a, d1 := b, d2 := c, d3 := d } V' → K V') : SatR ((storeVar 28 ⟨W1.heap.size, 7, none⟩ (.agg (dcells a b c d).toArray)).run Tryd.prog V) fun _ w' => K w' := by
  obtain ⟨fx, hb⟩ := h
  refine store_cells (vs := dcells a b c d) (ttOk.get 28 _ rfl) fx (by rfl) rfl (by show 7 + 4 ≤ 11; decide) (fun u hu => by simp only [dcells, List.mem_cons, List.not_mem_nil, or_false] at hu; rcases hu with rfl | rfl | rfl | rfl <;> rfl) fun V' f gr z => k V' ⟨?_, hb.grown gr hb.size (fun j e => by simp at e; omega)⟩
  rw [f]; rfl
def Rest (l : List (List UInt8)) (i : Nat) (m : Msg) : Msg := if i = 1 then go1 (l.drop 1) m else goR (l.drop i) m
theorem rest_end {l : List (List UInt8)} {i : Nat} {m : Msg} (h : l.length ≤ i) : Rest l i m = m := by
  unfold Rest
  split
  · rename_i h1; subst h1; rw [List.drop_eq_nil_of_le h]; rfl
  · rw [List.drop_eq_nil_of_le h]; rfl

theorem drop_at {l : List (List UInt8)} {i : Nat} (h : i < l.length) : l.drop i = l[i] :: l.drop (i + 1) := List.drop_eq_getElem_cons h
theorem wv {i : Nat} {l : List (List UInt8)} {p : Option Addr} {V : World} (hr : SlR strE V p l) (hi : i < l.length) : ∃ b o, p = some ⟨b, o, none⟩ ∧ ∀ j (h : j < l.length), V.cell? ⟨b, o + j * 1, none⟩ = some (strV l[j]) := by
  obtain ⟨b, o, hp, _, hc⟩ := hr.at hi
  exact ⟨b, o, hp, fun j h => cells_head (hc j h)⟩

set_option maxRecDepth 20000 in
theorem ParseR_c (s : List UInt8) (hs : s.length ≤ 1000) (w : World) : Calls Tryd.prog 15 #[strV s] w fun e w' => e = .returned (.tuple #[(parseR s).1.val, .int .i64 (parseR s).2]) ∧ Below w.heap.size w w' := by
  refine calls_of_M (S := sg 131) (sgOk _) (args := [strV s]) (.s .p (.s .p (.s .p (.c .p (.c .p (.c (.s .p (.b (.l (.s .p (.c (.b (.c .p (.s .p (.c .p .p)))) .p))))) .p)))))) Tryd.func15 rfl rfl (Nat.le_of_ble_eq_true rfl) rfl ?_
  have hb0 : Below w.heap.size w (w.alloc (.cells zeroM.val.cells 30)) := (Below.refl _ _).alloc (Nat.le_refl _) _
  have f0 := hnew w (.cells zeroM.val.cells 30)
  refine Calls.mono (words_c s hs _) ?_
  rintro e W1 ⟨p, cap, rfl, hrow, hcap, hb1⟩
  have hw1 := hb0.trans (hb1.mono hb0.size)
  have g1 := block_below hb1 f0
  have hsz : w.heap.size < W1.heap.size := hlt g1
  have hshort : ∀ x ∈ sp [] s, x.length ≤ 1000000000 := fun x hx => by have := sp_short s [] x hx; simp at this; omega
  have ps0 : PS W1 zeroM (W1.alloc (.cells zeroM.val.cells 30)) := ⟨hnew _ _, (Below.refl _ _).alloc (Nat.le_refl _) _⟩
  refine ⟨Option Addr × Nat × List UInt8 × List (List UInt8) × UInt8, fun t => ⟨[(0, strV s), (2, .pointer (some ⟨w.heap.size, 0, none⟩)), (4, .slice t.1 (t.2.2.1 :: t.2.2.2.1).length t.2.1), (5, .pointer (some ⟨W1.heap.size, 0, none⟩))], []⟩,
    fun t V => SlR strE W1 t.1 (t.2.2.1 :: t.2.2.2.1) ∧ (∀ x ∈ t.2.2.1 :: t.2.2.2.1, x.length ≤ 1000000000) ∧ PS W1 { zeroM with kind := t.2.2.2.2 } V ∧ (t.2.2.1 :: t.2.2.2.1).length ≤ 2000 ∧ candR (sp [] s) = go1 t.2.2.2.1 { zeroM with kind := kfold t.2.2.1 12 t.2.2.2.2 }, ?_, ?_⟩
  · obtain ⟨x, r, hl⟩ : ∃ x r, sp [] s = x :: r := by
      cases hh : sp [] s with
      | nil => exact absurd hh (sp_ne s [])
      | cons x r => exact ⟨x, r, rfl⟩
    rw [hl] at hrow hcap hshort ⊢
    have hlen : (x :: r).length ≤ 2000 := by rw [← hl]; have := sp_len s []; omega
    obtain ⟨b, o, hp, hc⟩ := wv (hrow.below ps0.bel) (i := 0) (by simp)
    subst hp
    refine ⟨0, rfl, by simp, ?_⟩
    refine ⟨_, hc 0 (by simp), ?_⟩
    refine ⟨_, fun w => eql_str _ _ x [107, 105, 110, 100] w, ?_⟩
    refine And.intro (fun h1 => ?_) (fun h1 => ?_)
    · have h1 : x = [107, 105, 110, 100] := of_decide_eq_true h1
      refine And.intro (fun h2 => ?_) (fun h2 => ?_)
      · have h2 : (1 : Int) < ((x :: r).length : Nat) := of_decide_eq_true h2
        obtain ⟨y, r', rfl⟩ : ∃ y r', r = y :: r' := by
          cases r with
          | nil => simp at h2
          | cons y r' => exact ⟨y, r', rfl⟩
        refine ⟨1, rfl, by simp, ?_⟩
        refine ⟨_, hc 1 (by simp), ?_⟩
        refine Calls.mono (valueR_c y (hshort y (by simp)) _) ?_
        rintro e _ ⟨rfl, rfl⟩
        refine ps0.set (ttOk.get 5 _ rfl) rfl (o := 0) (by decide) rfl rfl { zeroM with kind := valR y } rfl fun V' ps' => ?_
        refine ⟨1, rfl, by simp, ?_⟩
        have hsub := hrow.sub (cap := cap) (lo := 1) (hi := (x :: y :: r').length) (by simp) (Nat.le_refl _) hcap
        have hd : ((x :: y :: r').drop 1).take ((x :: y :: r').length - 1) = y :: r' := by simp
        rw [hd] at hsub
        refine ⟨(cutBase (some ⟨b, o, none⟩) cap 1 1, cap - 1, y, r', valR y), ⟨.cons rfl (.cons rfl (.cons ?_ (.cons rfl .nil))), rfl⟩, hsub, fun z hz => hshort z (List.mem_cons_of_mem _ hz), ps', by simp at hlen ⊢; omega, ?_⟩
        · show _ = some (Value.slice (cutBase (some ⟨b, o, none⟩) cap 1 1) (y :: r').length (cap - 1))
          rfl
        · rw [h1]; exact cand_kind y r'
      · have h2 : ¬ (1 : Int) < ((x :: r).length : Nat) := of_decide_eq_false h2
        obtain rfl : r = [] := by
          cases r with
          | nil => rfl
          | cons y r' => exact absurd (show (1 : Int) < ((x :: y :: r').length : Nat) by simp; omega) h2
        refine ⟨(_, cap, x, [], 0), ⟨.cons rfl (.cons rfl (.cons rfl (.cons rfl .nil))), rfl⟩, hrow, hshort, ps0, hlen, ?_⟩
        rw [h1]; rfl
    · have h1 : ¬ x = [107, 105, 110, 100] := of_decide_eq_false h1
      refine And.intro (fun h => by cases h) (fun _ => ?_)
      exact ⟨(_, cap, x, r, 0), ⟨.cons rfl (.cons rfl (.cons rfl (.cons rfl .nil))), rfl⟩, hrow, hshort, ps0, hlen, cand_name r h1⟩
  clear hrow hcap hshort ps0
  rintro ⟨p, cap, x, r, k⟩ V ⟨hrow, hshort, ps, hlen, hcand⟩
  dsimp only at hrow hshort ps hlen hcand
  refine ⟨Unit, fun _ => ⟨[(0, strV s), (2, .pointer (some ⟨w.heap.size, 0, none⟩)), (4, .slice p (x :: r).length cap), (5, .pointer (some ⟨W1.heap.size, 0, none⟩))], []⟩,
    fun _ V => PS W1 { zeroM with kind := kfold x 12 k } V, ?_, ?_⟩
  · refine ⟨Nat, fun n => ⟨[(0, strV s), (2, .pointer (some ⟨w.heap.size, 0, none⟩)), (4, .slice p (x :: r).length cap), (5, .pointer (some ⟨W1.heap.size, 0, none⟩)), (6, .int .i64 (n : Nat))], []⟩, fun n V => n ≤ 12 ∧ PS W1 { zeroM with kind := kfold x n k } V, fun n => 12 - n, 0,
      ⟨.cons rfl (.cons rfl (.cons rfl (.cons rfl (.cons rfl .nil)))), rfl⟩, ⟨by decide, ps⟩, ?_⟩
    clear ps V
    rintro n V ⟨hn, ps⟩
    refine Calls.mono (NamesR_c V) ?_
    rintro e V1 ⟨rfl, hV1⟩
    have hbV : Below V.heap.size V V1 := by rw [hV1]; exact (Below.refl _ _).alloc (Nat.le_refl _) _
    have ps1 := ps.below hbV
    refine And.intro (fun h => ?_) (fun h => ?_)
    · have h : (n : Int) < 12 := of_decide_eq_true h
      refine DrawE.ord [] [0, 1, 2, 4, 3, 5, 6, 7] (by kernel_rfl) ?_
      have ps1d : PS W1 { zeroM with kind := kfold x n k } V1.drew := ps1.below (Below.refl _ _).drew
      obtain ⟨b, o, hp, hc⟩ := wv (hrow.below ps1d.bel) (i := 0) (by simp)
      subst hp
      refine ⟨0, rfl, by simp, ?_⟩
      refine ⟨_, hc 0 (by simp), ?_⟩
      refine Calls.mono (NamesR_c V1.drew) ?_
      rintro e V2 ⟨rfl, hV2⟩
      have hb2 : Below V1.drew.heap.size V1.drew V2 := by rw [hV2]; exact (Below.refl _ _).alloc (Nat.le_refl _) _
      refine ⟨hb2, ?_⟩
      have ps2 := ps1d.below hb2
      refine ⟨n, rfl, by omega, ?_⟩
      refine ⟨_, names_at (by rw [hV2]; exact Below.refl _ _) (show n < 12 by omega), ?_⟩
      refine ⟨_, fun w => eql_str _ _ x (namesR.getD n []) w, ?_⟩
      refine And.intro (fun h1 => ?_) (fun h1 => ?_)
      · have h1 : x = namesR.getD n [] := of_decide_eq_true h1
        have ek : kfold x (n + 1) k = UInt8.ofNat (n + 1) := by show (if _ then _ else _) = _; rw [if_pos h1]
        refine ⟨((n + 1 : Nat) : Int), (wrap_i64 (by omega)).trans (by omega), ?_⟩
        refine ⟨_, wrap_u8_nat _, ?_⟩
        refine ps2.set (ttOk.get 5 _ rfl) rfl (o := 0) (by decide) rfl rfl { zeroM with kind := kfold x (n + 1) k } (by rw [ek]; rfl) fun V' ps' => ?_
        refine ⟨((n + 1 : Nat) : Int), (wrap_i64 (by omega)).trans (by omega), ?_⟩
        exact ⟨n + 1, ⟨.cons rfl (.cons rfl (.cons rfl (.cons rfl (.cons rfl .nil)))), rfl⟩, ⟨by omega, ps'⟩, by dsimp only; omega⟩
      · have h1 : ¬ x = namesR.getD n [] := of_decide_eq_false h1
        have ek : kfold x (n + 1) k = kfold x n k := by show (if _ then _ else _) = _; rw [if_neg h1]
        refine ⟨((n + 1 : Nat) : Int), (wrap_i64 (by omega)).trans (by omega), ?_⟩
        exact ⟨n + 1, ⟨.cons rfl (.cons rfl (.cons rfl (.cons rfl (.cons rfl .nil)))), rfl⟩, ⟨by omega, by rw [ek]; exact ps2⟩, by dsimp only; omega⟩
    · have h : ¬ (n : Int) < 12 := of_decide_eq_false h
      have : n = 12 := by omega
      subst this
      exact ⟨(), ⟨.cons rfl (.cons rfl (.cons rfl (.cons rfl .nil))), rfl⟩, ps1⟩
  clear ps V
  rintro _ V ps
  obtain ⟨l, hlE⟩ : ∃ l, l = x :: r := ⟨_, rfl⟩
  have hcand2 : candR (sp [] s) = Rest l 1 { zeroM with kind := kfold x 12 k } := by rw [hcand, hlE]; rfl
  rw [← hlE] at hrow hshort hlen ⊢
  have h1l : 1 ≤ l.length := by rw [hlE]; simp
  refine ⟨Unit, fun _ => ⟨[(0, strV s), (2, .pointer (some ⟨w.heap.size, 0, none⟩)), (5, .pointer (some ⟨W1.heap.size, 0, none⟩))], []⟩, fun _ V => PS W1 (candR (sp [] s)) V, ?_, ?_⟩
  · refine ⟨Nat × Msg, fun t => ⟨[(0, strV s), (2, .pointer (some ⟨w.heap.size, 0, none⟩)), (4, .slice p l.length cap), (5, .pointer (some ⟨W1.heap.size, 0, none⟩)), (7, .int .i64 (t.1 : Nat))], []⟩, fun t V => 1 ≤ t.1 ∧ t.1 ≤ l.length ∧ PS W1 t.2 V ∧ candR (sp [] s) = Rest l t.1 t.2, fun t => l.length - t.1, (1, { zeroM with kind := kfold x 12 k }),
      ⟨.cons rfl (.cons rfl (.cons rfl (.cons rfl (.cons rfl .nil)))), rfl⟩, ⟨Nat.le_refl _, h1l, ps, hcand2⟩, ?_⟩
    clear ps V
    rintro ⟨i, m⟩ V ⟨hi1, hil, ps, hc0⟩
    dsimp only at hi1 hil ps hc0
    refine And.intro (fun h => ?_) (fun h => ?_)
    · have h : (i : Int) < (l.length : Nat) := of_decide_eq_true h
      have hi : i < l.length := by omega
      refine ⟨Msg, fun _ => ⟨[(0, strV s), (2, .pointer (some ⟨w.heap.size, 0, none⟩)), (4, .slice p l.length cap), (5, .pointer (some ⟨W1.heap.size, 0, none⟩)), (7, .int .i64 (i : Nat))], []⟩, fun m' V => PS W1 m' V ∧ candR (sp [] s) = goR (l.drop (i + 1)) m', ?_, ?_⟩
      · refine ⟨Unit, fun _ => ⟨[(0, strV s), (2, .pointer (some ⟨w.heap.size, 0, none⟩)), (4, .slice p l.length cap), (5, .pointer (some ⟨W1.heap.size, 0, none⟩)), (7, .int .i64 (i : Nat)), (8, strV l[i])], []⟩, fun _ V => PS W1 m V, ?_, ?_⟩
        · obtain ⟨b, o, hp, hc⟩ := wv (hrow.below ps.bel) hi
          subst hp
          refine ⟨i, rfl, hi, ?_⟩
          refine ⟨_, hc i hi, ?_⟩
          exact ⟨(), ⟨.cons rfl (.cons rfl (.cons rfl (.cons rfl (.cons rfl (.cons rfl .nil))))), rfl⟩, ps⟩
        clear ps V
        rintro _ V ps
        refine ⟨Unit, fun _ => ⟨[(0, strV s), (2, .pointer (some ⟨w.heap.size, 0, none⟩)), (4, .slice p l.length cap), (5, .pointer (some ⟨W1.heap.size, 0, none⟩)), (7, .int .i64 (i : Nat)), (8, strV l[i]), (9, u8 (nxR (l.drop (i + 1))))], []⟩, fun _ V => PS W1 m V, ?_, ?_⟩
        · refine ⟨((i + 1 : Nat) : Int), (wrap_i64 (by omega)).trans (by omega), ?_⟩
          refine And.intro (fun h2 => ?_) (fun h2 => ?_)
          · have h2 : ((i + 1 : Nat) : Int) < (l.length : Nat) := of_decide_eq_true h2
            have hi2 : i + 1 < l.length := by omega
            refine ⟨((i + 1 : Nat) : Int), (wrap_i64 (by omega)).trans (by omega), ?_⟩
            obtain ⟨b, o, hp, hc⟩ := wv (hrow.below ps.bel) hi
            subst hp
            refine ⟨i + 1, rfl, hi2, ?_⟩
            refine ⟨_, hc (i + 1) hi2, ?_⟩
            refine Calls.mono (valueR_c l[i + 1] (hshort _ (List.getElem_mem _)) _) ?_
            rintro e _ ⟨rfl, rfl⟩
            have e1 : nxR (l.drop (i + 1)) = valR l[i + 1] := by rw [drop_at hi2]; rfl
            rw [e1]
            exact ⟨(), ⟨.cons rfl (.cons rfl (.cons rfl (.cons rfl (.cons rfl (.cons rfl (.cons rfl .nil)))))), rfl⟩, ps⟩
          · have h2 : ¬ ((i + 1 : Nat) : Int) < (l.length : Nat) := of_decide_eq_false h2
            have e1 : nxR (l.drop (i + 1)) = 0 := by rw [List.drop_eq_nil_of_le (by omega)]; rfl
            rw [e1]
            exact ⟨(), ⟨.cons rfl (.cons rfl (.cons rfl (.cons rfl (.cons rfl (.cons rfl (.cons rfl .nil)))))), rfl⟩, ps⟩
        clear ps V
        rintro _ V ps
        have fin : ∀ (m' : Msg) (X : World), PS W1 m' X → (i = 1 → m' = { m with from_ := valR l[i], «to» := nxR (l.drop (i + 1)) }) → (i ≠ 1 → m' = stepR l[i] (l.drop (i + 1)) m) → candR (sp [] s) = goR (l.drop (i + 1)) m' := by
          intro m' X _ ha hb
          rw [hc0]
          unfold Rest
          by_cases h1 : i = 1
          · have e : l.drop 1 = l[i] :: l.drop (i + 1) := by rw [← drop_at hi, h1]
            rw [if_pos h1, e, ha h1]; rfl
          · rw [if_neg h1, drop_at hi, hb h1]; rfl
        refine And.intro (fun h2 => ?_) (fun h2 => ?_)
        · have h2 : (i : Int) = 1 := of_decide_eq_true h2
          refine Calls.mono (valueR_c l[i] (hshort _ (List.getElem_mem _)) _) ?_
          rintro e _ ⟨rfl, rfl⟩
          refine ps.set (ttOk.get 5 _ rfl) rfl (o := 1) (by decide) rfl rfl { m with from_ := valR l[i] } rfl fun V1 ps1 => ?_
          refine ps1.set (ttOk.get 5 _ rfl) rfl (o := 2) (by decide) rfl rfl { m with from_ := valR l[i], «to» := nxR (l.drop (i + 1)) } rfl fun V2 ps2 => ?_
          exact ⟨_, ⟨.cons rfl (.cons rfl (.cons rfl (.cons rfl (.cons rfl .nil)))), rfl⟩, ps2, fin _ _ ps2 (fun _ => rfl) (fun h => absurd (show i = 1 by omega) h)⟩
        have hne : i ≠ 1 := fun e => absurd (show (i : Int) = 1 by omega) (of_decide_eq_false h2)
        refine ⟨_, fun w => eql_str _ _ l[i] [108, 105, 110, 101] w, ?_⟩
        refine And.intro (fun g => ?_) (fun g => ?_)
        · have g : l[i] = [108, 105, 110, 101] := of_decide_eq_true g
          refine ps.set (ttOk.get 5 _ rfl) rfl (o := 3) (by decide) rfl rfl { m with line := nxR (l.drop (i + 1)) } rfl fun V1 ps1 => ?_
          exact ⟨_, ⟨.cons rfl (.cons rfl (.cons rfl (.cons rfl (.cons rfl .nil)))), rfl⟩, ps1, fin _ _ ps1 (fun h => absurd h hne) (fun _ => by unfold stepR; rw [if_pos g])⟩
        have g1 : ¬ l[i] = [108, 105, 110, 101] := of_decide_eq_false g
        refine ⟨_, fun w => eql_str _ _ l[i] [97, 115, 107, 101, 114] w, ?_⟩
        refine And.intro (fun g => ?_) (fun g => ?_)
        · have g : l[i] = [97, 115, 107, 101, 114] := of_decide_eq_true g
          refine ps.set (ttOk.get 5 _ rfl) rfl (o := 4) (by decide) rfl rfl { m with asker := nxR (l.drop (i + 1)) } rfl fun V1 ps1 => ?_
          exact ⟨_, ⟨.cons rfl (.cons rfl (.cons rfl (.cons rfl (.cons rfl .nil)))), rfl⟩, ps1, fin _ _ ps1 (fun h => absurd h hne) (fun _ => by unfold stepR; rw [if_neg g1]; rw [if_pos g])⟩
        have g2 : ¬ l[i] = [97, 115, 107, 101, 114] := of_decide_eq_false g
        refine ⟨_, fun w => eql_str _ _ l[i] [97, 99, 107, 115] w, ?_⟩
        refine And.intro (fun g => ?_) (fun g => ?_)
        · have g : l[i] = [97, 99, 107, 115] := of_decide_eq_true g
          refine ps.set (ttOk.get 5 _ rfl) rfl (o := 5) (by decide) rfl rfl { m with acks := nxR (l.drop (i + 1)) } rfl fun V1 ps1 => ?_
          exact ⟨_, ⟨.cons rfl (.cons rfl (.cons rfl (.cons rfl (.cons rfl .nil)))), rfl⟩, ps1, fin _ _ ps1 (fun h => absurd h hne) (fun _ => by unfold stepR; rw [if_neg g1]; rw [if_neg g2]; rw [if_pos g])⟩
        have g3 : ¬ l[i] = [97, 99, 107, 115] := of_decide_eq_false g
        refine ⟨_, fun w => eql_str _ _ l[i] [97, 108, 111, 110, 101] w, ?_⟩
        refine And.intro (fun g => ?_) (fun g => ?_)
        · have g : l[i] = [97, 108, 111, 110, 101] := of_decide_eq_true g
          refine ps.set (ttOk.get 4 _ rfl) rfl (o := 6) (by decide) rfl rfl { m with alone := true } rfl fun V1 ps1 => ?_
          exact ⟨_, ⟨.cons rfl (.cons rfl (.cons rfl (.cons rfl (.cons rfl .nil)))), rfl⟩, ps1, fin _ _ ps1 (fun h => absurd h hne) (fun _ => by unfold stepR; rw [if_neg g1]; rw [if_neg g2]; rw [if_neg g3]; rw [if_pos g])⟩
        have g4 : ¬ l[i] = [97, 108, 111, 110, 101] := of_decide_eq_false g
        refine ⟨_, fun w => eql_str _ _ l[i] [100, 97, 116, 97] w, ?_⟩
        refine And.intro (fun g => ?_) (fun g => ?_)
        · have g : l[i] = [100, 97, 116, 97] := of_decide_eq_true g
          refine ⟨((i + 4 : Nat) : Int), (wrap_i64 (by omega)).trans (by omega), ?_⟩
          refine And.intro (fun h3 => ?_) (fun h3 => ?_)
          · have h3 : ((i + 4 : Nat) : Int) < (l.length : Nat) := of_decide_eq_true h3
            have hd4 : l.drop (i + 1) = l[i + 1] :: l[i + 2] :: l[i + 3] :: l[i + 4] :: l.drop (i + 5) := by
              rw [drop_at (show i + 1 < l.length by omega), drop_at (show i + 2 < l.length by omega), drop_at (show i + 3 < l.length by omega), drop_at (show i + 4 < l.length by omega)]
            have psd : PS W1 m V.drew := ps.below (Below.refl _ _).drew
            obtain ⟨b, o, hp, hc⟩ := wv (hrow.below psd.bel) hi
            subst hp
            refine DrawE.ord [21] [0, 1, 2, 3, 4, 5, 7, 8, 9, 10, 11, 13, 14, 15, 16, 17, 6, 12, 18, 19, 20, 21] (by kernel_rfl) ?_
            refine ⟨((i + 2 : Nat) : Int), (wrap_i64 (by omega)).trans (by omega), ?_⟩
            refine ⟨i + 2, rfl, by omega, ?_⟩
            refine ⟨_, hc (i + 2) (by omega), ?_⟩
            refine ⟨((i + 3 : Nat) : Int), (wrap_i64 (by omega)).trans (by omega), ?_⟩
            refine ⟨i + 3, rfl, by omega, ?_⟩
            refine ⟨_, hc (i + 3) (by omega), ?_⟩
            refine ⟨((i + 4 : Nat) : Int), (wrap_i64 (by omega)).trans (by omega), ?_⟩
            refine ⟨i + 4, rfl, by omega, ?_⟩
            refine ⟨_, hc (i + 4) (by omega), ?_⟩
            refine Calls.mono (valueR_c l[i + 2] (hshort _ (List.getElem_mem _)) _) ?_
            rintro e _ ⟨rfl, rfl⟩
            refine ⟨Below.refl _ _, ?_⟩
            refine Calls.mono (valueR_c l[i + 3] (hshort _ (List.getElem_mem _)) _) ?_
            rintro e _ ⟨rfl, rfl⟩
            refine ⟨Below.refl _ _, ?_⟩
            refine Calls.mono (valueR_c l[i + 4] (hshort _ (List.getElem_mem _)) _) ?_
            rintro e _ ⟨rfl, rfl⟩
            refine ⟨Below.refl _ _, ?_⟩
            obtain ⟨n0, hn0⟩ : ∃ n0, n0 = nxR (l.drop (i + 1)) := ⟨_, rfl⟩
            rw [← hn0]
            refine ⟨dcells n0 (valR l[i + 2]) (valR l[i + 3]) (valR l[i + 4]), rfl, ?_⟩
            refine psd.setD _ _ _ _ fun V1 ps1 => ?_
            refine ⟨_, ⟨.cons rfl (.cons rfl (.cons rfl (.cons rfl (.cons rfl .nil)))), rfl⟩, ps1, fin _ _ ps1 (fun h => absurd h hne) (fun _ => ?_)⟩
            unfold stepR
            rw [if_neg g1, if_neg g2, if_neg g3, if_neg g4, if_pos g, hn0, hd4]; rfl
          · have h3 : ¬ ((i + 4 : Nat) : Int) < (l.length : Nat) := of_decide_eq_false h3
            refine ⟨m, ⟨.cons rfl (.cons rfl (.cons rfl (.cons rfl (.cons rfl .nil)))), rfl⟩, ps, fin _ _ ps (fun h => absurd h hne) (fun _ => ?_)⟩
            unfold stepR
            rw [if_neg g1, if_neg g2, if_neg g3, if_neg g4, if_pos g]
            have hlen3 : (l.drop (i + 1)).length ≤ 3 := by rw [List.length_drop]; omega
            split
            · rename_i he; rw [he] at hlen3; simp at hlen3
            · rfl
        have g5 : ¬ l[i] = [100, 97, 116, 97] := of_decide_eq_false g
        refine And.intro (fun h => by cases h) (fun _ => ?_)
        refine ⟨m, ⟨.cons rfl (.cons rfl (.cons rfl (.cons rfl (.cons rfl .nil)))), rfl⟩, ps, fin _ _ ps (fun h => absurd h hne) (fun _ => ?_)⟩
        unfold stepR
        rw [if_neg g1, if_neg g2, if_neg g3, if_neg g4, if_neg g5]
      clear ps V
      rintro m' V ⟨ps, hc⟩
      refine ⟨((i + 1 : Nat) : Int), (wrap_i64 (by omega)).trans (by omega), ?_⟩
      refine ⟨(i + 1, m'), ⟨.cons rfl (.cons rfl (.cons rfl (.cons rfl (.cons rfl .nil)))), rfl⟩, ⟨by omega, hi, ps, ?_⟩, by dsimp only; omega⟩
      rw [hc]; unfold Rest; rw [if_neg (by dsimp only; omega)]
    · have h : ¬ (i : Int) < (l.length : Nat) := of_decide_eq_false h
      have e1 : candR (sp [] s) = m := by rw [hc0]; exact rest_end (by omega)
      rw [e1]
      exact ⟨(), ⟨.cons rfl (.cons rfl (.cons rfl .nil)), rfl⟩, ps⟩
  clear ps V
  rintro _ V ps
  refine ⟨(candR (sp [] s)).enc, rfl, cells_block ps.box, hlt ps.box, ?_⟩
  refine Calls.mono (TextR_c (candR (sp [] s)) V) ?_
  rintro e V1 ⟨rfl, hb2⟩
  have ps1 := ps.below hb2
  have gV := block_below ps1.bel g1
  have hwV := hw1.trans (ps1.bel.mono hw1.size)
  refine ⟨_, fun w => neq_str _ _ (textOf (candR (sp [] s))) s w, ?_⟩
  refine And.intro (fun h => ?_) (fun h => ?_)
  · have h : ¬ textOf (candR (sp [] s)) = s := of_decide_eq_false (not_t0 h)
    have hp : parseR s = (zeroM, 170) := by unfold parseR; rw [if_neg h]
    refine ⟨zeroM.enc, rfl, ?_⟩
    refine store_box (v := zeroM.val) (ttOk.get 30 _ rfl) gV (by rfl) rfl (by rfl) ?_
    refine ⟨zeroM.enc, rfl, cells_block (setRow_new gV), ?_⟩
    rw [hp]
    exact And.intro rfl (below_setRow hwV (Nat.le_refl _) _)
  · have h : textOf (candR (sp [] s)) = s := of_decide_eq_true (not_f0 h)
    have hp : parseR s = (candR (sp [] s), 0) := by unfold parseR; rw [if_pos h]
    refine ⟨(candR (sp [] s)).enc, rfl, cells_block ps1.box, hlt ps1.box, ?_⟩
    refine store_box (v := (candR (sp [] s)).val) (ttOk.get 30 _ rfl) gV (by rfl) rfl (by rfl) ?_
    refine ⟨(candR (sp [] s)).enc, rfl, cells_block (setRow_new gV), ?_⟩
    rw [hp]
    exact And.intro rfl (below_setRow hwV (Nat.le_refl _) _)
end Go.Proofs.YtkekidalckflhaaDoor
