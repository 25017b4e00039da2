/- Contracts: the iterator over permutations. Contracts: a clone of ints. Ranges over functions, each round knowing the loop's own record. Contracts: All. Contracts: pick; the law's own worlds. Contracts: the law's own worlds. Contracts: a turn's index. Contracts: a message turned. Contracts: turn.Msg. Contracts: marks turned. Contracts: a view of kind 1 turned. Contracts: turn.View at kind 1. Contracts: turn.World refuses. Contracts: is a system small enough?. Law22: '==' at the parts of a system. Law22: SameStores, SameCore, SameCores, SameCaches, SameSys. Law22: SameCore, SameCores, SameCaches, SameSys. Contracts: turn.Sys and turn.Msg refuse. Plain: the permutations that suit are a group. Plain: what keeps a program is closed. Plain: what the law's own worlds answer. Contracts: the law's own watch (awake). Contracts: check.inverse; a clone of instructions. Contracts: a condition turned. Contracts: the law's world in its box; what pick yields; small facts of the group. -/
import Derived.Test.YthgmcegmgjoafaaGreatDoorY3
import Derived.Test.YthgmcegmgjoafaaGreatDoorY2
set_option linter.unusedSimpArgs false
set_option linter.unusedVariables false
namespace Go.Proofs.YthgmcegmgjoafaaGreatDoor
open Go.Vc Go.RowKit Go.Sei
theorem permutations_c {n : Int} {w : World} : Calls Tryz.prog 59 #[i64 n] w fun e w' => e = .returned (.func (.func 106) #[] #[.pointer (some ⟨w.heap.size, 0, none⟩)]) ∧ w' = w.alloc (.cells #[i64 n] 3) := by
  refine calls_of_E (S := sg 4) (sgOk _) (args := [i64 n]) Tryz.func59 rfl rfl (Nat.le_of_ble_eq_true rfl) rfl ?_
  exact ⟨rfl, rfl⟩
def StP (n0 : Nat) (pre : List (List Int)) (vs : List Value) (W : World) : Prop := ∃ l b, pre.getLast? = some l ∧ vs = [.slice (some ⟨b, 0, none⟩) l.length l.length] ∧ W.heap[b]? = some (.cells (l.map i64).toArray 3 (0, 0)) ∧ n0 ≤ b
def fillM (n k : Nat) : List Int := iotaL k ++ List.replicate (n - k) 0
theorem iota_len (n : Nat) : (iotaL n).length = n := by unfold iotaL; simp
theorem fillM_succ {n k : Nat} (h : k < n) : (fillM n k).set k (k : Int) = fillM n (k + 1) := by
  have e1 : n - k = (n - (k + 1)) + 1 := by omega
  unfold fillM
  rw [e1, List.replicate_succ]
  rw [List.set_append_right _ _ (by rw [iota_len]; omega), iota_len, Nat.sub_self, List.set_cons_zero]
  unfold iotaL
  rw [List.range_succ, List.map_append, List.append_assoc]; rfl
theorem perms1_c {bx n : Nat} {W0 : World} (hbx : W0.heap[bx]? = some (.cells #[i64 n] 3 (0, 0))) (hn : 1 ≤ n) (hn4 : n ≤ 4) :
    IterO Tryz.prog 106 [.pointer (some ⟨bx, 0, none⟩)] (permsL n) W0 (fun k => k = bx) (fun _ => False) (StP W0.heap.size) := by
  obtain ⟨hch, hlen, rest0, hhd⟩ := perms_ok hn hn4
  intro yl Fp J Jx W hsz hrd hrf hJ hJx hy h0
  have hbW : W.heap[bx]? = some (.cells #[i64 n] 3 (0, 0)) := (hrd bx (.inl rfl)).trans hbx
  have hbs : bx < W0.heap.size := hlt hbx
  refine calls_of_E (S := sg 24) (sgOk _) (args := [.func (.yield yl) #[] #[], .pointer (some ⟨bx, 0, none⟩)]) Tryz.func106 rfl rfl (Nat.le_of_ble_eq_true rfl) rfl ?_
  let Inv : List (List Int) → World → Prop := fun pre X => J pre X ∧ W.heap.size ≤ X.heap.size
  have stepO : ∀ (L : Nat) pre X Y, Inv pre X → W.heap.size ≤ L → ¬ Fp X L → X.grownBy Y (some L) → Inv pre Y ∧ ∀ k, Fp Y k → Fp X k := fun L pre X Y ⟨h1, h2⟩ hL hf hg => by
    have hst : StepO W.heap.size (fun _ => False) Fp X Y := ⟨hg.os, hg.tape, hg.output, hg.size, fun k hk hfk => hg.block k hk (fun e => by
      have e : L = k := (by simpa using e : k = L).symm
      subst e
      rcases hfk with hfk | hfk
      · omega
      · exact hf hfk)⟩
    obtain ⟨j1, j2⟩ := hJ.step _ _ _ h1 hst
    exact ⟨⟨j1, Nat.le_trans h2 hg.size⟩, j2⟩
  have I0 : Inv [] W := ⟨h0, Nat.le_refl _⟩
  obtain ⟨L, hL⟩ : ∃ L, L = W.heap.size := ⟨_, rfl⟩
  have hfL : ¬ Fp W L := fun h => by have := (hJ.lt _ _ _ h0 h).1; omega
  refine ⟨_, cells_at (cells_block hbW) (i := 0) rfl, ?_⟩
  refine make_zero Tryz.underlying46 (ttOk.get 3 _ rfl) rfl rfl (by decide) _ (by show 8 * _ ≤ _; omega) (by omega) fun V fV hbV sV => ?_
  obtain ⟨IV, qV⟩ := stepO L [] W V I0 (by omega) hfL (grown_of_below hbV)
  rw [← hL] at fV
  have p1 : some (Value.slice (some ⟨W.heap.size, 0, none⟩) n n) = some (Value.slice (some ⟨L, 0, none⟩) n n) := by rw [hL]
  refine ⟨Nat, fun k => ⟨[(0, .func (.yield yl) #[] #[]), (3, .slice (some ⟨L, 0, none⟩) n n), (8, i64 n), (9, i64 (k : Nat))], []⟩,
    fun k X => k ≤ n ∧ Inv [] X ∧ X.heap[L]? = some (.cells ((fillM n k).map i64).toArray 3 (0, 0)) ∧ ¬ Fp X L, fun k => n - k, 0,
    ⟨.cons rfl (.cons p1 (.cons rfl (.cons rfl .nil))), rfl⟩, ⟨Nat.zero_le _, IV, by rw [fV]; congr 2; exact congrArg List.toArray (zrep_ints _), fun h => hfL (qV _ h)⟩, ?_⟩
  clear IV qV fV hbV sV p1
  rintro k X ⟨hk, hI, hX, hfX⟩
  dsimp only at hk hX ⊢
  refine And.intro (fun hc => ?_) (fun hc => ?_)
  · have hc : (k : Int) < (n : Int) := of_decide_eq_true hc
    have hkn : k < n := by omega
    refine ⟨k, rfl, hkn, ?_⟩
    refine store_one (ttOk.get 3 _ rfl) hX (o := 0 + k * 1) (v := i64 (k : Nat)) rfl rfl (by unfold fillM; simp [iota_len]; omega) rfl fun Y fY gY sY => ?_
    rw [← List.map_set, Nat.mul_one, Nat.zero_add, fillM_succ hkn] at fY
    obtain ⟨IY, qY⟩ := stepO L [] X Y hI (by omega) hfX gY
    refine ⟨_, (wrap_i64 (by omega)).trans rfl, ?_⟩
    exact ⟨k + 1, ⟨.cons rfl (.cons rfl (.cons rfl (.cons rfl .nil))), rfl⟩, ⟨hkn, IY, fY, fun h => hfX (qY _ h)⟩, by show n - (k + 1) < n - k; omega⟩
  · have hc : ¬ (k : Int) < (n : Int) := of_decide_eq_false hc
    obtain rfl : k = n := by omega
    have e0 : fillM k k = iotaL k := by unfold fillM; simp
    rw [e0] at hX
    refine ⟨List (List Int) × List Int, fun q => ⟨[(0, .func (.yield yl) #[] #[]), (3, .slice (some ⟨L, 0, none⟩) k k)], []⟩,
      fun q X => Inv q.1 X ∧ (∃ rest, permsL k = q.1 ++ q.2 :: rest) ∧ X.heap[L]? = some (.cells (q.2.map i64).toArray 3 (0, 0)) ∧ ¬ Fp X L, fun q => (permsL k).length - q.1.length, ([], iotaL k),
      ⟨.cons rfl (.cons rfl .nil), rfl⟩, ⟨hI, ⟨rest0, hhd⟩, hX, hfX⟩, ?_⟩
    clear hI hX hfX
    rintro ⟨pre, l⟩ X ⟨hI, ⟨rest, hxs⟩, hX, hfX⟩
    dsimp only at hI hxs hX ⊢
    have hll : l.length = k := hlen l (by rw [hxs]; simp)
    have hpre : (pre ++ [l]) <+: permsL k := ⟨rest, by rw [hxs]; simp⟩
    refine YieldR.mono (hy pre l [.slice (some ⟨L, 0, none⟩) k k] X hI.1 ⟨l, L, by simp, by rw [hll], hX, by omega⟩ hpre) ?_
    rintro v V (⟨rfl, hJV, hKV⟩ | ⟨rfl, hJV⟩)
    · refine brT ?_
      have hXs := hKV.size
      have hLX : L < X.heap.size := hlt hX
      have fV : V.heap[L]? = some (.cells (l.map i64).toArray 3 (0, 0)) := (hKV.same L hLX hfX).trans hX
      have hfV : ¬ Fp V L := fun h => by
        rcases hKV.fp L h with h3 | h3
        · exact hfX h3
        · omega
      have IV : Inv (pre ++ [l]) V := ⟨hJV, Nat.le_trans hI.2 hXs⟩
      have hadv := advance_c (cap := k) fV (by omega) (by omega) (by omega)
      rw [hll] at hadv
      refine Calls.mono hadv ?_
      rintro e Z ⟨rfl, fZ, gZ, sZ⟩
      obtain ⟨IZ, qZ⟩ := stepO L (pre ++ [l]) V Z IV (by omega) hfV gZ
      have hst := chain_step hch hxs
      refine And.intro (fun hb => ?_) (fun hb => ?_)
      · have hb : (stepL l).isSome = true := hb
        cases rest with
        | nil => rw [hst] at hb; cases hb
        | cons m rest =>
          have hst : stepL l = some m := hst
          rw [hst] at fZ
          refine ⟨(pre ++ [l], m), ⟨.cons rfl (.cons rfl .nil), rfl⟩, ⟨IZ, ⟨rest, by rw [hxs]; simp⟩, fZ, fun h => hfV (qZ _ h)⟩, ?_⟩
          show (permsL k).length - (pre ++ [l]).length < (permsL k).length - pre.length
          rw [hxs]
          simp only [List.length_append, List.length_cons, List.length_nil]
          omega
      · have hb : (stepL l).isSome = false := hb
        cases rest with
        | nil => exact ⟨⟨_, rfl⟩, .inl (by rw [hxs]; exact IZ.1)⟩
        | cons m rest =>
          have hst : stepL l = some m := hst
          rw [hst] at hb; cases hb
    · refine brF ?_
      refine brF ?_
      exact ⟨⟨_, rfl⟩, .inr ⟨_, hpre, hJV⟩⟩
end Go.Proofs.YthgmcegmgjoafaaGreatDoor
namespace Go.Proofs.YthgmcegmgjoafaaGreatDoor
open Go.Vc Go.RowKit Go.Sei
theorem equalIn_sl (d : Nat) (a : Addr) (n c : Nat) (w : World) : (Op.equalIn (d + 1) 46 (.slice (some a) n c) (.slice none 0 0)).run Tryz.prog w = .ok false w := by
  simp [Op.equalIn, run_underlying Tryz.underlying46]
theorem eql_sl (x y : Operand) (a : Addr) (n c : Nat) (w : World) : (do eqGuard .eql 46 x y (.slice (some a) n c) (.slice none 0 0); binOp .eql 46 (.slice (some a) n c) (.slice none 0 0) : Sem Value).run Tryz.prog w = .ok (.bool false) w := by
  have h : (Op.equal 46 (.slice (some a) n c) (.slice none 0 0)).run Tryz.prog w = .ok false w := equalIn_sl 9999 a n c w
  have h1 : (eqGuard .eql 46 x y (.slice (some a) n c) (.slice none 0 0)).run Tryz.prog w = .ok () w := by
    simp only [eqGuard, Bool.not_true, Bool.false_eq_true, if_false, Sem.run_pure]
  rw [Sem.run_bind, h1]
  simp only [Result.andThen_ok, binOp, Sem.run_bind, h, Sem.run_pure]
theorem Clone_int_c {b cap : Nat} {l : List Int} {w : World} (hb : w.heap[b]? = some (.cells (l.map i64).toArray 3 (0, 0))) (hn : l.length ≤ 1000000) (h1 : 1 ≤ l.length) :
    Calls Tryz.prog 64 #[.slice (some ⟨b, 0, none⟩) l.length cap] w fun e w' => ∃ k c cur, e = .returned (.slice (some ⟨k, 0, none⟩) l.length c) ∧ w'.heap[k]? = some (.cells cur 3 (0, 0)) ∧ cur.toList.take l.length = l.map i64 ∧ w.heap.size ≤ k ∧ Below w.heap.size w w' := by
  refine calls_of_E (S := sg 8) (sgOk _) (args := [.slice (some ⟨b, 0, none⟩) l.length cap]) Tryz.func64 rfl rfl (Nat.le_of_ble_eq_true rfl) rfl ?_
  refine ⟨_, fun w => eql_sl _ _ ⟨b, 0, none⟩ l.length cap w, ?_⟩
  refine brF ?_
  refine ⟨⟨by decide, by decide, rfl⟩, [], rfl, ?_⟩
  have hb0 : Below w.heap.size w (w.alloc (.cells #[] 3)) := (Below.refl _ w).alloc (Nat.le_refl _) _
  have hown : OwnS Go.Sei.intE 3 w.heap.size (w.alloc (.cells #[] 3)) (some ⟨w.heap.size, 0, none⟩) 0 [] := by
    unfold OwnS World.ownsRow
    exact ⟨rfl, .inr ⟨w.heap.size, 0, #[], rfl, Nat.le_refl _, hnew w _, Nat.le_refl _, Nat.zero_le _, rfl, rfl⟩⟩
  refine app_own (E := Go.Sei.intE) (T := 3) (B := w.heap.size) (l := []) (news := l) (cap := 0) Tryz.underlying46 (ttOk.get 3 _ rfl) rfl rfl rfl hown rfl (cells_below hb0 (by rw [ints_map]; exact cells_block hb)) hb0.size (by simp; omega) (by simp; show _ * 8 ≤ _; omega) ?_
  intro p' cap' w' ho hg hbw hp
  rcases ho.inv with ⟨_, _, h0⟩ | ⟨g, cur, rfl, hBg, hgg, _, _, _, ht⟩
  · have h0 : l = [] := h0
    rw [h0] at h1; simp at h1
  · have ht : cur.toList.take (l.length * 1) = l.flatMap Go.Sei.intE.enc := ht
    rw [Nat.mul_one, ints_map] at ht
    exact ⟨g, cap', cur, rfl, hgg, ht, hBg, hb0.trans hbw⟩
end Go.Proofs.YthgmcegmgjoafaaGreatDoor
namespace Go.Vc
open Go.RowKit
theorem rangeL {α : Type} {S : Sig} (hS : SigOk S) (hr : S.r = none) {f : Operand} {ps : Array Tmp} {assign body : Code} {E : Env} {w : World} {Q : Exit → Env → World → Prop}
    {gf : Nat} {lb : Array Value} (hg : opd E f = some (.func (.func gf) #[] lb)) (hok : calleeOk S gf = true)
    {xs : List α} {W0 : World} {Rd Ow : Nat → Prop} {St : List α → List Value → World → Prop} (hI : IterO S.P gf lb.toList xs W0 Rd Ow St) (hW0 : W0.heap.size ≤ w.heap.size) (hRd : ∀ k, Rd k ∨ Ow k → k < W0.heap.size ∧ w.heap[k]? = W0.heap[k]?)
    (hps : ∀ pre vs W, St pre vs W → vs.length = ps.size) (hpn : ∀ p ∈ ps.toList, p < S.n)
    (Fp : World → Nat → Prop) (J : List α → World → Prop) (Jx : Exit → List α → World → Prop) (hRF : ∀ k, Rd k → ¬ Fp w k)
    (hJ : IterJO w.heap.size Ow Fp J) (hJx : ∀ ex, IterJO w.heap.size Ow Fp (Jx ex)) (h0 : J [] w)
    (hround : ∀ (l : Nat) (pre : List α) (x : α) (vs : List Value) (W : World), w.heap.size ≤ l → (pre ++ [x]) <+: xs → J pre W → St (pre ++ [x]) vs W → ¬ Fp W l → (∃ lo, W.heap[l]? = some (.loop lo)) →
      wpE (sr S l) assign ⟨setL ps.toList vs E.vs, []⟩ W fun ex E1 W1 => ex = .normal ∧ Keeps Fp W W1 ∧ J pre W1 ∧
        ∀ o W2, W2 = W1.putObj l o → J pre W2 → (∀ k, Fp W2 k → Fp W1 k) → wpE (sr S l) body E1 W2 (bodyQ Fp J Jx (pre ++ [x]) W2))
    (hdone : ∀ D W, w.heap.size ≤ D → ¬ Fp W D → J xs W → W.heap[D]? = some (.deferred (some [])) → Q .normal ⟨E.vs, { target := .collected D, args := #[] } :: E.ds⟩ W)
    (hstop : ∀ D ex pre W, w.heap.size ≤ D → ¬ Fp W D → pre <+: xs → Jx ex pre W → W.heap[D]? = some (.deferred (some [])) → Q ex ⟨E.vs, { target := .collected D, args := #[] } :: E.ds⟩ W) :
    RangeE S f ps assign body E w Q := by
  intro a ha
  have hcall : ∀ args w, (callFunc gf args).run S.P w = .ok (.enter gf args) w := by
    simp only [calleeOk, Bool.and_eq_true, Nat.ble_eq, Nat.blt_eq] at hok
    exact fun args w => hS.call gf hok.1.1 hok.1.2 hok.2 args w
  refine wpIn_rangeFunc ?_
  intro fn hfn
  have hro : (FR S.r).round = none := hr
  rw [hro]
  obtain ⟨rec, hrec⟩ : ∃ rec : LoopState → Option Code → Loop, rec = fun st pe => { state := st, pending := pe, fn, tmps := a.tmps, params := ps, assign, body, defers := w.heap.size } := ⟨_, rfl⟩
  obtain ⟨W1, hW1⟩ : ∃ W1, (w.alloc (.deferred (some []))).alloc (.loop (rec .ready none)) = W1 := ⟨_, rfl⟩
  have hK0 := hnew w (.deferred (some []))
  have hK1 : W1.heap[w.heap.size]? = some (.deferred (some [])) := by rw [← hW1]; exact hold _ hK0
  have hL1 : W1.heap[w.heap.size + 1]? = some (.loop (rec .ready none)) := by
    rw [← hW1]; have := hnew (w.alloc (.deferred (some []))) (.loop (rec .ready none)); rwa [World.size_alloc] at this
  have hs1 : W1.heap.size = w.heap.size + 2 := by rw [← hW1]; simp
  have hst1 : Step w.heap.size Fp w W1 := by
    rw [← hW1]; exact .of_below (((Below.refl _ w).alloc (Nat.le_refl _) _).alloc (by simp) _)
  obtain ⟨hJ1, hF1⟩ := hJ.step _ _ _ h0 hst1.o
  have hOl : ∀ k, w.heap.size ≤ k → ¬ Ow k := fun k hk ho => by have := (hRd k (.inr ho)).1; omega
  have hFl : ∀ k, Fp W1 k → k < w.heap.size := fun k hk => (hJ.lt _ _ k h0 (hF1 k hk)).1
  refine ⟨w.heap.size + 1, [{ target := .collected w.heap.size, args := #[] }], W1, { target := .fn (.func gf) lb, args := #[.func (.yield (w.heap.size + 1)) #[] #[]] }, W1, gf,
    #[.func (.yield (w.heap.size + 1)) #[] #[]] ++ lb, W1, ?_, ?_, fun _ _ => trivial, ?_, fun h => by simp [FR] at h, ?_⟩
  · rw [← hW1, hrec]; exact run_enterLoop_outer _ _ _ _ _
  · have hg' := ha.eval hg
    simp only [resolve, hg']
    simp [go_sem]
  · simp [invoke, go_sem, hcall]
  · have hargs : #[Value.func (.yield (w.heap.size + 1)) #[] #[]] ++ lb = (Value.func (.yield (w.heap.size + 1)) #[] #[] :: lb.toList).toArray := by rw [← Array.toList_inj]; simp
    rw [hargs]
    have book : ∀ {σ : Type} {K : σ → World → Prop} (lo : Loop), IterJO w.heap.size Ow Fp K → IterJO W1.heap.size Ow Fp (fun s W => K s W ∧ W.heap[w.heap.size + 1]? = some (.loop lo) ∧ W.heap[w.heap.size]? = some (.deferred (some [])) ∧ ¬ Fp W (w.heap.size + 1) ∧ ¬ Fp W w.heap.size) := by
      intro σ K lo hK
      refine ⟨fun s A B ⟨hk, hl, hd, hf1, hf2⟩ hs => ?_, fun s A k ⟨hk, _⟩ hf => hK.lt s A k hk hf⟩
      obtain ⟨h1, h2⟩ := hK.step s A B hk (hs.mono (by omega))
      exact ⟨⟨h1, (hs.same _ (hlt hl) (.inl ⟨by omega, hOl _ (by omega)⟩)).trans hl, (hs.same _ (hlt hd) (.inl ⟨by omega, hOl _ (by omega)⟩)).trans hd, fun h => hf1 (h2 _ h), fun h => hf2 (h2 _ h)⟩, h2⟩
    have hcalls := hI (w.heap.size + 1) Fp (fun pre W => J pre W ∧ W.heap[w.heap.size + 1]? = some (.loop (rec .ready none)) ∧ W.heap[w.heap.size]? = some (.deferred (some [])) ∧ ¬ Fp W (w.heap.size + 1) ∧ ¬ Fp W w.heap.size)
      (fun pre W => ∃ ex c, ((ex = .ret ∧ c = .ret) ∨ ∃ id, ex = .exit id ∧ c = .exit id) ∧ Jx ex pre W ∧ W.heap[w.heap.size + 1]? = some (.loop (rec .done (some c))) ∧ W.heap[w.heap.size]? = some (.deferred (some [])) ∧ ¬ Fp W (w.heap.size + 1) ∧ ¬ Fp W w.heap.size)
      W1 (by omega) (fun k hk => by
        obtain ⟨h1, h2⟩ := hRd k hk
        rw [← h2]
        exact hst1.same k (by omega) (.inl (by omega))) (fun k hk hf => hRF k hk (hF1 k hf)) (book _ hJ)
      ⟨fun s A B ⟨ex, c, hc, hrest⟩ hs => by
        have := (book (rec .done (some c)) (hJx ex)).step s A B hrest hs
        exact ⟨⟨ex, c, hc, this.1⟩, this.2⟩,
       fun s A k ⟨ex, c, hc, hrest⟩ hf => (hJx ex).lt s A k hrest.1 hf⟩ ?_ ⟨hJ1, hL1, hK1, fun h => by have := hFl _ h; omega, fun h => by have := hFl _ h; omega⟩
    · refine callsIn_of (hcalls.mono ?_)
      rintro e W2 ⟨⟨v, rfl⟩, (⟨hj, hl, hk, hf1, hf2⟩ | ⟨pre, hpre, ex, c, hc, hj, hl, hk, hf1, hf2⟩)⟩
      · have hst : Step w.heap.size Fp W2 (W2.putObj (w.heap.size + 1) (.loop (rec .exhausted none))) := .put (by omega) hf1 _
        obtain ⟨hj2, hfp2⟩ := hJ.step _ _ _ hj hst.o
        refine ⟨none, _, by have := run_endLoop (P := S.P) hl (by rw [hrec]; simp); rw [hrec] at this; exact this, ?_⟩
        rw [hrec] at hj2 hfp2
        exact ⟨⟨E.vs, { target := .collected w.heap.size, args := #[] } :: E.ds⟩, ⟨ha.size, by simp [ha.defers], ha.val⟩, hdone w.heap.size _ (Nat.le_refl _) (fun h => hf2 (hfp2 _ h)) hj2 ((heap_put_old (by omega)).trans hk)⟩
      · have hst : Step w.heap.size Fp W2 (W2.putObj (w.heap.size + 1) (.loop (rec .exhausted (some c)))) := .put (by omega) hf1 _
        obtain ⟨hj2, hfp2⟩ := (hJx ex).step _ _ _ hj hst.o
        refine ⟨some c, _, by have := run_endLoop (P := S.P) hl (by rw [hrec]; simp); rw [hrec] at this; exact this, ?_⟩
        rw [hrec] at hj2 hfp2
        have hq := hstop w.heap.size ex pre _ (Nat.le_refl _) (fun h => hf2 (hfp2 _ h)) hpre hj2 ((heap_put_old (by omega)).trans hk)
        rcases hc with ⟨rfl, rfl⟩ | ⟨id, rfl, rfl⟩
        · exact wpIn_ret ⟨⟨E.vs, { target := .collected w.heap.size, args := #[] } :: E.ds⟩, ⟨ha.size, by simp [ha.defers], ha.val⟩, hq⟩
        · exact wpIn_exit ⟨⟨E.vs, { target := .collected w.heap.size, args := #[] } :: E.ds⟩, ⟨ha.size, by simp [ha.defers], ha.val⟩, hq⟩
    · -- one round
      rintro pre x vs W ⟨hj, hl, hk, hf1, hf2⟩ hst0 hpre
      have hy := run_yield (P := S.P) (args := vs.toArray) hl (by rw [hrec]; simpa using hps _ _ _ hst0)
      rw [hrec] at hy
      refine ⟨fn, _, assign, body, hy, roundIn_any (r := none) (n := NN) (roundIn_of_wpIn (F := FR none) trivial ?_)⟩
      have hag : Agrees (sr S (w.heap.size + 1)) { tmps := (ps.zip vs.toArray).foldl (fun t (p, v) => t.setIfInBounds p v) a.tmps, defers := [] } ⟨setL ps.toList vs E.vs, []⟩ := by
        have h1 : Agrees (sr S (w.heap.size + 1)) { a with defers := [] } ⟨E.vs, []⟩ := ⟨ha.size, rfl, ha.val⟩
        have h2 := setL_agrees ps.toList vs _ _ h1 hpn
        have e : (ps.zip vs.toArray).foldl (fun t (p, v) => t.setIfInBounds p v) a.tmps = (ps.toList.zip vs).foldl (fun t (p, v) => t.setIfInBounds p v) a.tmps := by
          rw [← Array.foldl_toList]; simp
        rw [e]; exact h2
      have hw := wpE_sound (sr_ok hS _) assign _ _ W _ hag (hround (w.heap.size + 1) pre x vs W (by omega) hpre hj hst0 hf1 ⟨_, hl⟩)
      refine wpIn_mono hw ?_
      rintro ex a1 Wa ⟨E1, hag1, rfl, hk1, hj1, hbody⟩
      have hla := (hk1.same _ (hlt hl) hf1).trans hl
      have hka := (hk1.same _ (hlt hk) hf2).trans hk
      have hfa1 : ¬ Fp Wa (w.heap.size + 1) := fun h => by rcases hk1.fp _ h with h | h; exact hf1 h; have := hlt hl; omega
      have hfa2 : ¬ Fp Wa w.heap.size := fun h => by rcases hk1.fp _ h with h | h; exact hf2 h; have := hlt hk; omega
      refine ⟨_, run_beginRound hla (by rw [hrec]), ?_⟩
      have hst : Step w.heap.size Fp Wa (Wa.putObj (w.heap.size + 1) (.loop { rec .ready none with state := .busy })) := .put (by omega) hfa1 _
      obtain ⟨hj2, hfp2⟩ := hJ.step _ _ _ hj1 hst.o
      have hw2 := wpE_sound (sr_ok hS _) body _ _ _ _ hag1 (hbody _ _ rfl hj2 hfp2)
      refine wpIn_mono hw2 ?_
      have hl2 : (Wa.putObj (w.heap.size + 1) (.loop { rec .ready none with state := .busy })).heap[w.heap.size + 1]? = some (.loop { rec .ready none with state := .busy }) := heap_put hla
      have hk2 : (Wa.putObj (w.heap.size + 1) (.loop { rec .ready none with state := .busy })).heap[w.heap.size]? = some (.deferred (some [])) := (heap_put_old (by omega)).trans hka
      have hfb1 : ¬ Fp (Wa.putObj (w.heap.size + 1) (.loop { rec .ready none with state := .busy })) (w.heap.size + 1) := fun h => hfa1 (hfp2 _ h)
      have hfb2 : ¬ Fp (Wa.putObj (w.heap.size + 1) (.loop { rec .ready none with state := .busy })) w.heap.size := fun h => hfa2 (hfp2 _ h)
      have fin : ∀ (jump : Option Code) (W3 : World), Keeps Fp (Wa.putObj (w.heap.size + 1) (.loop { rec .ready none with state := .busy })) W3 →
          (Instr.endRound (w.heap.size + 1) jump).run S.P W3 = .ok (.bool jump.isNone) (W3.putObj (w.heap.size + 1) (.loop (rec (if jump.isNone then .ready else .done) jump))) ∧
          (W3.putObj (w.heap.size + 1) (.loop (rec (if jump.isNone then .ready else .done) jump))).heap[w.heap.size + 1]? = some (.loop (rec (if jump.isNone then .ready else .done) jump)) ∧
          (W3.putObj (w.heap.size + 1) (.loop (rec (if jump.isNone then .ready else .done) jump))).heap[w.heap.size]? = some (.deferred (some [])) ∧
          Step w.heap.size Fp W3 (W3.putObj (w.heap.size + 1) (.loop (rec (if jump.isNone then .ready else .done) jump))) ∧ ¬ Fp W3 (w.heap.size + 1) ∧ ¬ Fp W3 w.heap.size := fun jump W3 hk3 => by
        have hl3 := (hk3.same _ (hlt hl2) hfb1).trans hl2
        have hd3 := (hk3.same _ (hlt hk2) hfb2).trans hk2
        have hf31 : ¬ Fp W3 (w.heap.size + 1) := fun h => by rcases hk3.fp _ h with h | h; exact hfb1 h; have := hlt hl2; omega
        have hf32 : ¬ Fp W3 w.heap.size := fun h => by rcases hk3.fp _ h with h | h; exact hfb2 h; have := hlt hk2; omega
        have := run_endRound (P := S.P) jump hl3
        rw [hrec] at this ⊢
        exact ⟨this, heap_put hl3, (heap_put_old (by omega)).trans hd3, .put (by omega) hf31 _, hf31, hf32⟩
      rintro e a3 W3 ⟨E3, _, hq⟩
      cases e with
      | normal =>
        obtain ⟨hj3, hk3⟩ := hq
        obtain ⟨hr3, hl4, hk4, hs3, hf31, hf32⟩ := fin none W3 hk3
        obtain ⟨hj4, hfp4⟩ := hJ.step _ _ _ hj3 hs3.o
        refine ⟨_, _, hr3, .inl ⟨rfl, ⟨hj4, hl4, hk4, fun h => hf31 (hfp4 _ h), fun h => hf32 (hfp4 _ h)⟩, ?_⟩⟩
        refine ⟨hs3.os.trans (hk3.os.trans hk1.os), hs3.tape.trans (hk3.tape.trans hk1.tape), hs3.output.trans (hk3.output.trans hk1.output), ?_, fun k hk5 hf5 => ?_, fun k hk5 => ?_⟩
        · have h1 := hk1.size; have h2 := hst.size; have h3 := hk3.size; have h4 := hs3.size; omega
        · by_cases hkl : k = w.heap.size + 1
          · subst hkl; rw [hl4, hl]; rfl
          · have h1 : ¬ Fp Wa k := fun h => by rcases hk1.fp _ h with h | h; exact hf5 h; omega
            have h2 := hk1.size; have h3 := hst.size
            rw [heap_put_old hkl, hk3.same k (by omega) (fun h => h1 (hfp2 _ h)), heap_put_old hkl]
            exact hk1.same k hk5 hf5
        · have h1 := hfp4 _ hk5
          rcases hk3.fp _ h1 with h2 | h2
          · exact hk1.fp _ (hfp2 _ h2)
          · have h3 := hk1.size; have h4 := hst.size; exact .inr (by omega)
      | ret =>
        obtain ⟨hj3, hk3⟩ := hq
        obtain ⟨hr3, hl4, hk4, hs3, hf31, hf32⟩ := fin (some .ret) W3 hk3
        obtain ⟨hj4, hfp4⟩ := (hJx .ret).step _ _ _ hj3 hs3.o
        exact ⟨_, _, hr3, .inr ⟨rfl, .ret, .ret, .inl ⟨rfl, rfl⟩, hj4, hl4, hk4, fun h => hf31 (hfp4 _ h), fun h => hf32 (hfp4 _ h)⟩⟩
      | exit id =>
        obtain ⟨hj3, hk3⟩ := hq
        obtain ⟨hr3, hl4, hk4, hs3, hf31, hf32⟩ := fin (some (.exit id)) W3 hk3
        obtain ⟨hj4, hfp4⟩ := (hJx (.exit id)).step _ _ _ hj3 hs3.o
        exact ⟨_, _, hr3, .inr ⟨rfl, .exit id, .exit id, .inr ⟨id, rfl, rfl⟩, hj4, hl4, hk4, fun h => hf31 (hfp4 _ h), fun h => hf32 (hfp4 _ h)⟩⟩
      | goto t => exact hq.elim
      | panic ch => exact hq.elim
      | outgrown => exact hq.elim
end Go.Vc
namespace Go.Proofs.YthgmcegmgjoafaaGreatDoor
open Go.Vc Go.RowKit Go.Sei
abbrev PrmR := List Int × Option Addr × Nat
def prmE : Enc PrmR := ⟨fun x => [.slice x.2.1 x.1.length x.2.2], 1, fun _ => rfl, by decide, fun a u hu => by
  simp only [List.mem_cons, List.not_mem_nil, or_false] at hu; subst hu; rfl⟩
theorem prm_map (xs : List PrmR) : xs.flatMap prmE.enc = xs.map (fun x => Value.slice x.2.1 x.1.length x.2.2) := by
  induction xs with
  | nil => rfl
  | cons a r ih => rw [List.flatMap_cons, ih]; rfl
def IntB (B : Nat) (X : World) (x : PrmR) : Prop := ∃ b cur, x.2.1 = some ⟨b, 0, none⟩ ∧ B ≤ b ∧ X.heap[b]? = some (.cells cur 3 (0, 0)) ∧ cur.toList.take x.1.length = x.1.map i64
theorem IntB.same {B : Nat} {X Y : World} {x : PrmR} (h : IntB B X x) (hs : ∀ b, x.2.1 = some ⟨b, 0, none⟩ → Y.heap[b]? = X.heap[b]?) : IntB B Y x := by
  obtain ⟨b, cur, h1, h2, h3, h4⟩ := h
  exact ⟨b, cur, h1, h2, (hs b h1).trans h3, h4⟩
theorem IntB.row {B : Nat} {X : World} {x : PrmR} (h : IntB B X x) : SlR Go.Sei.intE X x.2.1 x.1 := by
  obtain ⟨b, cur, h1, h2, h3, h4⟩ := h
  rw [h1]
  refine SlR.of_cells (hlt h3) ?_
  rw [ints_map, ← h4]
  have h5 : X.heap[b]? = some (.cells cur.toList.toArray 3 (0, 0)) := by simpa using h3
  exact cells_sub (n := 0) (m := x.1.length) (cells_block h5)
def RefA (L : Nat) (X : World) (k : Nat) : Prop := ∃ a n c, X.heap[L]? = some (.cells #[.slice (some a) n c] 79 (0, 0)) ∧ (k = a.block ∨ ∃ cur t fr i b m d, X.heap[a.block]? = some (.cells cur t fr) ∧ i < n ∧ cur[i]? = some (.slice (some b) m d) ∧ k = b.block)
def FpA (L : Nat) (X : World) (k : Nat) : Prop := k = L ∨ RefA L X k
structure ResA (L B : Nat) (X : World) (xs : List PrmR) (p : Option Addr) (cap : Nat) : Prop where
  l : X.heap[L]? = some (.cells #[.slice p xs.length cap] 79 (0, 0))
  o : OwnS prmE 46 B X p cap xs
  e : ∀ x ∈ xs, IntB B X x
theorem ResA.cur {L B : Nat} {X : World} {xs : List PrmR} {p : Option Addr} {cap : Nat} (h : ResA L B X xs p cap) {a : Addr} (hp : p = some a) : ∃ cur, a.off = 0 ∧ B ≤ a.block ∧ X.heap[a.block]? = some (.cells cur 46 (0, 0)) ∧ ∀ i (hi : i < xs.length), cur[i]? = some (.slice xs[i].2.1 xs[i].1.length xs[i].2.2) := by
  rcases h.o.inv with ⟨h1, _⟩ | ⟨g, cur, h1, h2, h3, h4, _, _, h5⟩
  · rw [hp] at h1; cases h1
  · rw [hp] at h1
    simp only [Option.some.injEq] at h1
    subst h1
    refine ⟨cur, rfl, h2, h3, fun i hi => ?_⟩
    have h5 : cur.toList.take (xs.length * 1) = xs.flatMap prmE.enc := h5
    have h6 : (cur.toList.take (xs.length * 1))[i]? = (xs.flatMap prmE.enc)[i]? := by rw [h5]
    rw [List.getElem?_take, if_pos (by omega)] at h6
    have h7 : (xs.flatMap prmE.enc)[i]? = some (.slice xs[i].2.1 xs[i].1.length xs[i].2.2) := by
      rw [prm_map, List.getElem?_map, List.getElem?_eq_getElem hi]; rfl
    rw [h7] at h6
    simpa using h6
theorem ResA.row {L B : Nat} {X : World} {xs : List PrmR} {p : Option Addr} {cap : Nat} (h : ResA L B X xs p cap) {k : Nat} (hf : FpA L X k) : k = L ∨ (∃ a, p = some a ∧ k = a.block) ∨ ∃ x ∈ xs, ∃ b, x.2.1 = some ⟨b, 0, none⟩ ∧ k = b := by
  rcases hf with hf | ⟨a, n, c, h1, h2⟩
  · exact .inl hf
  · have h3 := h.l
    rw [h1] at h3
    simp at h3
    obtain ⟨h3, rfl, rfl⟩ := h3
    rcases h2 with rfl | ⟨cur, t, fr, i, b, m, d, h4, h5, h6, rfl⟩
    · exact .inr (.inl ⟨a, h3.symm, rfl⟩)
    · obtain ⟨cur', _, _, h7, h8⟩ := h.cur h3.symm
      rw [h4] at h7
      simp only [Option.some.injEq, Obj.cells.injEq] at h7
      obtain ⟨rfl, _, _⟩ := h7
      have h9 := h8 i h5
      rw [h6] at h9
      simp only [Option.some.injEq, Value.slice.injEq] at h9
      obtain ⟨b', cu, hb1, hb2, _⟩ := h.e _ (List.getElem_mem h5)
      rw [← h9.1] at hb1
      simp only [Option.some.injEq] at hb1
      refine .inr (.inr ⟨xs[i], List.getElem_mem h5, b', ?_, by rw [hb1]⟩)
      rw [← h9.1, hb1]
theorem ResA.fp {L B : Nat} {X : World} {xs : List PrmR} {p : Option Addr} {cap : Nat} (h : ResA L B X xs p cap) {k : Nat} (hf : k = L ∨ (∃ a, p = some a ∧ k = a.block) ∨ ∃ x ∈ xs, ∃ b, x.2.1 = some ⟨b, 0, none⟩ ∧ k = b) : FpA L X k := by
  rcases hf with hf | ⟨a, rfl, rfl⟩ | ⟨x, hx, b, hb, rfl⟩
  · exact .inl hf
  · exact .inr ⟨a, _, _, h.l, .inl rfl⟩
  · obtain ⟨i, hi, rfl⟩ := List.getElem_of_mem hx
    rcases h.o.inv with ⟨_, _, h0⟩ | ⟨g, cur, rfl, h2, h3, _⟩
    · rw [h0] at hi; simp at hi
    · obtain ⟨cur', _, _, h7, h8⟩ := h.cur rfl
      refine .inr ⟨⟨g, 0, none⟩, xs.length, cap, h.l, .inr ⟨cur', _, _, i, ⟨k, 0, none⟩, xs[i].1.length, xs[i].2.2, h7, hi, ?_, rfl⟩⟩
      rw [h8 i hi, hb]
theorem ResA.same {L B : Nat} {X Y : World} {xs : List PrmR} {p : Option Addr} {cap : Nat} (h : ResA L B X xs p cap) (hs : ∀ k, FpA L X k → Y.heap[k]? = X.heap[k]?) : ResA L B Y xs p cap := by
  refine ⟨(hs L (.inl rfl)).trans h.l, h.o.same fun a ha => hs _ (h.fp (.inr (.inl ⟨a, ha, rfl⟩))), fun x hx => (h.e x hx).same fun b hb => hs _ (h.fp (.inr (.inr ⟨x, hx, b, hb, rfl⟩)))⟩
theorem ResA.lt {L B : Nat} {X : World} {xs : List PrmR} {p : Option Addr} {cap : Nat} (h : ResA L B X xs p cap) {k : Nat} (hf : FpA L X k) : k < X.heap.size := by
  rcases h.row hf with rfl | ⟨a, rfl, rfl⟩ | ⟨x, hx, b, hb, rfl⟩
  · exact hlt h.l
  · obtain ⟨cur, _, _, h3, _⟩ := h.cur rfl
    exact hlt h3
  · obtain ⟨b', cu, hb1, _, hb3, _⟩ := h.e x hx
    rw [hb] at hb1
    simp only [Option.some.injEq, Addr.mk.injEq, and_true] at hb1
    subst hb1
    exact hlt hb3
def JA (w : World) (L B : Nat) (f : List Int → Bool) (pre : List (List Int)) (X : World) : Prop := Below w.heap.size w X ∧ ∃ xs p cap, ResA L B X xs p cap ∧ xs.map (·.1) = pre.filter f
theorem JA.iter {w : World} {L B n0 : Nat} {f : List Int → Bool} (hw : w.heap.size ≤ L) (hL : L < n0) : IterJO n0 (fun _ => False) (FpA L) (JA w L B f) := by
  refine ⟨fun pre A C ⟨hb, xs, p, cap, hr, he⟩ hs => ?_, fun pre A k ⟨hb, xs, p, cap, hr, he⟩ hk => ⟨hr.lt hk, fun h => h⟩⟩
  have hr' : ResA L B C xs p cap := hr.same fun k hk => hs.same k (hr.lt hk) (.inr hk)
  refine ⟨⟨⟨hs.os.trans hb.os, hs.tape.trans hb.tape, hs.output.trans hb.output, Nat.le_trans hb.size hs.size, fun k hk => (hs.same k (Nat.lt_of_lt_of_le hk hb.size) (.inl ⟨by omega, fun h => h⟩)).trans (hb.block k hk)⟩, xs, p, cap, hr', he⟩, fun k hk => hr.fp (hr'.row hk)⟩
def allL (p : Prg) (g : Geo) (md : UInt8) : List (List Int) := if turnsL p g = true then (permsL g.c.toNat).filter (suitsL g md) else []
theorem All_c {B : Nat} {p : Prg} {g : Geo} {md : UInt8} {vs : List Value} {w : World} (hB : B ≤ w.heap.size) (hw : WldV B w vs p g md) (hT : GlobT w) :
    Calls Tryz.prog 19 #[.agg vs.toArray] w fun e w' => ∃ (q : Option Addr) (cap : Nat) (xs : List PrmR), e = .returned (.slice q xs.length cap) ∧ xs.map (·.1) = allL p g md ∧ SlR prmE w' q xs ∧ (∀ x ∈ xs, SlR Go.Sei.intE w' x.2.1 x.1) ∧ Below w.heap.size w w' := by
  refine calls_of_M (S := sg 20) (sgOk _) (args := [.agg vs.toArray]) (.s .p (.s .p (.c .p .p))) Tryz.func19 rfl rfl (Nat.le_of_ble_eq_true rfl) rfl ?_
  have hb0 : Below w.heap.size w (w.alloc (.cells vs.toArray 44)) := (Below.refl _ w).alloc (Nat.le_refl _) _
  have hn0 := hnew w (.cells vs.toArray 44)
  have hC0 : WldC B (w.alloc (.cells vs.toArray 44)) w.heap.size p g md := ⟨Nat.le_trans hB hb0.size, ⟨vs, hn0, hw.below (hb0.mono hB)⟩, hT.below hb0⟩
  refine Calls.mono (turns_c hC0) ?_
  rintro e V ⟨rfl, hbV⟩
  have hbw : Below w.heap.size w V := hb0.trans (hbV.mono hb0.size)
  have hC := hC0.below hbV
  refine And.intro (fun ha => ?_) (fun ha => ?_)
  · have ha : (!turnsL p g) = true := ha
    have ha : turnsL p g = false := by simpa using ha
    refine ⟨none, 0, [], rfl, by unfold allL; rw [ha]; rfl, .nil, fun x hx => (by cases hx), hbw⟩
  have ha : (!turnsL p g) = false := ha
  have ha : turnsL p g = true := by simpa using ha
  have hgs : (1 ≤ g.c ∧ g.c ≤ 4) := by
    unfold turnsL at ha
    rw [Bool.and_eq_true] at ha
    exact (geoR_spec ha.1).1
  obtain ⟨n, hn⟩ : ∃ n : Nat, g.c = n := ⟨g.c.toNat, by omega⟩
  have hn1 : 1 ≤ n := by omega
  have hn4 : n ≤ 4 := by omega
  obtain ⟨L, hL⟩ : ∃ L, L = V.heap.size := ⟨_, rfl⟩
  obtain ⟨V1, hV1⟩ : ∃ V1, V1 = V.alloc (.cells #[.slice none 0 0] 79) := ⟨_, rfl⟩
  have hbV1 : Below V.heap.size V V1 := by rw [hV1]; exact (Below.refl _ V).alloc (Nat.le_refl _) _
  have fL1 : V1.heap[L]? = some (.cells #[.slice none 0 0] 79 (0, 0)) := by rw [hV1, hL]; exact hnew V _
  have sV1 : V1.heap.size = L + 1 := by rw [hV1, World.size_alloc, hL]
  have hC1 := hC.below hbV1
  obtain ⟨pc, rest, hp, c1, c2, c3, hm, hlw⟩ := hC1.cells
  have p1 : some (Value.pointer (some ⟨V.heap.size, 0, none⟩)) = some (Value.pointer (some ⟨L, 0, none⟩)) := by rw [hL]
  refine ⟨Unit, fun _ => ⟨[(1, .pointer (some ⟨w.heap.size, 0, none⟩)), (3, .pointer (some ⟨L, 0, none⟩))], []⟩, fun _ X => V1 = X, ⟨(), ⟨.cons rfl (.cons p1 .nil), rfl⟩, hV1⟩, ?_⟩
  rintro _ _ rfl
  refine ⟨i64 n, by rw [← hn]; exact cells_at c2 (i := 0) rfl, ?_⟩
  refine Calls.mono permutations_c ?_
  rintro e W1 ⟨rfl, hW1⟩
  have hbW1 : Below V1.heap.size V1 W1 := by rw [hW1]; exact (Below.refl _ V1).alloc (Nat.le_refl _) _
  have sW1 : W1.heap.size = L + 2 := by rw [hW1, World.size_alloc, sV1]
  have fbx : W1.heap[L + 1]? = some (.cells #[i64 n] 3 (0, 0)) := by rw [hW1, ← sV1]; exact hnew V1 _
  have fL : W1.heap[L]? = some (.cells #[.slice none 0 0] 79 (0, 0)) := block_below hbW1 fL1
  have hbVW : Below V.heap.size V W1 := hbV1.trans (hbW1.mono hbV1.size)
  have r0 : ResA L (L + 2) W1 [] none 0 := ⟨fL, OwnS.nil, fun x hx => by cases hx⟩
  have J0 : JA V L (L + 2) (suitsL g md) [] W1 := ⟨hbVW, [], none, 0, r0, rfl⟩
  rw [sV1]
  refine rangeL (sgOk _) rfl (lb := #[.pointer (some ⟨L + 1, 0, none⟩)]) rfl rfl (perms1_c fbx hn1 hn4) (Nat.le_refl _) (fun k hk => ⟨by rcases hk with rfl | hk; omega; exact hk.elim, rfl⟩) (fun pre vs W ⟨l, b, _, h, _⟩ => by rw [h]; rfl) (by decide)
    (FpA L) (JA V L (L + 2) (suitsL g md)) (fun _ _ _ => False) ?_ (JA.iter (by omega) (by omega)) (fun ex => ⟨fun _ _ _ h => h.elim, fun _ _ _ h => h.elim⟩) J0 ?_ ?_ ?_
  · rintro k rfl hf
    rcases r0.row hf with h | ⟨a, h, _⟩ | ⟨x, hx, _⟩
    · omega
    · cases h
    · cases hx
  · rintro yl pre x vs W hyl hpre hJ ⟨x', b0, hx', rfl, hb0, hB0⟩ hfy ⟨lo, hlo⟩
    have hx' : x = x' := by simpa using hx'
    subst hx'
    refine ⟨rfl, ⟨rfl, rfl, rfl, Nat.le_refl _, fun _ _ _ => rfl, fun k h => .inl h⟩, hJ, ?_⟩
    rintro o W2 hW2 hJ2 hF2
    have hne : b0 ≠ yl := fun e => by rw [e, hlo] at hb0; cases hb0
    have f2 : W2.heap[b0]? = some (.cells (x.map i64).toArray 3 (0, 0)) := by rw [hW2, heap_put_old hne]; exact hb0
    obtain ⟨hbV2, xs, p2, cap2, hr2, he2⟩ := hJ2
    have hC2 := hC.below hbV2
    have hxl : x.length = n := (perms_ok hn1 hn4).2.1 x (hpre.subset (by simp))
    have hrow : SlR Go.Sei.intE W2 (some ⟨b0, 0, none⟩) x := SlR.of_cells (hlt f2) (by rw [ints_map]; exact cells_block f2)
    refine Calls.mono (suits_c hC2 hrow (by omega) hgs.2) ?_
    rintro e U ⟨rfl, hbU⟩
    have hrU : ResA L (L + 2) U xs p2 cap2 := hr2.same fun k hk => hbU.block k (hr2.lt hk)
    have hbVU : Below V.heap.size V U := hbV2.trans (hbU.mono hbV2.size)
    refine And.intro (fun hs => ?_) (fun hs => ?_)
    · have hs : suitsL g md x = true := hs
      refine DrawE.ord [4, 5] [0, 1, 2, 3, 4, 5] (by kernel_rfl) ?_
      have hbUd : Below U.heap.size U U.drew := (Below.refl _ U).drew
      have hrUd : ResA L (L + 2) U.drew xs p2 cap2 := hrU.same fun k hk => rfl
      have fUd : U.drew.heap[b0]? = some (.cells (x.map i64).toArray 3 (0, 0)) := block_below hbUd (block_below hbU f2)
      refine ⟨_, cells_at (cells_block hrUd.l) (i := 0) rfl, ?_⟩
      refine Calls.mono (Clone_int_c (cap := x.length) fUd (by omega) (by omega)) ?_
      rintro e X1 ⟨kc, cc, cur, rfl, hk1, hk2, hk3, hbX⟩
      refine ⟨hbX, ?_⟩
      have hrX : ResA L (L + 2) X1 xs p2 cap2 := hrUd.same fun k hk => hbX.block k (hrUd.lt hk)
      have hbWX : Below W2.heap.size W2 X1 := (hbU.trans (hbUd.mono hbU.size)).trans (hbX.mono (Nat.le_trans hbU.size hbUd.size))
      obtain ⟨new, hnw⟩ : ∃ new : PrmR, new = (x, some ⟨kc, 0, none⟩, cc) := ⟨_, rfl⟩
      refine ⟨⟨by decide, by decide, rfl⟩, prmE.enc new, by rw [hnw]; rfl, ?_⟩
      refine ⟨(Below.refl _ X1).alloc (Nat.le_refl _) _, ?_⟩
      have hL2 : L < W2.heap.size := hlt hr2.l
      have hLn : L + 2 ≤ W2.heap.size := Nat.le_trans (by rw [← sW1]; exact hyl) (by rw [hW2]; simp [World.putObj]; exact Nat.le_of_lt (hlt hlo))
      have hxs24 : xs.length ≤ 24 := by
        have h1 : (xs.map (·.1)).length ≤ pre.length := by rw [he2]; exact List.length_filter_le _ _
        rw [List.length_map] at h1
        have h2 := hpre.length_le
        have h3 : (permsL n).length ≤ 24 := seqL_len
        simp at h2
        omega
      have hX1s : W2.heap.size ≤ X1.heap.size := hbWX.size
      refine app_own (E := prmE) (news := [new]) (B := L + 2) Tryz.underlying79 (ttOk.get 46 _ rfl) rfl rfl rfl (hrX.o.alloc _) rfl (one_new prmE new) (by simp; omega) (by show xs.length + 1 ≤ _; omega) (by show (xs.length + 1) * 24 ≤ _; omega) ?_
      intro p3 cap3 W4 ho4 hg4 hb4 hat
      have fL3 : (X1.alloc (.cells (prmE.enc new).toArray 46)).heap[L]? = some (.cells #[.slice p2 xs.length cap2] 79 (0, 0)) := hold _ hrX.l
      have fL4 : W4.heap[L]? = some (.cells #[.slice p2 xs.length cap2] 79 (0, 0)) := (hb4.block L (by omega)).trans fL3
      refine store_box (v := .slice p3 (xs ++ [new]).length cap3) (ttOk.get 79 _ rfl) fL4 rfl rfl rfl ?_
      obtain ⟨W5, hW5⟩ : ∃ W5, W5 = W4.setRow L (Value.slice p3 (xs ++ [new]).length cap3).cells := ⟨_, rfl⟩
      rw [← hW5]
      have o5 : ∀ k, k ≠ L → W5.heap[k]? = W4.heap[k]? := fun k hk => by rw [hW5]; exact setRow_old hk
      have s5 : W5.heap.size = W4.heap.size := by rw [hW5]; simp
      have keep4 : ∀ (b : Nat) (cur : Array Value), X1.heap[b]? = some (Obj.cells cur 3 (0, 0)) → W4.heap[b]? = X1.heap[b]? := fun b cur hb => by
        have hb' : (X1.alloc (.cells (prmE.enc new).toArray 46)).heap[b]? = some (Obj.cells cur 3 (0, 0)) := hold _ hb
        refine (hg4.block b (hlt hb') fun e => ?_).trans (hb'.trans hb.symm)
        cases p2 with
        | none => simp [Value.ownBlock] at e
        | some a =>
          simp only [Value.ownBlock, Option.some.injEq] at e
          obtain ⟨cu, _, _, h3, _⟩ := hrX.cur rfl
          rw [← e, hb] at h3
          simp at h3
      have keep5 : ∀ y, IntB (L + 2) X1 y → IntB (L + 2) W5 y := fun y ⟨b, cu, h1, h2, h3, h4⟩ => ⟨b, cu, h1, h2, (o5 b (by omega)).trans ((keep4 b cu h3).trans h3), h4⟩
      have hnewB : IntB (L + 2) X1 new := by
        rw [hnw]
        have : U.drew.heap.size = U.heap.size := rfl
        have h2 := hbU.size
        exact ⟨kc, cur, rfl, by omega, hk1, hk2⟩
      have r5 : ResA L (L + 2) W5 (xs ++ [new]) p3 cap3 := by
        refine ⟨by rw [hW5]; exact setRow_new fL4, ho4.same fun a ha => o5 _ ?_, fun y hy => ?_⟩
        · rcases ho4.inv with ⟨h1, _⟩ | ⟨g', _, h1, h2, _⟩
          · rw [h1] at ha; cases ha
          · rw [h1] at ha; cases ha; dsimp only; omega
        · rcases List.mem_append.1 hy with hy | hy
          · exact keep5 y (hrX.e y hy)
          · simp only [List.mem_singleton] at hy
            rw [hy]; exact keep5 new hnewB
      have sz4 := hg4.size
      have sza : (X1.alloc (.cells (prmE.enc new).toArray 46)).heap.size = X1.heap.size + 1 := World.size_alloc _ _
      refine And.intro ⟨⟨?_, ?_, ?_, ?_, fun k hk => ?_⟩, xs ++ [new], p3, cap3, r5, ?_⟩ ⟨?_, ?_, ?_, by omega, fun k hk hf => ?_, fun k hk => ?_⟩
      · exact (by rw [hW5]; rfl : W5.os = W4.os).trans (hg4.os.trans (hbWX.os.trans hbV2.os))
      · exact (by rw [hW5]; rfl : W5.tape = W4.tape).trans (hg4.tape.trans (hbWX.tape.trans hbV2.tape))
      · exact (by rw [hW5]; rfl : W5.output = W4.output).trans (hg4.output.trans (hbWX.output.trans hbV2.output))
      · have := hbV2.size; omega
      · rw [o5 k (by omega), hb4.block k (by omega)]
        have h1 : (X1.alloc (.cells (prmE.enc new).toArray 46)).heap[k]? = X1.heap[k]? := by
          show (X1.heap.push _)[k]? = _
          rw [Array.getElem?_push, if_neg (by omega)]
        rw [h1, hbWX.block k (by have := hbV2.size; omega)]
        exact hbV2.block k hk
      · rw [List.map_append, he2, List.filter_append]
        simp [hs, hnw]
      · exact (by rw [hW5]; rfl : W5.os = W4.os).trans (hg4.os.trans hbWX.os)
      · exact (by rw [hW5]; rfl : W5.tape = W4.tape).trans (hg4.tape.trans hbWX.tape)
      · exact (by rw [hW5]; rfl : W5.output = W4.output).trans (hg4.output.trans hbWX.output)
      · rw [o5 k (fun e => hf (.inl e))]
        refine (hg4.block k (by omega) fun e => ?_).trans ?_
        · cases p2 with
          | none => simp [Value.ownBlock] at e
          | some a =>
            simp only [Value.ownBlock, Option.some.injEq] at e
            exact hf (hr2.fp (.inr (.inl ⟨a, rfl, e⟩)))
        · have h1 : (X1.alloc (.cells (prmE.enc new).toArray 46)).heap[k]? = X1.heap[k]? := by
            show (X1.heap.push _)[k]? = _
            rw [Array.getElem?_push, if_neg (by omega)]
          rw [h1]
          exact hbWX.block k hk
      · rcases r5.row hk with rfl | ⟨a, ha, rfl⟩ | ⟨y, hy, b, hb, rfl⟩
        · exact .inl (.inl rfl)
        · rcases hat a ha with h1 | h1
          · exact .inl (hr2.fp (.inr (.inl ⟨a, h1, rfl⟩)))
          · exact .inr (by rw [h1]; omega)
        · rcases List.mem_append.1 hy with hy | hy
          · exact .inl (hr2.fp (.inr (.inr ⟨y, hy, k, hb, rfl⟩)))
          · simp only [List.mem_singleton] at hy
            rw [hy, hnw] at hb
            simp only [Option.some.injEq, Addr.mk.injEq, and_true] at hb
            have : U.drew.heap.size = U.heap.size := rfl
            have h2 := hbU.size
            exact .inr (by omega)
    · have hs : suitsL g md x = false := hs
      refine And.intro ⟨hbVU, xs, p2, cap2, hrU, ?_⟩ (Keeps.of_below hbU (fun k hk => .inl (hr2.fp (hrU.row hk))))
      rw [he2, List.filter_append]
      simp [hs]
  · intro D W hD hfD hJ hdef
    obtain ⟨hbW, xs, p2, cap2, hr, he⟩ := hJ
    refine ⟨_, cells_at (cells_block hr.l) (i := 0) rfl, ?_⟩
    refine ⟨_, rfl, hdef, ?_⟩
    have hr' : ResA L (L + 2) (W.putObj D (.deferred none)) xs p2 cap2 := hr.same fun k hk => heap_put_old (fun e => hfD (e ▸ hk))
    refine ⟨p2, cap2, xs, rfl, ?_, hr'.o.row, fun x hx => (hr'.e x hx).row, below_put (hbw.trans (hbW.mono hbw.size)) (by have := hbw.size; omega) _⟩
    unfold allL
    rw [if_pos ha, he, show g.c.toNat = n by omega]
  · rintro D ex pre W hD hfD hpre h
    exact h.elim
end Go.Proofs.YthgmcegmgjoafaaGreatDoor
namespace Go.Proofs.YthgmcegmgjoafaaGreatDoor
open Go.Vc Go.RowKit Go.Sei
theorem allL_len {p : Prg} {g : Geo} {md : UInt8} : (allL p g md).length ≤ 24 := by
  unfold allL
  split
  · exact Nat.le_trans (List.length_filter_le _ _) seqL_len
  · exact Nat.zero_le _
theorem pick_c {B : Nat} {p : Prg} {g : Geo} {md k : UInt8} {vs : List Value} {w : World} (hB : B ≤ w.heap.size) (hw : WldV B w vs p g md) (hT : GlobT w) :
    Calls Tryz.prog 6 #[.agg vs.toArray, u8 k] w fun e w' => Below w.heap.size w w' ∧ ((allL p g md = [] ∧ e = .returned (.tuple #[.slice none 0 0, .bool false])) ∨
      ∃ (l : List Int) (q : Option Addr) (c : Nat), (allL p g md)[k.toNat % (allL p g md).length]? = some l ∧ e = .returned (.tuple #[.slice q l.length c, .bool true]) ∧ SlR Go.Sei.intE w' q l) := by
  refine calls_of_E (S := sg 20) (sgOk _) (args := [.agg vs.toArray, u8 k]) Tryz.func6 rfl rfl (Nat.le_of_ble_eq_true rfl) rfl ?_
  have hb0 : Below w.heap.size w (w.alloc (.cells vs.toArray 44)) := (Below.refl _ w).alloc (Nat.le_refl _) _
  have hn0 := hnew w (.cells vs.toArray 44)
  refine ⟨vs, hw.len, cells_block hn0, hlt hn0, ?_⟩
  refine Calls.mono (All_c (Nat.le_trans hB hb0.size) (hw.below (hb0.mono hB)) (hT.below hb0)) ?_
  rintro e V ⟨q, cap, xs, rfl, hxs, hr, he, hbV⟩
  have hbw : Below w.heap.size w V := hb0.trans (hbV.mono hb0.size)
  have hl : (allL p g md).length = xs.length := by rw [← hxs, List.length_map]
  have hl24 : xs.length ≤ 24 := by rw [← hl]; exact allL_len
  refine And.intro (fun h => ?_) (fun h => ?_)
  · have h : (xs.length : Int) = 0 := of_decide_eq_true h
    have h0 : xs = [] := List.eq_nil_of_length_eq_zero (by omega)
    refine ⟨hbw, .inl ⟨by rw [← hxs, h0]; rfl, rfl⟩⟩
  · have h : ¬ (xs.length : Int) = 0 := of_decide_eq_false h
    have hpos : 0 < xs.length := by omega
    have hm : k.toNat % xs.length < xs.length := Nat.mod_lt _ hpos
    refine ⟨_, wrap_u8_i64 _, ?_⟩
    refine ⟨by omega, ((k.toNat % xs.length : Nat) : Int), rfl, ?_⟩
    obtain ⟨b, o, rfl, hb, hat⟩ := hr.at hm
    refine ⟨k.toNat % xs.length, rfl, hm, ?_⟩
    refine ⟨_, cells_at (hat _ hm) (i := 0) rfl, ?_⟩
    refine ⟨hbw, .inr ⟨xs[k.toNat % xs.length].1, xs[k.toNat % xs.length].2.1, xs[k.toNat % xs.length].2.2, ?_, rfl, he _ (List.getElem_mem hm)⟩⟩
    rw [hl, ← hxs, List.getElem?_map, List.getElem?_eq_getElem hm]; rfl
end Go.Proofs.YthgmcegmgjoafaaGreatDoor
namespace Go.Proofs.YthgmcegmgjoafaaGreatDoor
open Go.Vc Go.RowKit Go.Sei
def prgW (n : Nat) : Prg := ⟨[116], [[120]], [0], List.replicate n [], 1, .mk 0 0 0 0 []⟩
def geoW (n : Nat) : Geo := ⟨n, 1, 1, 1, 1⟩
def restW (v : UInt8) : List Value := [u8 1, u8 v, u8 0, .int .i64 0, .bool false] ++ (.string ByteArray.empty :: (List.replicate 188 [.int .u8 0, .int .u8 0, .int .u16 0]).flatten)
theorem restW_len (v : UInt8) : (restW v).length = 570 := by kernel_rfl
def cellsW (n : Nat) (v : UInt8) (b1 b2 b3 : Nat) : List Value := prgCells (prgW n) (some ⟨b1, 0, none⟩) 1 (some ⟨b2, 0, none⟩) 1 (some ⟨b3, 0, none⟩) n none 0 ++ ((geoW n).enc ++ restW v)
theorem world_c {n : Nat} {v : UInt8} {w : World} (h4 : n ≤ 4) : Calls Tryz.prog 46 #[i64 n, u8 v] w fun e w' => ∃ vs : List Value, e = .returned (.agg vs.toArray) ∧ WldV w'.heap.size w' vs (prgW n) (geoW n) v ∧ vs.all Value.oneCell' = true ∧ Below w.heap.size w w' := by
  refine calls_of_M (S := sg 15) (sgOk _) (args := [i64 n, u8 v]) (.c .p .p) Tryz.func46 rfl rfl (Nat.le_of_ble_eq_true rfl) rfl ?_
  obtain ⟨L, hL⟩ : ∃ L, L = w.heap.size := ⟨_, rfl⟩
  have p1 : some (Value.pointer (some ⟨w.heap.size, 0, none⟩)) = some (Value.pointer (some ⟨L, 0, none⟩)) := by rw [hL]
  refine ⟨Unit, fun _ => ⟨[(0, i64 n), (1, u8 v), (4, .pointer (some ⟨L, 0, none⟩))], []⟩, fun _ X => (∃ cs : Array Value, X.heap[L]? = some (.cells cs 44 (0, 0)) ∧ cs.size = 585) ∧ X.heap.size = L + 1 ∧ Below w.heap.size w X, ?_, ?_⟩
  · refine ⟨(), ⟨.cons rfl (.cons rfl (.cons p1 .nil)), rfl⟩, ⟨_, by rw [hL]; exact hnew w _, by kernel_rfl⟩, by rw [World.size_alloc, hL], (Below.refl _ w).alloc (Nat.le_refl _) _⟩
  rintro _ W ⟨⟨cs, fL, hcs⟩, sW, hbW⟩
  obtain ⟨W1, hW1⟩ : ∃ W1, W1 = W.alloc (.cells #[strV [120]] 9) := ⟨_, rfl⟩
  obtain ⟨W2, hW2⟩ : ∃ W2, W2 = W1.alloc (.cells #[u8 0] 5) := ⟨_, rfl⟩
  have hb1 : Below W.heap.size W W1 := by rw [hW1]; exact (Below.refl _ W).alloc (Nat.le_refl _) _
  have hb2 : Below W1.heap.size W1 W2 := by rw [hW2]; exact (Below.refl _ W1).alloc (Nat.le_refl _) _
  have f1 : W1.heap[W.heap.size]? = some (.cells #[strV [120]] 9 (0, 0)) := by rw [hW1]; exact hnew W _
  have f2 : W2.heap[W1.heap.size]? = some (.cells #[u8 0] 5 (0, 0)) := by rw [hW2]; exact hnew W1 _
  have s1 : W1.heap.size = L + 2 := by rw [hW1, World.size_alloc, sW]
  have s2 : W2.heap.size = L + 3 := by rw [hW2, World.size_alloc, s1]
  refine ⟨⟨by decide, by decide, rfl⟩, [strV [120]], rfl, ?_⟩
  refine ⟨⟨by decide, by decide, rfl⟩, [u8 0], rfl, ?_⟩
  have hW1' : W.alloc (.cells [strV [120]].toArray 9) = W1 := hW1.symm
  rw [hW1']
  have hW2' : W1.alloc (.cells [u8 0].toArray 5) = W2 := hW2.symm
  rw [hW2']
  refine make_zero Tryz.underlying24 (ttOk.get 166 _ rfl) rfl rfl (by decide) _ (by show 24 * _ ≤ _; omega) (by omega) fun V fV hbV sV => ?_
  refine ⟨prgCells (prgW n) (some ⟨W.heap.size, 0, none⟩) 1 (some ⟨W1.heap.size, 0, none⟩) 1 (some ⟨W2.heap.size, 0, none⟩) n none 0, ?_, ?_⟩
  · unfold prgCells prgW
    simp only [List.length_replicate, List.length_cons, List.length_nil]
    rfl
  refine ⟨(geoW n).enc, rfl, ?_⟩
  refine ⟨[u8 1, u8 v, u8 0, .int .i64 0, .bool false], rfl, ?_⟩
  refine ⟨cellsW n v W.heap.size W1.heap.size W2.heap.size, by kernel_rfl, ?_⟩
  have hbWV : Below W.heap.size W V := (hb1.trans (hb2.mono hb1.size)).trans (hbV.mono (Nat.le_trans hb1.size hb2.size))
  have fLV : V.heap[L]? = some (.cells cs 44 (0, 0)) := (hbWV.block L (by omega)).trans fL
  have hlen : (cellsW n v W.heap.size W1.heap.size W2.heap.size).length = 585 := by
    unfold cellsW
    have h5 : (geoW n).enc.length = 5 := rfl
    have h6 : (prgCells (prgW n) (some ⟨W.heap.size, 0, none⟩) 1 (some ⟨W1.heap.size, 0, none⟩) 1 (some ⟨W2.heap.size, 0, none⟩) n none 0).length = 10 := rfl
    rw [List.length_append, List.length_append, restW_len, h5, h6]
  have hone : (cellsW n v W.heap.size W1.heap.size W2.heap.size).all Value.oneCell' = true := by kernel_rfl
  have hszT : (TT.get tt 44).map (·.size) = some 585 := by kernel_rfl
  refine store_box (v := .agg (cellsW n v W.heap.size W1.heap.size W2.heap.size).toArray) (ttOk.get 44 _ rfl) fLV hlen hcs hone ?_
  obtain ⟨Y, hY⟩ : ∃ Y, Y = V.setRow L (Value.agg (cellsW n v W.heap.size W1.heap.size W2.heap.size).toArray).cells := ⟨_, rfl⟩
  rw [← hY]
  have fY : Y.heap[L]? = some (.cells (cellsW n v W.heap.size W1.heap.size W2.heap.size).toArray 44 (0, 0)) := by rw [hY]; exact setRow_new fLV
  have oY : ∀ k, k ≠ L → Y.heap[k]? = V.heap[k]? := fun k hk => by rw [hY]; exact setRow_old hk
  have sY : Y.heap.size = V.heap.size := by rw [hY]; simp
  refine ⟨cellsW n v W.heap.size W1.heap.size W2.heap.size, hlen, cells_block fY, ?_⟩
  refine ⟨_, rfl, ?_, hone, by rw [hY]; exact below_setRow (hbW.trans (hbWV.mono hbW.size)) (by omega) _⟩
  have g1 : Y.heap[W.heap.size]? = some (.cells #[strV [120]] 9 (0, 0)) := (oY _ (by omega)).trans (block_below hbV (block_below hb2 f1))
  have g2 : Y.heap[W1.heap.size]? = some (.cells #[u8 0] 5 (0, 0)) := (oY _ (by omega)).trans (block_below hbV f2)
  have g3 : Y.heap[W2.heap.size]? = some (.cells (zrep [thrV thr0] n).toArray 166 (0, 0)) := (oY _ (by omega)).trans fV
  have hz : zrep [thrV thr0] n = (List.replicate n thr0).flatMap thrE.enc := by
    clear g3 fV fY hY hone hlen fLV hbV sV oY sY
    induction n with
    | zero => rfl
    | succ n ih => rw [List.replicate_succ, List.flatMap_cons, ← ih (by omega)]; rfl
  refine ⟨_, restW v, rfl, ⟨?_, some ⟨W.heap.size, 0, none⟩, 1, some ⟨W1.heap.size, 0, none⟩, 1, some ⟨W2.heap.size, 0, none⟩, n, none, 0, rfl, ?_, ?_, ?_, ?_, ?_⟩, rfl, restW_len v⟩
  · refine ⟨(by decide : 1 ≤ 140737488351232), (by decide : 1 ≤ 140737488351232), fun s hs => ?_, (by decide : 1 ≤ 140737488351232), by show (List.replicate n ([] : List InsD)).length ≤ _; rw [List.length_replicate]; omega, fun l hl => ?_⟩
    · have hs : s = [120] := by simpa [prgW] using hs
      rw [hs]; decide
    · rw [List.eq_of_mem_replicate hl]; decide
  · exact .inr ⟨W.heap.size, 0, rfl, hlt g1, cells_block g1⟩
  · exact .inr ⟨W1.heap.size, 0, rfl, hlt g2, cells_block g2⟩
  · refine ⟨List.replicate n thr0, by rw [List.map_replicate]; rfl, .inr ⟨W2.heap.size, 0, rfl, hlt g3, by rw [← hz]; exact cells_block g3⟩, fun x hx => ?_⟩
    rw [List.eq_of_mem_replicate hx]
    exact .inl rfl
  · exact .mk none [] (by decide) 0 0 (.inl rfl) (fun _ => none) (fun _ => 0) (fun i hi => by simp at hi) (fun i hi => by simp at hi)
  · exact Nat.le_refl 1
end Go.Proofs.YthgmcegmgjoafaaGreatDoor
namespace Go.Proofs.YthgmcegmgjoafaaGreatDoor
open Go.Vc Go.RowKit Go.Sei
theorem u8_nat {n : Nat} (h : n < 256) : u8 (UInt8.ofNat n) = .int .u8 (n : Nat) := by
  unfold u8
  rw [UInt8.toNat_ofNat', Nat.mod_eq_of_lt h]
def idxC (n : Nat) (pr : Bool) (to : List Int) : List Value := .int .u8 n :: .bool pr :: to.map (fun x => .int .u8 x)
def toN (l : List Int) (k : Nat) : List Int := (List.range k).foldl (fun r i => r.set (l.getD i 0).toNat (i : Int)) [0, 0, 0, 0]
theorem toN_succ (l : List Int) (k : Nat) : toN l (k + 1) = (toN l k).set (l.getD k 0).toNat (k : Int) := by
  unfold toN
  rw [List.range_succ, List.foldl_append]; rfl
theorem toN_len (l : List Int) (k : Nat) : (toN l k).length = 4 := by
  induction k with
  | zero => rfl
  | succ k ih => rw [toN_succ, List.length_set, ih]
theorem getD_lt2 {l : List Int} {t : Nat} (ht : t < l.length) : l.getD t 0 = l[t] := by rw [List.getD_eq_getElem?_getD, List.getElem?_eq_getElem ht]; rfl
theorem node_c {n : Nat} {pr : Bool} {to : List Int} {k : UInt8} {w : World} (h4 : to.length = 4) (hn : n ≤ 4) :
    Calls Tryz.prog 72 #[.agg (idxC n pr to).toArray, u8 k] w fun e w' => e = .returned (if k.toNat < n then .int .u8 (to.getD k.toNat 0) else u8 k) ∧ Below w.heap.size w w' := by
  refine calls_of_E (S := sg 14) (sgOk _) (args := [.agg (idxC n pr to).toArray, u8 k]) Tryz.func72 rfl rfl (Nat.le_of_ble_eq_true rfl) rfl ?_
  have hb0 : Below w.heap.size w (w.alloc (.cells (idxC n pr to).toArray 116)) := (Below.refl _ w).alloc (Nat.le_refl _) _
  have hc := cells_block (hnew w (.cells (idxC n pr to).toArray 116))
  refine ⟨_, cells_at hc (i := 0) rfl, ?_⟩
  refine And.intro (fun h => ?_) (fun h => ?_)
  · have h : (k.toNat : Int) < (n : Int) := of_decide_eq_true h
    have hk : k.toNat < 4 := by omega
    refine ⟨k.toNat, rfl, hk, ?_⟩
    have hg : (idxC n pr to)[2 + k.toNat]? = some (.int .u8 (to.getD k.toNat 0)) := by
      rw [Nat.add_comm]
      show (to.map (fun x => Value.int .u8 x))[k.toNat]? = _
      rw [List.getElem?_map, List.getElem?_eq_getElem (by omega), List.getD_eq_getElem?_getD, List.getElem?_eq_getElem (by omega)]; rfl
    refine ⟨_, by have := cells_at hc hg; rw [Nat.mul_one]; exact (by rw [Nat.zero_add] at this; exact this), ?_⟩
    exact ⟨by rw [if_pos (by omega)]; rfl, hb0⟩
  · have h : ¬ (k.toNat : Int) < (n : Int) := of_decide_eq_false h
    exact ⟨by rw [if_neg (by omega)]; rfl, hb0⟩
theorem newIndex_c {B wp n : Nat} {p : Prg} {g : Geo} {md : UInt8} {w : World} (h : WldC B w wp p g md) (hn : g.c = n) (hn4 : n ≤ 4) {q : Option Addr} {cap : Nat} {l : List Int} (hl : SlR Go.Sei.intE w q l) (hr : ∀ x ∈ l, 0 ≤ x ∧ x < 4) (hll : l.length ≤ 4) :
    Calls Tryz.prog 47 #[.pointer (some ⟨wp, 0, none⟩), .slice q l.length cap] w fun e w' => e = .returned (.agg (idxC n (decide (md = 3)) (toN l l.length)).toArray) ∧ Below w.heap.size w w' := by
  refine calls_of_M (S := sg 35) (sgOk _) (args := [.pointer (some ⟨wp, 0, none⟩), .slice q l.length cap]) (.c .p (.c .p .p)) Tryz.func47 rfl rfl (Nat.le_of_ble_eq_true rfl) rfl ?_
  obtain ⟨L, hL⟩ : ∃ L, L = w.heap.size := ⟨_, rfl⟩
  have p1 : some (Value.pointer (some ⟨w.heap.size, 0, none⟩)) = some (Value.pointer (some ⟨L, 0, none⟩)) := by rw [hL]
  refine ⟨Unit, fun _ => ⟨[(0, .pointer (some ⟨wp, 0, none⟩)), (1, .slice q l.length cap), (4, .pointer (some ⟨L, 0, none⟩))], []⟩, fun _ X => X.heap[L]? = some (.cells (idxC 0 false [0, 0, 0, 0]).toArray 116 (0, 0)) ∧ X.heap.size = L + 1 ∧ Below w.heap.size w X, ?_, ?_⟩
  · exact ⟨(), ⟨.cons rfl (.cons rfl (.cons p1 .nil)), rfl⟩, by rw [hL]; exact hnew w _, by rw [World.size_alloc, hL], (Below.refl _ w).alloc (Nat.le_refl _) _⟩
  rintro _ W ⟨fL, sW, hbW⟩
  have hC := h.below hbW
  refine ⟨Unit, fun _ => ⟨[(1, .slice q l.length cap), (4, .pointer (some ⟨L, 0, none⟩)), (5, .pointer (some ⟨L + 1, 0, none⟩))], []⟩, fun _ X => X.heap[L]? = some (.cells (idxC 0 false [0, 0, 0, 0]).toArray 116 (0, 0)) ∧
    X.heap[L + 1]? = some (.cells (idxC n (decide (md = 3)) [0, 0, 0, 0]).toArray 116 (0, 0)) ∧ Below w.heap.size w X, ?_, ?_⟩
  · refine DrawE.ord [14] [0, 1, 2, 3, 4, 5, 6, 7, 8, 9, 10, 11, 12, 13, 14] (by kernel_rfl) ?_
    have hbd : Below W.heap.size W W.drew := (Below.refl _ W).drew
    have hCd := hC.below hbd
    obtain ⟨pc, rest, hp, c1, c2, c3, hm, hlw⟩ := hCd.cells
    refine ⟨_, cells_at c2 (i := 0) rfl, ?_⟩
    refine ⟨(n : Int), by rw [hn]; exact wrap_u8 (by omega), ?_⟩
    refine ⟨_, cells_at c3 (i := 1) hm, ?_⟩
    have ed : decide ((md.toNat : Int) = 3) = decide (md = 3) := u8d md 3
    refine ⟨idxC n (decide (md = 3)) [0, 0, 0, 0], by rw [← ed]; rfl, ?_⟩
    refine ⟨(Below.refl _ _).alloc (Nat.le_refl _) _, ?_⟩
    refine store_new (X := W.drew) (v := .agg (idxC n (decide (md = 3)) [0, 0, 0, 0]).toArray) (ttOk.get 116 _ rfl) rfl rfl rfl fun Y hbY fY sY => ?_
    have sWd : W.drew.heap.size = L + 1 := sW
    rw [sWd] at fY
    have p2 : some (Value.pointer (some ⟨W.drew.heap.size, 0, none⟩)) = some (Value.pointer (some ⟨L + 1, 0, none⟩)) := by rw [sWd]
    exact ⟨(), ⟨.cons rfl (.cons rfl (.cons p2 .nil)), rfl⟩, block_below hbY (block_below hbd fL), fY, (hbW.trans (hbd.mono hbW.size)).trans (hbY.mono (by omega))⟩
  rintro _ X ⟨f1, f2, hbX⟩
  refine ⟨Nat, fun k => ⟨[(4, .pointer (some ⟨L, 0, none⟩)), (5, .pointer (some ⟨L + 1, 0, none⟩)), (21, .slice q l.length cap), (22, i64 l.length), (23, i64 (k : Nat))], []⟩, fun k X => k ≤ l.length ∧ X.heap[L]? = some (.cells (idxC 0 false [0, 0, 0, 0]).toArray 116 (0, 0)) ∧
      X.heap[L + 1]? = some (.cells (idxC n (decide (md = 3)) (toN l k)).toArray 116 (0, 0)) ∧ Below w.heap.size w X, fun k => l.length - k, 0,
    ⟨.cons rfl (.cons rfl (.cons rfl (.cons rfl (.cons rfl .nil)))), rfl⟩, ⟨Nat.zero_le _, f1, f2, hbX⟩, ?_⟩
  clear f1 f2 hbX
  rintro k X ⟨hk, f1, f2, hbX⟩
  dsimp only at hk f1 f2 ⊢
  refine And.intro (fun hc => ?_) (fun hc => ?_)
  · have hc : (k : Int) < (l.length : Int) := of_decide_eq_true hc
    have hkl : k < l.length := by omega
    obtain ⟨b, o, rfl, hb, hat⟩ := hl.at hkl
    obtain ⟨r0, r1⟩ := hr _ (List.getElem_mem hkl)
    refine ⟨k, rfl, hkl, ?_⟩
    refine ⟨_, cells_at (cells_below hbX (hat k hkl)) (i := 0) rfl, ?_⟩
    refine ⟨(k : Int), wrap_u8 (by omega), ?_⟩
    refine ⟨l[k].toNat, by omega, by omega, ?_⟩
    have hlen : (idxC n (decide (md = 3)) (toN l k)).length = 6 := by
      unfold idxC
      rw [List.length_cons, List.length_cons, List.length_map, toN_len]
    refine store_one (ttOk.get 5 _ rfl) f2 (o := 0 + 2 + l[k].toNat * 1) (v := .int .u8 (k : Nat)) rfl rfl (by rw [hlen]; omega) rfl fun Y fY gY sY => ?_
    have e1 : (idxC n (decide (md = 3)) (toN l k)).set (0 + 2 + l[k].toNat * 1) (.int .u8 (k : Nat)) = idxC n (decide (md = 3)) (toN l (k + 1)) := by
      rw [toN_succ, getD_lt2 hkl]
      unfold idxC
      rw [show 0 + 2 + l[k].toNat * 1 = (l[k].toNat + 1) + 1 by omega, List.set_cons_succ, List.set_cons_succ, List.map_set]
    rw [e1] at fY
    refine ⟨_, (wrap_i64 (by omega)).trans rfl, ?_⟩
    exact ⟨k + 1, ⟨.cons rfl (.cons rfl (.cons rfl (.cons rfl (.cons rfl .nil)))), rfl⟩, ⟨hkl, (gY.block _ (hlt f1) (by simp)).trans f1, fY, hbX.trans (below_grown gY hbX.size (by omega))⟩, by show l.length - (k + 1) < l.length - k; omega⟩
  · have hc : ¬ (k : Int) < (l.length : Int) := of_decide_eq_false hc
    obtain rfl : k = l.length := by omega
    have hlen : (idxC n (decide (md = 3)) (toN l l.length)).length = 6 := by
      unfold idxC
      rw [List.length_cons, List.length_cons, List.length_map, toN_len]
    refine ⟨_, hlen, cells_block f2, hlt f2, ?_⟩
    have hone : (idxC n (decide (md = 3)) (toN l l.length)).all Value.oneCell' = true := by
      unfold idxC
      simp [Value.oneCell']
    refine store_box (v := .agg (idxC n (decide (md = 3)) (toN l l.length)).toArray) (ttOk.get 116 _ rfl) f1 hlen rfl hone ?_
    have f3 := setRow_new (cs' := (Value.agg (idxC n (decide (md = 3)) (toN l l.length)).toArray).cells) f1
    refine ⟨_, hlen, cells_block f3, ?_⟩
    exact ⟨rfl, below_setRow hbX (by omega) _⟩
end Go.Proofs.YthgmcegmgjoafaaGreatDoor
namespace Go.Proofs.YthgmcegmgjoafaaGreatDoor
open Go.Vc Go.RowKit Go.Sei
def nodeU (n : Nat) (to : List Int) (k : UInt8) : UInt8 := if k.toNat < n then UInt8.ofNat (to.getD k.toNat 0).toNat else k
def IdxOk (n : Nat) (to : List Int) : Prop := n ≤ 4 ∧ to.length = 4 ∧ ∀ x ∈ to, 0 ≤ x ∧ x < 256
theorem node_u {n : Nat} {pr : Bool} {to : List Int} {k : UInt8} {w : World} (h : IdxOk n to) :
    Calls Tryz.prog 72 #[.agg (idxC n pr to).toArray, u8 k] w fun e w' => e = .returned (u8 (nodeU n to k)) ∧ Below w.heap.size w w' := by
  obtain ⟨h1, h2, h3⟩ := h
  refine Calls.mono (node_c h2 h1) ?_
  rintro e V ⟨rfl, hb⟩
  refine ⟨?_, hb⟩
  congr 1
  unfold nodeU
  by_cases hk : k.toNat < n
  · rw [if_pos hk, if_pos hk]
    have hl : k.toNat < to.length := by omega
    have hm := h3 _ (List.getElem_mem hl)
    rw [getD_lt2 hl, u8_nat (by omega)]
    congr 1
    omega
  · rw [if_neg hk, if_neg hk]
def turnM (n : Nat) (to : List Int) (m : Msg) : Msg :=
  let m1 : Msg := { m with from_ := nodeU n to m.from_ }
  let m2 : Msg := { m1 with to := nodeU n to m1.to }
  if m.kind = 6 ∨ m.kind = 7 ∨ m.kind = 8 then { m2 with asker := nodeU n to m2.asker } else m2
structure MIx (w X : World) (L n : Nat) (pr : Bool) (to : List Int) (m : Msg) (r : List Value) : Prop where
  i : X.heap[L]? = some (.cells (idxC n pr to).toArray 116 (0, 0))
  m : X.heap[L + 1]? = some (.cells m.enc.toArray 53 (0, 0))
  r : X.heap[L + 2]? = some (.cells r.toArray 53 (0, 0))
  b : Below w.heap.size w X
theorem MIx.below {w X Y : World} {L n : Nat} {pr : Bool} {to : List Int} {m : Msg} {r : List Value} (h : MIx w X L n pr to m r) (hb : Below X.heap.size X Y) : MIx w Y L n pr to m r := ⟨block_below hb h.i, block_below hb h.m, block_below hb h.r, h.b.trans (hb.mono h.b.size)⟩
theorem MIx.store {w X Y : World} {L n : Nat} {pr : Bool} {to : List Int} {m m' : Msg} {r : List Value} (h : MIx w X L n pr to m r) (hL : w.heap.size ≤ L) (fY : Y.heap[L + 1]? = some (.cells m'.enc.toArray 53 (0, 0))) (gY : X.grownBy Y (some (L + 1))) : MIx w Y L n pr to m' r :=
  ⟨(gY.block _ (hlt h.i) (by simp)).trans h.i, fY, (gY.block _ (hlt h.r) (by simp)).trans h.r, h.b.trans (below_grown gY h.b.size (by omega))⟩
def zMsgC : List Value := [u8 0, u8 0, u8 0, u8 0, u8 0, u8 0, .bool false, u8 0, u8 0, u8 0, u8 0]
theorem msg_c {n : Nat} {pr : Bool} {to : List Int} {m : Msg} {w : World} (ho : IdxOk n to) :
    Calls Tryz.prog 48 #[.agg (idxC n pr to).toArray, .agg m.enc.toArray] w fun e w' => e = .returned (.agg (turnM n to m).enc.toArray) ∧ Below w.heap.size w w' := by
  refine calls_of_M (S := sg 34) (sgOk _) (args := [.agg (idxC n pr to).toArray, .agg m.enc.toArray]) (.c .p (.c .p (.c .p (.c .p .p)))) Tryz.func48 rfl rfl (Nat.le_of_ble_eq_true rfl) rfl ?_
  obtain ⟨L, hL⟩ : ∃ L, L = w.heap.size := ⟨_, rfl⟩
  obtain ⟨W1, hW1⟩ : ∃ W1, W1 = w.alloc (.cells (idxC n pr to).toArray 116) := ⟨_, rfl⟩
  obtain ⟨W2, hW2⟩ : ∃ W2, W2 = W1.alloc (.cells m.enc.toArray 53) := ⟨_, rfl⟩
  have s1 : W1.heap.size = L + 1 := by rw [hW1, World.size_alloc, hL]
  have s2 : W2.heap.size = L + 2 := by rw [hW2, World.size_alloc, s1]
  refine ⟨Unit, fun _ => ⟨[(2, .pointer (some ⟨L, 0, none⟩)), (3, .pointer (some ⟨L + 1, 0, none⟩)), (4, .pointer (some ⟨L + 2, 0, none⟩))], []⟩, fun _ X => MIx w X L n pr to m zMsgC, ?_, ?_⟩
  · have q1 : some (Value.pointer (some ⟨w.heap.size, 0, none⟩)) = some (Value.pointer (some ⟨L, 0, none⟩)) := by rw [hL]
    have q2 : some (Value.pointer (some ⟨W1.heap.size, 0, none⟩)) = some (Value.pointer (some ⟨L + 1, 0, none⟩)) := by rw [s1]
    have q3 : some (Value.pointer (some ⟨W2.heap.size, 0, none⟩)) = some (Value.pointer (some ⟨L + 2, 0, none⟩)) := by rw [s2]
    rw [hW2, hW1] at q3
    rw [hW1] at q2
    refine ⟨(), ⟨.cons q1 (.cons q2 (.cons q3 .nil)), rfl⟩, ?_⟩
    have hM : MIx w (W2.alloc (.cells zMsgC.toArray 53)) L n pr to m zMsgC := by
      refine ⟨hold _ ?_, hold _ ?_, ?_, ?_⟩
      · rw [hW2, hW1, hL]; exact hold _ (hnew w _)
      · rw [hW2, ← s1]; exact hnew W1 _
      · rw [← s2]; exact hnew W2 _
      · rw [hW2, hW1]; exact (((Below.refl _ w).alloc (Nat.le_refl _) _).alloc (by simp) _).alloc (by simp; omega) _
    rw [hW2, hW1] at hM
    exact hM
  have hLw : w.heap.size ≤ L := by omega
  clear s1 s2 hW1 hW2 W1 W2
  rintro _ X hX
  refine ⟨Unit, fun _ => ⟨[(2, .pointer (some ⟨L, 0, none⟩)), (3, .pointer (some ⟨L + 1, 0, none⟩)), (4, .pointer (some ⟨L + 2, 0, none⟩))], []⟩, fun _ X => MIx w X L n pr to { m with from_ := nodeU n to m.from_ } zMsgC, ?_, ?_⟩
  · refine ⟨idxC n pr to, ?_, cells_block hX.i, hlt hX.i, ?_⟩
    · unfold idxC; rw [List.length_cons, List.length_cons, List.length_map, ho.2.1]
    refine ⟨_, cells_at (cells_block hX.m) (i := 1) rfl, ?_⟩
    refine Calls.mono (node_u ho) ?_
    rintro e V ⟨rfl, hbV⟩
    have hV := hX.below hbV
    refine store_one (ttOk.get 5 _ rfl) hV.m (o := 1) (v := u8 (nodeU n to m.from_)) rfl rfl (by show 1 < 11; decide) rfl fun Y fY gY sY => ?_
    exact ⟨(), ⟨.cons rfl (.cons rfl (.cons rfl .nil)), rfl⟩, hV.store hLw fY gY⟩
  clear hX
  rintro _ X hX
  refine ⟨Unit, fun _ => ⟨[(2, .pointer (some ⟨L, 0, none⟩)), (3, .pointer (some ⟨L + 1, 0, none⟩)), (4, .pointer (some ⟨L + 2, 0, none⟩))], []⟩, fun _ X => MIx w X L n pr to { m with from_ := nodeU n to m.from_, to := nodeU n to m.to } zMsgC, ?_, ?_⟩
  · refine ⟨idxC n pr to, ?_, cells_block hX.i, hlt hX.i, ?_⟩
    · unfold idxC; rw [List.length_cons, List.length_cons, List.length_map, ho.2.1]
    refine ⟨_, cells_at (cells_block hX.m) (i := 2) rfl, ?_⟩
    refine Calls.mono (node_u ho) ?_
    rintro e V ⟨rfl, hbV⟩
    have hV := hX.below hbV
    refine store_one (ttOk.get 5 _ rfl) hV.m (o := 2) (v := u8 (nodeU n to m.to)) rfl rfl (by show 2 < 11; decide) rfl fun Y fY gY sY => ?_
    exact ⟨(), ⟨.cons rfl (.cons rfl (.cons rfl .nil)), rfl⟩, hV.store hLw fY gY⟩
  clear hX
  rintro _ X hX
  refine ⟨Unit, fun _ => ⟨[(2, .pointer (some ⟨L, 0, none⟩)), (3, .pointer (some ⟨L + 1, 0, none⟩)), (4, .pointer (some ⟨L + 2, 0, none⟩))], []⟩, fun _ X => MIx w X L n pr to (turnM n to m) zMsgC, ?_, ?_⟩
  · have hyes : (m.kind = 6 ∨ m.kind = 7 ∨ m.kind = 8) → ∀ (V : World), MIx w V L n pr to { m with from_ := nodeU n to m.from_, to := nodeU n to m.to } zMsgC → ∀ Y : World, Y.heap[L + 1]? = some (.cells (({ m with from_ := nodeU n to m.from_, to := nodeU n to m.to } : Msg).enc.set 4 (u8 (nodeU n to m.asker))).toArray 53 (0, 0)) → V.grownBy Y (some (L + 1)) → MIx w Y L n pr to (turnM n to m) zMsgC := fun hk V hV Y fY gY => by
      refine hV.store hLw ?_ gY
      rw [fY]
      unfold turnM
      rw [if_pos hk]; rfl
    refine ⟨_, cells_at (cells_block hX.m) (i := 0) rfl, ?_⟩
    refine And.intro (fun h => ?_) (fun h => ?_)
    · have h : m.kind = 6 := of_decide_eq_true ((u8d m.kind 6).symm.trans h)
      refine brT ?_
      refine brT ?_
      refine ⟨idxC n pr to, ?_, cells_block hX.i, hlt hX.i, ?_⟩
      · unfold idxC; rw [List.length_cons, List.length_cons, List.length_map, ho.2.1]
      refine ⟨_, cells_at (cells_block hX.m) (i := 4) rfl, ?_⟩
      refine Calls.mono (node_u ho) ?_
      rintro e V ⟨rfl, hbV⟩
      have hV := hX.below hbV
      refine store_one (ttOk.get 5 _ rfl) hV.m (o := 4) (v := u8 (nodeU n to m.asker)) rfl rfl (by show 4 < 11; decide) rfl fun Y fY gY sY => ?_
      exact ⟨(), ⟨.cons rfl (.cons rfl (.cons rfl .nil)), rfl⟩, hyes (.inl h) V hV Y fY gY⟩
    have h6 : ¬ m.kind = 6 := of_decide_eq_false ((u8d m.kind 6).symm.trans h)
    refine ⟨_, cells_at (cells_block hX.m) (i := 0) rfl, ?_⟩
    refine And.intro (fun h => ?_) (fun h => ?_)
    · have h : m.kind = 7 := of_decide_eq_true ((u8d m.kind 7).symm.trans h)
      refine brT ?_
      refine ⟨idxC n pr to, ?_, cells_block hX.i, hlt hX.i, ?_⟩
      · unfold idxC; rw [List.length_cons, List.length_cons, List.length_map, ho.2.1]
      refine ⟨_, cells_at (cells_block hX.m) (i := 4) rfl, ?_⟩
      refine Calls.mono (node_u ho) ?_
      rintro e V ⟨rfl, hbV⟩
      have hV := hX.below hbV
      refine store_one (ttOk.get 5 _ rfl) hV.m (o := 4) (v := u8 (nodeU n to m.asker)) rfl rfl (by show 4 < 11; decide) rfl fun Y fY gY sY => ?_
      exact ⟨(), ⟨.cons rfl (.cons rfl (.cons rfl .nil)), rfl⟩, hyes (.inr (.inl h)) V hV Y fY gY⟩
    have h7 : ¬ m.kind = 7 := of_decide_eq_false ((u8d m.kind 7).symm.trans h)
    refine ⟨_, cells_at (cells_block hX.m) (i := 0) rfl, ?_⟩
    refine And.intro (fun h => ?_) (fun h => ?_)
    · have h : m.kind = 8 := of_decide_eq_true ((u8d m.kind 8).symm.trans h)
      refine ⟨idxC n pr to, ?_, cells_block hX.i, hlt hX.i, ?_⟩
      · unfold idxC; rw [List.length_cons, List.length_cons, List.length_map, ho.2.1]
      refine ⟨_, cells_at (cells_block hX.m) (i := 4) rfl, ?_⟩
      refine Calls.mono (node_u ho) ?_
      rintro e V ⟨rfl, hbV⟩
      have hV := hX.below hbV
      refine store_one (ttOk.get 5 _ rfl) hV.m (o := 4) (v := u8 (nodeU n to m.asker)) rfl rfl (by show 4 < 11; decide) rfl fun Y fY gY sY => ?_
      exact ⟨(), ⟨.cons rfl (.cons rfl (.cons rfl .nil)), rfl⟩, hyes (.inr (.inr h)) V hV Y fY gY⟩
    · have h8 : ¬ m.kind = 8 := of_decide_eq_false ((u8d m.kind 8).symm.trans h)
      refine ⟨(), ⟨.cons rfl (.cons rfl (.cons rfl .nil)), rfl⟩, ?_⟩
      have : turnM n to m = { m with from_ := nodeU n to m.from_, to := nodeU n to m.to } := by
        unfold turnM
        rw [if_neg (by rintro (h | h | h); exact h6 h; exact h7 h; exact h8 h)]
      rw [this]; exact hX
  clear hX
  rintro _ X hX
  have hone : (turnM n to m).enc.all Value.oneCell' = true := rfl
  refine ⟨(turnM n to m).enc, rfl, cells_block hX.m, hlt hX.m, ?_⟩
  refine store_box (v := .agg (turnM n to m).enc.toArray) (ttOk.get 53 _ rfl) hX.r rfl rfl hone ?_
  have f3 := setRow_new (cs' := (Value.agg (turnM n to m).enc.toArray).cells) hX.r
  refine ⟨(turnM n to m).enc, rfl, cells_block f3, ?_⟩
  exact ⟨rfl, below_setRow hX.b (by omega) _⟩
end Go.Proofs.YthgmcegmgjoafaaGreatDoor
namespace Go.Proofs.YthgmcegmgjoafaaGreatDoor
open Go.Vc Go.RowKit Go.Sei
theorem toN_range {l : List Int} : ∀ {k : Nat}, k ≤ 4 → ∀ x ∈ toN l k, 0 ≤ x ∧ x < 256
  | 0, _ => fun x hx => by
    have : x = 0 := by
      unfold toN at hx
      simpa using hx
    omega
  | k + 1, hk => fun x hx => by
    rw [toN_succ] at hx
    rcases List.mem_or_eq_of_mem_set hx with hx | hx
    · exact toN_range (by omega) x hx
    · omega
theorem idx_ok {n : Nat} {l : List Int} (hn : n ≤ 4) (hl : l.length ≤ 4) : IdxOk n (toN l l.length) := ⟨hn, toN_len _ _, toN_range hl⟩
theorem fits_parts {p : Prg} {g : Geo} {md : UInt8} {l : List Int} (hf : (turnsL p g && suitsL g md l) = true) : ∃ n : Nat, g.c = n ∧ 1 ≤ n ∧ n ≤ 4 ∧ l.length = n ∧ ∀ x ∈ l, 0 ≤ x ∧ x < 4 := by
  simp only [turnsL, suitsL, permL, Bool.and_eq_true, decide_eq_true_eq] at hf
  obtain ⟨⟨h1, _⟩, ⟨h2, h3⟩, _⟩ := hf
  have := (geoR_spec h1).1
  exact ⟨g.c.toNat, by omega, by omega, by omega, by omega, permGo_range h3⟩
theorem Msg_c {B : Nat} {p : Prg} {g : Geo} {md : UInt8} {vs : List Value} {m : Msg} {q : Option Addr} {cap : Nat} {l : List Int} {w : World} (hB : B ≤ w.heap.size) (hw : WldV B w vs p g md) (hT : GlobT w) (h1 : vs.all Value.oneCell' = true) (hl : SlR Go.Sei.intE w q l) (hf : (turnsL p g && suitsL g md l) = true) :
    Calls Tryz.prog 9 #[.agg vs.toArray, .agg m.enc.toArray, .slice q l.length cap] w fun e w' => e = .returned (.tuple #[.agg (turnM l.length (toN l l.length) m).enc.toArray, i64 0]) ∧ Below w.heap.size w w' := by
  refine calls_of_M (S := sg 17) (sgOk _) (args := [.agg vs.toArray, .agg m.enc.toArray, .slice q l.length cap]) (.c .p (.s .p .p)) Tryz.func9 rfl rfl (Nat.le_of_ble_eq_true rfl) rfl ?_
  obtain ⟨n, hgc, hn1, hn4, hln, hr⟩ := fits_parts hf
  obtain ⟨L, hL⟩ : ∃ L, L = w.heap.size := ⟨_, rfl⟩
  obtain ⟨W1, hW1⟩ : ∃ W1, W1 = w.alloc (.cells vs.toArray 44) := ⟨_, rfl⟩
  obtain ⟨W2, hW2⟩ : ∃ W2, W2 = W1.alloc (.cells m.enc.toArray 53) := ⟨_, rfl⟩
  have s1 : W1.heap.size = L + 1 := by rw [hW1, World.size_alloc, hL]
  have s2 : W2.heap.size = L + 2 := by rw [hW2, World.size_alloc, s1]
  refine ⟨Unit, fun _ => ⟨[(2, .slice q l.length cap), (3, .pointer (some ⟨L, 0, none⟩)), (4, .pointer (some ⟨L + 1, 0, none⟩)), (6, .pointer (some ⟨L + 2, 0, none⟩)), (7, i64 0)], []⟩, fun _ X => X.heap[L]? = some (.cells vs.toArray 44 (0, 0)) ∧
    X.heap[L + 1]? = some (.cells m.enc.toArray 53 (0, 0)) ∧ X.heap[L + 2]? = some (.cells zMsgC.toArray 53 (0, 0)) ∧ Below w.heap.size w X, ?_, ?_⟩
  · have q1 : some (Value.pointer (some ⟨w.heap.size, 0, none⟩)) = some (Value.pointer (some ⟨L, 0, none⟩)) := by rw [hL]
    have q2 : some (Value.pointer (some ⟨W1.heap.size, 0, none⟩)) = some (Value.pointer (some ⟨L + 1, 0, none⟩)) := by rw [s1]
    have q3 : some (Value.pointer (some ⟨W2.heap.size, 0, none⟩)) = some (Value.pointer (some ⟨L + 2, 0, none⟩)) := by rw [s2]
    rw [hW2, hW1] at q3
    rw [hW1] at q2
    refine ⟨(), ⟨.cons rfl (.cons q1 (.cons q2 (.cons q3 (.cons rfl .nil)))), rfl⟩, ?_⟩
    have hM : (W2.alloc (.cells zMsgC.toArray 53)).heap[L]? = some (.cells vs.toArray 44 (0, 0)) ∧ (W2.alloc (.cells zMsgC.toArray 53)).heap[L + 1]? = some (.cells m.enc.toArray 53 (0, 0)) ∧ (W2.alloc (.cells zMsgC.toArray 53)).heap[L + 2]? = some (.cells zMsgC.toArray 53 (0, 0)) ∧ Below w.heap.size w (W2.alloc (.cells zMsgC.toArray 53)) := by
      refine ⟨hold _ ?_, hold _ ?_, ?_, ?_⟩
      · rw [hW2, hW1, hL]; exact hold _ (hnew w _)
      · rw [hW2, ← s1]; exact hnew W1 _
      · rw [← s2]; exact hnew W2 _
      · rw [hW2, hW1]; exact (((Below.refl _ w).alloc (Nat.le_refl _) _).alloc (by simp) _).alloc (by simp; omega) _
    rw [hW2, hW1] at hM
    exact hM
  clear s1 s2 hW1 hW2 W1 W2
  rintro _ X ⟨f0, f1, f2, hbX⟩
  refine ⟨vs, hw.len, cells_block f0, hlt f0, ?_⟩
  refine Calls.mono (FitsT_c (Nat.le_trans hB hbX.size) (hw.below (hbX.mono hB)) (hT.below hbX) h1 (hl.below hbX) (by omega)) ?_
  rintro e V ⟨rfl, hbV⟩
  rw [hf]
  refine brF ?_
  have hbw : Below w.heap.size w V := hbX.trans (hbV.mono hbX.size)
  refine DrawE.ord [4] [0, 2, 1, 3, 4, 5] (by kernel_rfl) ?_
  have hbd : Below V.heap.size V V.drew := (Below.refl _ V).drew
  have hbwd : Below w.heap.size w V.drew := hbw.trans (hbd.mono hbw.size)
  have g0 := block_below hbd (block_below hbV f0)
  have g1 := block_below hbd (block_below hbV f1)
  have g2 := block_below hbd (block_below hbV f2)
  have hC : WldC B V.drew L p g md := ⟨Nat.le_trans hB hbwd.size, ⟨vs, g0, hw.below (hbwd.mono hB)⟩, hT.below hbwd⟩
  refine ⟨m.enc, rfl, cells_block g1, hlt g1, ?_⟩
  refine Calls.mono (newIndex_c hC hgc hn4 (hl.below hbwd) hr (by omega)) ?_
  rintro e U ⟨rfl, hbU⟩
  refine ⟨hbU, ?_⟩
  have hio : IdxOk n (toN l l.length) := idx_ok hn4 (by omega)
  refine Calls.mono (msg_c (m := m) hio) ?_
  rintro e Y ⟨rfl, hbY⟩
  refine ⟨hbY, ?_⟩
  have g3 := block_below hbY (block_below hbU g2)
  refine store_box (v := .agg (turnM n (toN l l.length) m).enc.toArray) (ttOk.get 53 _ rfl) g3 rfl rfl rfl ?_
  have g4 := setRow_new (cs' := (Value.agg (turnM n (toN l l.length) m).enc.toArray).cells) g3
  refine ⟨(turnM n (toN l l.length) m).enc, rfl, cells_block g4, ?_⟩
  have hbY2 : Below w.heap.size w Y := (hbwd.trans (hbU.mono hbwd.size)).trans (hbY.mono (Nat.le_trans hbwd.size hbU.size))
  refine ⟨by rw [hln]; rfl, below_setRow hbY2 (by omega) _⟩
end Go.Proofs.YthgmcegmgjoafaaGreatDoor
namespace Go.Proofs.YthgmcegmgjoafaaGreatDoor
open Go.Vc Go.RowKit Go.Sei
theorem view1_c {ib n k : Nat} {pr : Bool} {to : List Int} {w : World} (hi : w.heap[ib]? = some (.cells (idxC n pr to).toArray 116 (0, 0))) (hk : k < 4) (h4 : to.length = 4) :
    Calls Tryz.prog 140 #[i64 k, .pointer (some ⟨ib, 0, none⟩)] w fun e w' => e = .returned (.int .u8 (to.getD k 0)) ∧ w = w' := by
  refine calls_of_E (S := sg 8) (sgOk _) (args := [i64 k, .pointer (some ⟨ib, 0, none⟩)]) Tryz.func140 rfl rfl (Nat.le_of_ble_eq_true rfl) rfl ?_
  refine ⟨k, rfl, hk, ?_⟩
  have hg : (idxC n pr to)[2 + k]? = some (.int .u8 (to.getD k 0)) := by
    rw [Nat.add_comm]
    show (to.map (fun x => Value.int .u8 x))[k]? = _
    rw [List.getElem?_map, List.getElem?_eq_getElem (by omega), List.getD_eq_getElem?_getD, List.getElem?_eq_getElem (by omega)]; rfl
  refine ⟨_, by have := cells_at (cells_block hi) hg; rw [Nat.mul_one]; exact (by rw [Nat.zero_add] at this; exact this), ?_⟩
  exact ⟨rfl, rfl⟩
def startN (s bits : Nat) : Nat := (BitVec.ofInt 64 (s : Int) &&& ~~~ BitVec.ofInt 64 ((2 ^ bits - 1 : Nat) : Int)).toNat
def movedN (s bits : Nat) (to : List Int) (k : Nat) : Nat := (List.range k).foldl (fun out k => if s &&& 2 ^ k = 0 then out else out ||| 2 ^ (to.getD k 0).toNat) (startN s bits)
theorem movedN_succ (s bits : Nat) (to : List Int) (k : Nat) : movedN s bits to (k + 1) = if s &&& 2 ^ k = 0 then movedN s bits to k else movedN s bits to k ||| 2 ^ (to.getD k 0).toNat := by
  unfold movedN
  rw [List.range_succ, List.foldl_append]; rfl
theorem shl_one {e : Nat} (he : e < 64) : IntKind.u64.wrap ((1 : Int) * 2 ^ (min e IntKind.u64.bits)) = ((2 ^ e : Nat) : Int) := by
  have h64 : 2 ^ e < 2 ^ 64 := Nat.pow_lt_pow_right (by decide) he
  have e1 : min e IntKind.u64.bits = e := by
    show min e 64 = _
    omega
  rw [e1, Int.one_mul]
  have e2 : (2 : Int) ^ e = ((2 ^ e : Nat) : Int) := by simp
  rw [e2]
  obtain ⟨q, hq⟩ : ∃ q, q = 2 ^ e := ⟨_, rfl⟩
  rw [← hq] at h64 ⊢
  exact wrap_u64 (by omega)
theorem movedN_lt {s bits : Nat} {to : List Int} (h : ∀ k, (to.getD k 0).toNat < 64) : ∀ k, movedN s bits to k < 2 ^ 64
  | 0 => BitVec.isLt _
  | k + 1 => by
    rw [movedN_succ]
    split
    · exact movedN_lt h k
    · exact Nat.or_lt_two_pow (movedN_lt h k) (Nat.pow_lt_pow_right (by decide) (h k))
theorem moved_c {s bits ib n : Nat} {pr : Bool} {to : List Int} {w : World} (hi : w.heap[ib]? = some (.cells (idxC n pr to).toArray 116 (0, 0))) (h4 : to.length = 4) (hs : s < 2 ^ 64) (hbits : bits ≤ 4) (ht : ∀ k, 0 ≤ to.getD k 0 ∧ to.getD k 0 < 64) :
    Calls Tryz.prog 139 #[.int .u64 s, i64 bits, .func (.func 140) #[] #[.pointer (some ⟨ib, 0, none⟩)]] w fun e w' => e = .returned (.int .u64 (movedN s bits to bits)) ∧ w = w' := by
  refine calls_of_E (S := sg 31) (sgOk _) (args := [.int .u64 s, i64 bits, .func (.func 140) #[] #[.pointer (some ⟨ib, 0, none⟩)]]) Tryz.func139 rfl rfl (Nat.le_of_ble_eq_true rfl) rfl ?_
  have h64 : 2 ^ bits ≤ 2 ^ 4 := Nat.pow_le_pow_right (by decide) hbits
  have hpos : 1 ≤ 2 ^ bits := Nat.one_le_two_pow
  have hsub : IntKind.u64.wrap (((2 ^ bits : Nat) : Int) - 1) = ((2 ^ bits - 1 : Nat) : Int) := by
    obtain ⟨q, hq⟩ : ∃ q, q = 2 ^ bits := ⟨_, rfl⟩
    rw [← hq] at h64 hpos ⊢
    exact (wrap_u64 (by omega)).trans (by omega)
  have hst : IntKind.u64.wrap ((startN s bits : Nat) : Int) = ((startN s bits : Nat) : Int) := by
    have : startN s bits < 2 ^ 64 := BitVec.isLt _
    exact wrap_u64 (by omega)
  refine ⟨by omega, ((2 ^ bits : Nat) : Int), shl_one (e := bits) (by omega), ?_⟩
  refine ⟨((2 ^ bits - 1 : Nat) : Int), hsub, ?_⟩
  refine ⟨((startN s bits : Nat) : Int), hst, ?_⟩
  have hlt := movedN_lt (s := s) (bits := bits) (to := to) (fun k => by have := ht k; omega)
  refine ⟨Nat, fun k => ⟨[(0, .int .u64 s), (2, .func (.func 140) #[] #[.pointer (some ⟨ib, 0, none⟩)]), (7, .int .u64 (movedN s bits to k : Nat)), (14, i64 bits), (15, i64 (k : Nat))], []⟩, fun k X => k ≤ bits ∧ w = X, fun k => bits - k, 0,
    ⟨.cons rfl (.cons rfl (.cons rfl (.cons rfl (.cons rfl .nil)))), rfl⟩, ⟨Nat.zero_le _, rfl⟩, ?_⟩
  rintro k _ ⟨hk, rfl⟩
  dsimp only at hk ⊢
  refine And.intro (fun hc => ?_) (fun hc => ?_)
  · have hc : (k : Int) < (bits : Int) := of_decide_eq_true hc
    have hkb : k < bits := by omega
    refine ⟨by omega, ((2 ^ k : Nat) : Int), shl_one (e := k) (by omega), ?_⟩
    have h2k : 2 ^ k < 2 ^ 64 := Nat.pow_lt_pow_right (by decide) (by omega)
    refine ⟨_, u64_and (a := s) (b := 2 ^ k) hs h2k, ?_⟩
    refine And.intro (fun h => ?_) (fun h => ?_)
    · have h : (!decide (((s &&& 2 ^ k : Nat) : Int) = 0)) = true := h
      have h : ¬ ((s &&& 2 ^ k : Nat) : Int) = 0 := by simpa using h
      have hne : ¬ s &&& 2 ^ k = 0 := fun e => h (by rw [e]; rfl)
      refine Calls.mono (view1_c hi (by omega) h4) ?_
      rintro e _ ⟨rfl, rfl⟩
      obtain ⟨t0, t1⟩ := ht k
      refine ⟨t0, _, shl_one (e := (to.getD k 0).toNat) (by omega), ?_⟩
      refine ⟨_, u64_or (a := movedN s bits to k) (b := 2 ^ (to.getD k 0).toNat) (hlt k) (Nat.pow_lt_pow_right (by decide) (by omega)), ?_⟩
      refine ⟨_, (wrap_i64 (by omega)).trans rfl, ?_⟩
      have p7 : some (Value.int .u64 ((movedN s bits to k ||| 2 ^ (to.getD k 0).toNat : Nat) : Int)) = some (.int .u64 (movedN s bits to (k + 1) : Nat)) := by rw [movedN_succ, if_neg hne]
      exact ⟨k + 1, ⟨.cons rfl (.cons rfl (.cons p7 (.cons rfl (.cons rfl .nil)))), rfl⟩, ⟨hkb, rfl⟩, by show bits - (k + 1) < bits - k; omega⟩
    · have h : (!decide (((s &&& 2 ^ k : Nat) : Int) = 0)) = false := h
      have h : ((s &&& 2 ^ k : Nat) : Int) = 0 := by simpa using h
      have he : s &&& 2 ^ k = 0 := Int.natCast_eq_zero.1 h
      refine ⟨_, (wrap_i64 (by omega)).trans rfl, ?_⟩
      have p7 : some (Value.int .u64 (movedN s bits to k : Nat)) = some (.int .u64 (movedN s bits to (k + 1) : Nat)) := by rw [movedN_succ, if_pos he]
      exact ⟨k + 1, ⟨.cons rfl (.cons rfl (.cons p7 (.cons rfl (.cons rfl .nil)))), rfl⟩, ⟨hkb, rfl⟩, by show bits - (k + 1) < bits - k; omega⟩
  · have hc : ¬ (k : Int) < (bits : Int) := of_decide_eq_false hc
    obtain rfl : k = bits := by omega
    exact ⟨rfl, rfl⟩
end Go.Proofs.YthgmcegmgjoafaaGreatDoor
namespace Go.Proofs.YthgmcegmgjoafaaGreatDoor
open Go.Vc Go.RowKit Go.Sei
def viewC (kind : UInt8) (marks : Nat) (all : Bool) : List Value := [u8 kind, .int .u64 marks, .bool all]
structure VIx (w X : World) (L n : Nat) (pr : Bool) (to : List Int) (v r : List Value) : Prop where
  i : X.heap[L]? = some (.cells (idxC n pr to).toArray 116 (0, 0))
  v : X.heap[L + 1]? = some (.cells v.toArray 70 (0, 0))
  r : X.heap[L + 2]? = some (.cells r.toArray 70 (0, 0))
  b : Below w.heap.size w X
theorem view_c {n s : Nat} {pr all : Bool} {to : List Int} {w : World} (hn : n ≤ 4) (h4 : to.length = 4) (hs : s < 2 ^ 64) (ht : ∀ k, 0 ≤ to.getD k 0 ∧ to.getD k 0 < 64) :
    Calls Tryz.prog 73 #[.agg (idxC n pr to).toArray, .agg (viewC 1 s all).toArray] w fun e w' => e = .returned (.agg (viewC 1 (movedN s n to n) all).toArray) ∧ Below w.heap.size w w' := by
  refine calls_of_M (S := sg 41) (sgOk _) (args := [.agg (idxC n pr to).toArray, .agg (viewC 1 s all).toArray]) (.c .p (.c .p .p)) Tryz.func73 rfl rfl (Nat.le_of_ble_eq_true rfl) rfl ?_
  obtain ⟨L, hL⟩ : ∃ L, L = w.heap.size := ⟨_, rfl⟩
  obtain ⟨W1, hW1⟩ : ∃ W1, W1 = w.alloc (.cells (idxC n pr to).toArray 116) := ⟨_, rfl⟩
  obtain ⟨W2, hW2⟩ : ∃ W2, W2 = W1.alloc (.cells (viewC 1 s all).toArray 70) := ⟨_, rfl⟩
  have s1 : W1.heap.size = L + 1 := by rw [hW1, World.size_alloc, hL]
  have s2 : W2.heap.size = L + 2 := by rw [hW2, World.size_alloc, s1]
  refine ⟨Unit, fun _ => ⟨[(2, .pointer (some ⟨L, 0, none⟩)), (3, .pointer (some ⟨L + 1, 0, none⟩)), (4, .pointer (some ⟨L + 2, 0, none⟩))], []⟩, fun _ X => VIx w X L n pr to (viewC 1 s all) (viewC 0 0 false), ?_, ?_⟩
  · have q1 : some (Value.pointer (some ⟨w.heap.size, 0, none⟩)) = some (Value.pointer (some ⟨L, 0, none⟩)) := by rw [hL]
    have q2 : some (Value.pointer (some ⟨W1.heap.size, 0, none⟩)) = some (Value.pointer (some ⟨L + 1, 0, none⟩)) := by rw [s1]
    have q3 : some (Value.pointer (some ⟨W2.heap.size, 0, none⟩)) = some (Value.pointer (some ⟨L + 2, 0, none⟩)) := by rw [s2]
    rw [hW2, hW1] at q3
    rw [hW1] at q2
    refine ⟨(), ⟨.cons q1 (.cons q2 (.cons q3 .nil)), rfl⟩, ?_⟩
    have hM : VIx w (W2.alloc (.cells (viewC 0 0 false).toArray 70)) L n pr to (viewC 1 s all) (viewC 0 0 false) := by
      refine ⟨hold _ ?_, hold _ ?_, ?_, ?_⟩
      · rw [hW2, hW1, hL]; exact hold _ (hnew w _)
      · rw [hW2, ← s1]; exact hnew W1 _
      · rw [← s2]; exact hnew W2 _
      · rw [hW2, hW1]; exact (((Below.refl _ w).alloc (Nat.le_refl _) _).alloc (by simp) _).alloc (by simp; omega) _
    rw [hW2, hW1] at hM
    exact hM
  have hLw : w.heap.size ≤ L := by omega
  clear s1 s2 hW1 hW2 W1 W2
  rintro _ X hX
  refine ⟨Unit, fun _ => ⟨[(2, .pointer (some ⟨L, 0, none⟩)), (3, .pointer (some ⟨L + 1, 0, none⟩)), (4, .pointer (some ⟨L + 2, 0, none⟩))], []⟩, fun _ X => VIx w X L n pr to (viewC 1 (movedN s n to n) all) (viewC 0 0 false), ?_, ?_⟩
  · refine ⟨_, cells_at (cells_block hX.v) (i := 0) rfl, ?_⟩
    refine brT ?_
    refine brT ?_
    refine ⟨_, cells_at (cells_block hX.v) (i := 1) rfl, ?_⟩
    refine ⟨_, cells_at (cells_block hX.i) (i := 0) rfl, ?_⟩
    refine ⟨(n : Int), wrap_i64 (by omega), ?_⟩
    refine Calls.mono (moved_c hX.i h4 hs hn ht) ?_
    rintro e _ ⟨rfl, rfl⟩
    refine store_one (ttOk.get 68 _ rfl) hX.v (o := 1) (v := .int .u64 (movedN s n to n : Nat)) rfl rfl (by show 1 < 3; decide) rfl fun Y fY gY sY => ?_
    exact ⟨(), ⟨.cons rfl (.cons rfl (.cons rfl .nil)), rfl⟩, (gY.block _ (hlt hX.i) (by simp)).trans hX.i, fY, (gY.block _ (hlt hX.r) (by simp)).trans hX.r, hX.b.trans (below_grown gY hX.b.size (by omega))⟩
  clear hX
  rintro _ X hX
  refine ⟨viewC 1 (movedN s n to n) all, rfl, cells_block hX.v, hlt hX.v, ?_⟩
  refine store_box (v := .agg (viewC 1 (movedN s n to n) all).toArray) (ttOk.get 70 _ rfl) hX.r rfl rfl rfl ?_
  have f3 := setRow_new (cs' := (Value.agg (viewC 1 (movedN s n to n) all).toArray).cells) hX.r
  refine ⟨viewC 1 (movedN s n to n) all, rfl, cells_block f3, ?_⟩
  exact ⟨rfl, below_setRow hX.b (by omega) _⟩
end Go.Proofs.YthgmcegmgjoafaaGreatDoor
namespace Go.Proofs.YthgmcegmgjoafaaGreatDoor
open Go.Vc Go.RowKit Go.Sei
theorem toN_range64 {l : List Int} : ∀ {k : Nat}, k ≤ 4 → ∀ x ∈ toN l k, 0 ≤ x ∧ x < 64
  | 0, _ => fun x hx => by
    have : x = 0 := by
      unfold toN at hx
      simpa using hx
    omega
  | k + 1, hk => fun x hx => by
    rw [toN_succ] at hx
    rcases List.mem_or_eq_of_mem_set hx with hx | hx
    · exact toN_range64 (by omega) x hx
    · omega
theorem toN_get {l : List Int} (hl : l.length ≤ 4) (k : Nat) : 0 ≤ (toN l l.length).getD k 0 ∧ (toN l l.length).getD k 0 < 64 := by
  by_cases h : k < (toN l l.length).length
  · rw [getD_lt2 h]
    exact toN_range64 hl _ (List.getElem_mem h)
  · rw [List.getD_eq_getElem?_getD, List.getElem?_eq_none (by omega)]
    exact ⟨Int.le_refl _, by decide⟩
theorem View_c {B : Nat} {p : Prg} {g : Geo} {md : UInt8} {vs : List Value} {s : Nat} {all : Bool} {q : Option Addr} {cap : Nat} {l : List Int} {w : World} (hB : B ≤ w.heap.size) (hw : WldV B w vs p g md) (hT : GlobT w) (h1 : vs.all Value.oneCell' = true) (hl : SlR Go.Sei.intE w q l) (hs64 : s < 2 ^ 64) (hf : (turnsL p g && suitsL g md l) = true) :
    Calls Tryz.prog 28 #[.agg vs.toArray, .agg (viewC 1 s all).toArray, .slice q l.length cap] w fun e w' => e = .returned (.tuple #[.agg (viewC 1 (movedN s l.length (toN l l.length) l.length) all).toArray, i64 0]) ∧ Below w.heap.size w w' := by
  refine calls_of_M (S := sg 17) (sgOk _) (args := [.agg vs.toArray, .agg (viewC 1 s all).toArray, .slice q l.length cap]) (.c .p (.s .p .p)) Tryz.func28 rfl rfl (Nat.le_of_ble_eq_true rfl) rfl ?_
  obtain ⟨n, hgc, hn1, hn4, hln, hr⟩ := fits_parts hf
  obtain ⟨L, hL⟩ : ∃ L, L = w.heap.size := ⟨_, rfl⟩
  obtain ⟨W1, hW1⟩ : ∃ W1, W1 = w.alloc (.cells vs.toArray 44) := ⟨_, rfl⟩
  obtain ⟨W2, hW2⟩ : ∃ W2, W2 = W1.alloc (.cells (viewC 1 s all).toArray 70) := ⟨_, rfl⟩
  have s1 : W1.heap.size = L + 1 := by rw [hW1, World.size_alloc, hL]
  have s2 : W2.heap.size = L + 2 := by rw [hW2, World.size_alloc, s1]
  refine ⟨Unit, fun _ => ⟨[(2, .slice q l.length cap), (3, .pointer (some ⟨L, 0, none⟩)), (4, .pointer (some ⟨L + 1, 0, none⟩)), (6, .pointer (some ⟨L + 2, 0, none⟩)), (7, i64 0)], []⟩, fun _ X => X.heap[L]? = some (.cells vs.toArray 44 (0, 0)) ∧
    X.heap[L + 1]? = some (.cells (viewC 1 s all).toArray 70 (0, 0)) ∧ X.heap[L + 2]? = some (.cells (viewC 0 0 false).toArray 70 (0, 0)) ∧ Below w.heap.size w X, ?_, ?_⟩
  · have q1 : some (Value.pointer (some ⟨w.heap.size, 0, none⟩)) = some (Value.pointer (some ⟨L, 0, none⟩)) := by rw [hL]
    have q2 : some (Value.pointer (some ⟨W1.heap.size, 0, none⟩)) = some (Value.pointer (some ⟨L + 1, 0, none⟩)) := by rw [s1]
    have q3 : some (Value.pointer (some ⟨W2.heap.size, 0, none⟩)) = some (Value.pointer (some ⟨L + 2, 0, none⟩)) := by rw [s2]
    rw [hW2, hW1] at q3
    rw [hW1] at q2
    refine ⟨(), ⟨.cons rfl (.cons q1 (.cons q2 (.cons q3 (.cons rfl .nil)))), rfl⟩, ?_⟩
    have hM : (W2.alloc (.cells (viewC 0 0 false).toArray 70)).heap[L]? = some (.cells vs.toArray 44 (0, 0)) ∧ (W2.alloc (.cells (viewC 0 0 false).toArray 70)).heap[L + 1]? = some (.cells (viewC 1 s all).toArray 70 (0, 0)) ∧ (W2.alloc (.cells (viewC 0 0 false).toArray 70)).heap[L + 2]? = some (.cells (viewC 0 0 false).toArray 70 (0, 0)) ∧ Below w.heap.size w (W2.alloc (.cells (viewC 0 0 false).toArray 70)) := by
      refine ⟨hold _ ?_, hold _ ?_, ?_, ?_⟩
      · rw [hW2, hW1, hL]; exact hold _ (hnew w _)
      · rw [hW2, ← s1]; exact hnew W1 _
      · rw [← s2]; exact hnew W2 _
      · rw [hW2, hW1]; exact (((Below.refl _ w).alloc (Nat.le_refl _) _).alloc (by simp) _).alloc (by simp; omega) _
    rw [hW2, hW1] at hM
    exact hM
  clear s1 s2 hW1 hW2 W1 W2
  rintro _ X ⟨f0, f1, f2, hbX⟩
  refine ⟨vs, hw.len, cells_block f0, hlt f0, ?_⟩
  refine Calls.mono (FitsT_c (Nat.le_trans hB hbX.size) (hw.below (hbX.mono hB)) (hT.below hbX) h1 (hl.below hbX) (by omega)) ?_
  rintro e V ⟨rfl, hbV⟩
  rw [hf]
  refine brF ?_
  have hbw : Below w.heap.size w V := hbX.trans (hbV.mono hbX.size)
  refine DrawE.ord [4] [0, 2, 1, 3, 4, 5] (by kernel_rfl) ?_
  have hbd : Below V.heap.size V V.drew := (Below.refl _ V).drew
  have hbwd : Below w.heap.size w V.drew := hbw.trans (hbd.mono hbw.size)
  have g0 := block_below hbd (block_below hbV f0)
  have g1 := block_below hbd (block_below hbV f1)
  have g2 := block_below hbd (block_below hbV f2)
  have hC : WldC B V.drew L p g md := ⟨Nat.le_trans hB hbwd.size, ⟨vs, g0, hw.below (hbwd.mono hB)⟩, hT.below hbwd⟩
  refine ⟨(viewC 1 s all), rfl, cells_block g1, hlt g1, ?_⟩
  refine Calls.mono (newIndex_c hC hgc hn4 (hl.below hbwd) hr (by omega)) ?_
  rintro e U ⟨rfl, hbU⟩
  refine ⟨hbU, ?_⟩
  refine Calls.mono (view_c (s := s) (all := all) hn4 (toN_len _ _) hs64 (toN_get (by omega))) ?_
  rintro e Y ⟨rfl, hbY⟩
  refine ⟨hbY, ?_⟩
  have g3 := block_below hbY (block_below hbU g2)
  refine store_box (v := .agg (viewC 1 (movedN s n (toN l l.length) n) all).toArray) (ttOk.get 70 _ rfl) g3 rfl rfl rfl ?_
  have g4 := setRow_new (cs' := (Value.agg (viewC 1 (movedN s n (toN l l.length) n) all).toArray).cells) g3
  refine ⟨(viewC 1 (movedN s n (toN l l.length) n) all), rfl, cells_block g4, ?_⟩
  have hbY2 : Below w.heap.size w Y := (hbwd.trans (hbU.mono hbwd.size)).trans (hbY.mono (Nat.le_trans hbwd.size hbU.size))
  refine ⟨by rw [hln]; rfl, below_setRow hbY2 (by omega) _⟩
end Go.Proofs.YthgmcegmgjoafaaGreatDoor
namespace Go.Proofs.YthgmcegmgjoafaaGreatDoor
open Go.Vc Go.RowKit Go.Sei
def zeroW : List Value := [.string ByteArray.empty, .slice none 0 0, .slice none 0 0, .slice none 0 0, u8 0, u8 0, u8 0, u8 0, u8 0, .slice none 0 0, i64 0, i64 0, i64 0, i64 0, i64 0, u8 0, u8 0, u8 0, i64 0, .bool false, .string ByteArray.empty] ++ (List.replicate 188 [.int .u8 0, .int .u8 0, .int .u16 0]).flatten
theorem zeroW_len : zeroW.length = 585 := by kernel_rfl
theorem zeroW_one : zeroW.all Value.oneCell' = true := by kernel_rfl
theorem World_no_c {B : Nat} {p : Prg} {g : Geo} {md : UInt8} {vs : List Value} {q : Option Addr} {cap : Nat} {l : List Int} {w : World} (hB : B ≤ w.heap.size) (hw : WldV B w vs p g md) (hT : GlobT w) (h1 : vs.all Value.oneCell' = true) (hl : SlR Go.Sei.intE w q l) (hn : l.length ≤ 1000) (hf : (turnsL p g && suitsL g md l) = false) :
    Calls Tryz.prog 25 #[.agg vs.toArray, .slice q l.length cap] w fun e w' => e = .returned (.tuple #[.agg zeroW.toArray, i64 2]) ∧ Below w.heap.size w w' := by
  refine calls_of_M (S := sg 45) (sgOk _) (args := [.agg vs.toArray, .slice q l.length cap]) (.c .p .p) Tryz.func25 rfl rfl (Nat.le_of_ble_eq_true rfl) rfl ?_
  obtain ⟨L, hL⟩ : ∃ L, L = w.heap.size := ⟨_, rfl⟩
  obtain ⟨W1, hW1⟩ : ∃ W1, W1 = w.alloc (.cells vs.toArray 44) := ⟨_, rfl⟩
  have s1 : W1.heap.size = L + 1 := by rw [hW1, World.size_alloc, hL]
  refine ⟨Unit, fun _ => ⟨[(1, .slice q l.length cap), (2, .pointer (some ⟨L, 0, none⟩)), (4, .pointer (some ⟨L + 1, 0, none⟩))], []⟩, fun _ X => X.heap[L]? = some (.cells vs.toArray 44 (0, 0)) ∧
    (∃ cs : Array Value, X.heap[L + 1]? = some (.cells cs 44 (0, 0)) ∧ cs.size = 585) ∧ Below w.heap.size w X, ?_, ?_⟩
  · have q1 : some (Value.pointer (some ⟨w.heap.size, 0, none⟩)) = some (Value.pointer (some ⟨L, 0, none⟩)) := by rw [hL]
    have q2 : some (Value.pointer (some ⟨W1.heap.size, 0, none⟩)) = some (Value.pointer (some ⟨L + 1, 0, none⟩)) := by rw [s1]
    rw [hW1] at q2
    refine ⟨(), ⟨.cons rfl (.cons q1 (.cons q2 .nil)), rfl⟩, ?_⟩
    have hM : ∀ cs : Array Value, cs.size = 585 → (W1.alloc (.cells cs 44)).heap[L]? = some (.cells vs.toArray 44 (0, 0)) ∧ (∃ cs' : Array Value, (W1.alloc (.cells cs 44)).heap[L + 1]? = some (.cells cs' 44 (0, 0)) ∧ cs'.size = 585) ∧ Below w.heap.size w (W1.alloc (.cells cs 44)) := fun cs hcs => by
      refine ⟨hold _ ?_, ⟨cs, ?_, hcs⟩, ?_⟩
      · rw [hW1, hL]; exact hnew w _
      · rw [← s1]; exact hnew W1 _
      · rw [hW1]; exact ((Below.refl _ w).alloc (Nat.le_refl _) _).alloc (by simp) _
    rw [hW1] at hM
    refine hM _ ?_
    kernel_rfl
  clear s1 hW1 W1
  rintro _ X ⟨f0, ⟨cs, f1, hcs⟩, hbX⟩
  refine ⟨vs, hw.len, cells_block f0, hlt f0, ?_⟩
  refine Calls.mono (FitsT_c (Nat.le_trans hB hbX.size) (hw.below (hbX.mono hB)) (hT.below hbX) h1 (hl.below hbX) (by omega)) ?_
  rintro e V ⟨rfl, hbV⟩
  rw [hf]
  refine brT ?_
  have hbw : Below w.heap.size w V := hbX.trans (hbV.mono hbX.size)
  refine ⟨zeroW, by kernel_rfl, ?_⟩
  refine store_box (v := .agg zeroW.toArray) (ttOk.get 44 _ rfl) (block_below hbV f1) zeroW_len hcs zeroW_one ?_
  have f3 := setRow_new (cs' := (Value.agg zeroW.toArray).cells) (block_below hbV f1)
  refine ⟨zeroW, zeroW_len, cells_block f3, ?_⟩
  exact ⟨rfl, below_setRow hbw (by omega) _⟩
end Go.Proofs.YthgmcegmgjoafaaGreatDoor
namespace Go.Proofs.YthgmcegmgjoafaaGreatDoor
open Go.Vc Go.RowKit Go.Sei
structure Lens (s : Sy) : Prop where
  cores : s.cores.length ≤ 140737488351232
  caches : s.caches.length ≤ 140737488351232
  net : s.net.length ≤ 140737488351232
  buf : ∀ c ∈ s.cores, c.buf.length ≤ 140737488351232
def bufS (l : List Cor) : Nat := (l.map fun c => c.buf.length).sum
theorem bufS_take {l : List Cor} {k : Nat} (hk : k < l.length) : bufS (l.take (k + 1)) = bufS (l.take k) + l[k].buf.length := by
  unfold bufS; rw [List.take_succ_eq_append_getElem hk, List.map_append, List.sum_append]; simp
def smallSy (s : Sy) : Prop := s.cores.length + s.caches.length + s.net.length + bufS s.cores ≤ 40
theorem few_c {vs : List Value} {s : Sy} {w : World} (hS : SysV w.heap.size w vs s) (hl : Lens s) :
    Calls Tryz.prog 15 #[.agg vs.toArray] w fun e w' => ∃ b : Bool, e = .returned (.bool b) ∧ (b = true → smallSy s) ∧ Below w.heap.size w w' := by
  refine calls_of_E (S := sg 38) (sgOk _) (args := [.agg vs.toArray]) Tryz.func15 rfl rfl (Nat.le_of_ble_eq_true rfl) rfl ?_
  have hb0 : Below w.heap.size w (w.alloc (.cells vs.toArray 75)) := (Below.refl _ w).alloc (Nat.le_refl _) _
  have hn0 := hnew w (.cells vs.toArray 75)
  have hlt0 : w.heap.size < (w.alloc (.cells vs.toArray 75)).heap.size := hlt hn0
  obtain ⟨⟨p1, c1, p2, c2, p3, c3, rfl, hco, hca, hne, hnil⟩, h6⟩ := hS
  have hH : (s.homes.flatMap homE.enc).length = 66 := by rw [flat_len, h6]; rfl
  have hcl := cells_block hn0
  obtain ⟨L, hL⟩ : ∃ L, L = w.heap.size := ⟨_, rfl⟩
  have q1 : some (Value.pointer (some ⟨w.heap.size, 0, none⟩)) = some (Value.pointer (some ⟨L, 0, none⟩)) := by rw [hL]
  have a1 := hl.cores
  have a2 := hl.caches
  have a3 := hl.net
  refine ⟨_, cells_at hcl (i := 0) rfl, ?_⟩
  refine ⟨_, cells_at hcl (i := 1) rfl, ?_⟩
  refine ⟨((s.cores.length + s.caches.length : Nat) : Int), (wrap_i64 (by omega)).trans (by omega), ?_⟩
  refine ⟨_, cells_at hcl (i := 68) (sys_net hH), ?_⟩
  refine ⟨((s.cores.length + s.caches.length + s.net.length : Nat) : Int), (wrap_i64 (by omega)).trans (by omega), ?_⟩
  obtain ⟨A, hA⟩ : ∃ A, A = s.cores.length + s.caches.length + s.net.length := ⟨_, rfl⟩
  rw [← hA]
  refine ⟨Nat, fun k => ⟨[(1, .pointer (some ⟨L, 0, none⟩)), (3, i64 ((A + bufS (s.cores.take k) : Nat) : Int)), (4, i64 (k : Nat))], []⟩, fun k X => (k ≤ s.cores.length ∧ A + bufS (s.cores.take k) ≤ 4 * 140737488351232) ∧ (w.alloc (.cells (Value.slice p1 s.cores.length c1 :: .slice p2 s.caches.length c2 :: (s.homes.flatMap homE.enc ++ [.slice p3 s.net.length c3])).toArray 75)) = X, fun k => s.cores.length - k, 0,
    ⟨.cons q1 (.cons (by simp [bufS]; rfl) (.cons rfl .nil)), rfl⟩, ⟨⟨Nat.zero_le _, by simp [bufS]; omega⟩, rfl⟩, ?_⟩
  clear q1
  rintro k _ ⟨⟨hk, hn⟩, rfl⟩
  subst hL
  have hcore := cells_at hcl (i := 0) rfl
  refine ⟨_, hcore, ?_⟩
  refine And.intro (fun h1 => ?_) (fun h1 => ?_)
  · have h1 : (k : Int) < (s.cores.length : Int) := of_decide_eq_true h1
    have hkl : k < s.cores.length := by omega
    refine And.intro (fun h2 => ?_) (fun h2 => ?_)
    · have h2 : ((A + bufS (s.cores.take k) : Nat) : Int) ≤ 40 := of_decide_eq_true h2
      refine ⟨_, hcore, ?_⟩
      obtain ⟨b, o, hp, hat⟩ := hco
      rcases hp with hp | rfl
      · omega
      obtain ⟨q, cp, hbB, hcc, _⟩ := hat k hkl
      refine ⟨k, rfl, hkl, ?_⟩
      have hcc' := cells_below hb0 hcc
      refine ⟨.slice q s.cores[k].buf.length cp, cells_at hcc' (i := 9) rfl, ?_⟩
      have hbk := hl.buf _ (List.getElem_mem hkl)
      refine ⟨((A + bufS (s.cores.take (k + 1)) : Nat) : Int), ?_, ?_⟩
      · rw [bufS_take hkl]
        exact (wrap_i64 (by omega)).trans (by omega)
      refine ⟨_, (wrap_i64 (by omega)).trans rfl, ?_⟩
      refine ⟨k + 1, ⟨.cons rfl (.cons rfl (.cons rfl .nil)), rfl⟩, ⟨⟨hkl, ?_⟩, rfl⟩, by show s.cores.length - (k + 1) < s.cores.length - k; omega⟩
      rw [bufS_take hkl]; omega
    · have h2 : ¬ ((A + bufS (s.cores.take k) : Nat) : Int) ≤ 40 := of_decide_eq_false h2
      refine ⟨_, rfl, fun h => ?_, hb0⟩
      exact absurd (of_decide_eq_true h) h2
  · have h1 : ¬ (k : Int) < (s.cores.length : Int) := of_decide_eq_false h1
    obtain rfl : k = s.cores.length := by omega
    refine brF ?_
    refine ⟨_, rfl, fun h => ?_, hb0⟩
    have h : ((A + bufS (s.cores.take s.cores.length) : Nat) : Int) ≤ 40 := of_decide_eq_true h
    rw [List.take_length] at h
    show _ ≤ 40
    omega
end Go.Proofs.YthgmcegmgjoafaaGreatDoor
namespace Go.Proofs.YthgmcegmgjoafaaGreatDoor
open Go.Vc Go.RowKit Go.Sei
theorem tI8 : TyEq Tryz.prog 141 false 1 1 (GInt .i8) := .int Tryz.underlying141 (fun w => Tryz.isAgg141 w) (known_of (by kernel_rfl) (by kernel_rfl)).1 (by kernel_rfl)
theorem tInt : TyEq Tryz.prog 3 false 1 1 (GInt .i64) := .int Tryz.underlying3 (fun w => Tryz.isAgg3 w) (known_of (by kernel_rfl) (by kernel_rfl)).1 (by kernel_rfl)
theorem tSet : TyEq Tryz.prog 68 false 1 1 (GInt .u64) := .int Tryz.underlying68 (fun w => Tryz.isAgg68 w) (known_of (by kernel_rfl) (by kernel_rfl)).1 (by kernel_rfl)
theorem tData : TyEq Tryz.prog 51 true (4 * 1) 2 (GArr 4 1 (GInt .u8)) := .array (by decide) Tryz.underlying51 (fun w => Tryz.isAgg51 w) (known_of (by kernel_rfl) (by kernel_rfl)).1 (by kernel_rfl) tU8
theorem tFour : TyEq Tryz.prog 50 true (4 * 1) 2 (GArr 4 1 (GInt .u8)) := .array (by decide) Tryz.underlying50 (fun w => Tryz.isAgg50 w) (known_of (by kernel_rfl) (by kernel_rfl)).1 (by kernel_rfl) tU8
theorem tRegs : TyEq Tryz.prog 131 true (8 * 1) 2 (GArr 8 1 (GInt .u8)) := .array (by decide) Tryz.underlying131 (fun w => Tryz.isAgg131 w) (known_of (by kernel_rfl) (by kernel_rfl)).1 (by kernel_rfl) tU8
theorem tSto : ∃ G, TyEq Tryz.prog 155 true 2 2 G ∧ ∀ s, G (stoE.enc s) := by
  refine ⟨_, .struct (uf Tryz.underlying155).1 (by kernel_rfl) (fun w => Tryz.isAgg155 w) (known_of (by kernel_rfl) (by kernel_rfl)).1 (by kernel_rfl)
    (by rw [(uf Tryz.underlying155).2]; exact .cons (by decide) rfl tU8 (.cons (by decide) rfl tU8 .nil)), fun s => ?_⟩
  exact ⟨⟨_, rfl⟩, ⟨_, rfl⟩, trivial⟩
theorem gBytes (l : List UInt8) {m : Nat} (h : l.length = m) : GArr m 1 (GInt .u8) (l.map u8) := fun i hi => by
  have hi : i < l.length := by omega
  refine ⟨(l[i].toNat : Int), ?_⟩
  unfold chunk
  rw [Nat.mul_one, List.drop_eq_getElem_cons (by simpa using hi)]
  simp [u8]
theorem tLin : ∃ G, TyEq Tryz.prog 143 true 8 3 G ∧ ∀ s, G (linE.enc s) := by
  refine ⟨_, .struct (uf Tryz.underlying143).1 (by kernel_rfl) (fun w => Tryz.isAgg143 w) (known_of (by kernel_rfl) (by kernel_rfl)).1 (by kernel_rfl)
    (by rw [(uf Tryz.underlying143).2]; exact .cons (by decide) rfl (tU8.up 1) (.cons (by decide) rfl (tU8.up 1) (.cons (by decide) rfl (tI8.up 1) (.cons (by decide) rfl (tBool.up 1) (.cons (by decide) rfl tData .nil))))), fun s => ?_⟩
  exact ⟨⟨_, rfl⟩, ⟨_, rfl⟩, ⟨_, rfl⟩, ⟨_, rfl⟩, gBytes [s.d0, s.d1, s.d2, s.d3] rfl, trivial⟩
theorem tNte : ∃ G, TyEq Tryz.prog 147 true 7 3 G ∧ ∀ s, G (nteE.enc s) := by
  refine ⟨_, .struct (uf Tryz.underlying147).1 (by kernel_rfl) (fun w => Tryz.isAgg147 w) (known_of (by kernel_rfl) (by kernel_rfl)).1 (by kernel_rfl)
    (by rw [(uf Tryz.underlying147).2]; exact .cons (by decide) rfl (tU8.up 1) (.cons (by decide) rfl (tInt.up 1) (.cons (by decide) rfl tFour (.cons (by decide) rfl (tU8.up 1) .nil)))), fun s => ?_⟩
  exact ⟨⟨_, rfl⟩, ⟨_, rfl⟩, gBytes [s.o0, s.o1, s.o2, s.o3] rfl, ⟨_, rfl⟩, trivial⟩
theorem tOp : ∃ G, TyEq Tryz.prog 88 true 4 2 G ∧ ∀ c, G (opCells c) := by
  refine ⟨_, .struct (uf Tryz.underlying88).1 (by kernel_rfl) (fun w => Tryz.isAgg88 w) (known_of (by kernel_rfl) (by kernel_rfl)).1 (by kernel_rfl)
    (by rw [(uf Tryz.underlying88).2]; exact .cons (by decide) rfl tU8 (.cons (by decide) rfl tU8 (.cons (by decide) rfl tU8 (.cons (by decide) rfl tU8 .nil)))), fun s => ?_⟩
  exact ⟨⟨_, rfl⟩, ⟨_, rfl⟩, ⟨_, rfl⟩, ⟨_, rfl⟩, trivial⟩
theorem tView : ∃ G, TyEq Tryz.prog 70 true 3 2 G ∧ ∀ h : Hom, G [u8 h.kind, .int .u64 (leM h), .bool h.all] := by
  refine ⟨_, .struct (uf Tryz.underlying70).1 (by kernel_rfl) (fun w => Tryz.isAgg70 w) (known_of (by kernel_rfl) (by kernel_rfl)).1 (by kernel_rfl)
    (by rw [(uf Tryz.underlying70).2]; exact .cons (by decide) rfl tU8 (.cons (by decide) rfl tSet (.cons (by decide) rfl tBool .nil))), fun s => ?_⟩
  exact ⟨⟨_, rfl⟩, ⟨_, rfl⟩, ⟨_, rfl⟩, trivial⟩
theorem tHom : ∃ G, TyEq Tryz.prog 72 true 11 3 G ∧ ∀ s, G (homE.enc s) := by
  obtain ⟨G, h1, h2⟩ := tView
  refine ⟨_, .struct (uf Tryz.underlying72).1 (by kernel_rfl) (fun w => Tryz.isAgg72 w) (known_of (by kernel_rfl) (by kernel_rfl)).1 (by kernel_rfl)
    (by rw [(uf Tryz.underlying72).2]; exact .cons (by decide) rfl (tU8.up 1) (.cons (by decide) rfl (tU8.up 1) (.cons (by decide) rfl h1 (.cons (by decide) rfl (tU8.up 1) (.cons (by decide) rfl (tU8.up 1) (.cons (by decide) rfl tData .nil)))))), fun s => ?_⟩
  exact ⟨⟨_, rfl⟩, ⟨_, rfl⟩, h2 s, ⟨_, rfl⟩, ⟨_, rfl⟩, gBytes [s.d0, s.d1, s.d2, s.d3] rfl, trivial⟩
theorem gFlat {α : Type} {E : Enc α} {G : List Value → Prop} (h : ∀ a, G (E.enc a)) (l : List α) {m : Nat} (hl : l.length = m) : GArr m E.sz G (l.flatMap E.enc) := fun i hi => by
  unfold chunk
  rw [flat_get l i (by omega)]
  exact h _
theorem tHoms : ∃ G, TyEq Tryz.prog 73 true (6 * 11) 4 G ∧ ∀ l : List Hom, l.length = 6 → G (l.flatMap homE.enc) := by
  obtain ⟨G, h1, h2⟩ := tHom
  exact ⟨_, .array (by decide) Tryz.underlying73 (fun w => Tryz.isAgg73 w) (known_of (by kernel_rfl) (by kernel_rfl)).1 (by kernel_rfl) h1, fun l hl => gFlat (E := homE) h2 l hl⟩
theorem tCac : ∃ G, TyEq Tryz.prog 150 true 160 6 G ∧ ∀ c : Cac, c.ways.length = 16 → c.notes.length = 4 → G (cacCells c) := by
  obtain ⟨GL, l1, l2⟩ := tLin
  obtain ⟨GN, n1, n2⟩ := tNte
  obtain ⟨GO, o1, o2⟩ := tOp
  have hrow : TyEq Tryz.prog 144 true (4 * 8) 4 (GArr 4 8 GL) := .array (by decide) Tryz.underlying144 (fun w => Tryz.isAgg144 w) (known_of (by kernel_rfl) (by kernel_rfl)).1 (by kernel_rfl) l1
  have hways : TyEq Tryz.prog 145 true (4 * (4 * 8)) 5 (GArr 4 (4 * 8) (GArr 4 8 GL)) := .array (by decide) Tryz.underlying145 (fun w => Tryz.isAgg145 w) (known_of (by kernel_rfl) (by kernel_rfl)).1 (by kernel_rfl) hrow
  have hnts : TyEq Tryz.prog 148 true (4 * 7) 4 (GArr 4 7 GN) := .array (by decide) Tryz.underlying148 (fun w => Tryz.isAgg148 w) (known_of (by kernel_rfl) (by kernel_rfl)).1 (by kernel_rfl) n1
  refine ⟨_, .struct (uf Tryz.underlying150).1 (by kernel_rfl) (fun w => Tryz.isAgg150 w) (known_of (by kernel_rfl) (by kernel_rfl)).1 (by kernel_rfl)
    (by rw [(uf Tryz.underlying150).2]; exact .cons (by decide) rfl hways (.cons (by decide) rfl (hnts.up 1) (.cons (by decide) rfl (o1.up 3) .nil))), fun c hw hn => ?_⟩
  have e1 : (c.ways.flatMap linE.enc).length = 128 := by rw [flat_len, hw]; rfl
  have e2 : (c.notes.flatMap nteE.enc).length = 28 := by rw [flat_len, hn]; rfl
  have t1 : (cacCells c).take (4 * (4 * 8)) = c.ways.flatMap linE.enc := by unfold cacCells; rw [List.take_append_of_le_length (by omega), List.take_of_length_le (by omega)]
  have d1 : (cacCells c).drop (4 * (4 * 8)) = c.notes.flatMap nteE.enc ++ opCells c := by unfold cacCells; rw [List.drop_append_of_le_length (by omega), List.drop_of_length_le (by omega), List.nil_append]
  refine ⟨?_, ?_, ?_, trivial⟩
  · rw [t1]
    intro i hi
    have e : chunk (c.ways.flatMap linE.enc) (i * (4 * 8)) (4 * 8) = ((c.ways.drop (4 * i)).take 4).flatMap linE.enc := by
      rw [← flat_sub]
      show ((c.ways.flatMap linE.enc).drop (i * (4 * 8))).take (4 * 8) = ((c.ways.flatMap linE.enc).drop (4 * i * 8)).take (4 * 8)
      rw [show i * (4 * 8) = 4 * i * 8 by omega]
    rw [e]
    exact gFlat (E := linE) l2 _ (by rw [List.length_take, List.length_drop]; omega)
  · rw [d1, List.take_append_of_le_length (by omega), List.take_of_length_le (by omega)]
    exact gFlat (E := nteE) n2 _ hn
  · rw [d1, List.drop_append_of_le_length (by omega), List.drop_of_length_le (by omega), List.nil_append]
    exact o2 c
end Go.Proofs.YthgmcegmgjoafaaGreatDoor
namespace Go.Proofs.YthgmcegmgjoafaaGreatDoor
open Go.Vc Go.RowKit Go.Sei
theorem eql_bool (x y : Operand) (a b : Bool) (w : World) : (do eqGuard .eql 4 x y (.bool a) (.bool b); binOp .eql 4 (.bool a) (.bool b)).run Tryz.prog w = .ok (.bool (decide (a = b))) w := by
  have he : (Op.equal 4 (.bool a) (.bool b)).run Tryz.prog w = .ok (decide (a = b)) w := eq_bool' 9999 a b w
  have h1 : (eqGuard .eql 4 x y (.bool a) (.bool b)).run Tryz.prog w = .ok () w := by
    simp only [eqGuard, Bool.not_true, Bool.false_eq_true, if_false, Sem.run_pure]
  rw [Sem.run_bind, h1]
  simp only [Result.andThen_ok, binOp, Sem.run_bind, he, Sem.run_pure]
theorem u8_inj {x y : UInt8} (h : u8 x = u8 y) : x = y := by
  simp only [u8, Value.int.injEq, true_and] at h
  exact u8_eq.1 h
theorem s8_inj {x y : UInt8} (h : s8 x = s8 y) : x = y := by
  have hx := x.toNat_lt
  have hy := y.toNat_lt
  apply UInt8.toNat_inj.1
  unfold s8 at h
  split at h <;> split at h <;> omega
theorem leL_inj : ∀ {l l' : List UInt8}, l.length = l'.length → leL l = leL l' → l = l'
  | [], [], _, _ => rfl
  | a :: r, b :: s, hl, h => by
    have ha := a.toNat_lt
    have hb := b.toNat_lt
    simp only [leL] at h
    have h1 : a.toNat = b.toNat := by omega
    have h2 : leL r = leL s := by omega
    rw [UInt8.toNat_inj.1 h1, leL_inj (by simpa using hl) h2]
theorem sto_inj {s t : Sto} (h : stoE.enc s = stoE.enc t) : s = t := by
  simp only [stoE, List.cons.injEq, and_true] at h
  obtain ⟨h1, h2⟩ := h
  cases s; cases t
  simp only [Sto.mk.injEq]
  exact ⟨u8_inj h1, u8_inj h2⟩
theorem lin_inj {s t : Lin} (h : linE.enc s = linE.enc t) : s = t := by
  simp only [linE, List.cons.injEq, and_true, Value.int.injEq, true_and, Value.bool.injEq] at h
  obtain ⟨h1, h2, h3, h4, h5, h6, h7, h8⟩ := h
  cases s; cases t
  simp only [Lin.mk.injEq]
  exact ⟨u8_inj h1, u8_inj h2, s8_inj h3, h4, u8_inj h5, u8_inj h6, u8_inj h7, u8_inj h8⟩
theorem nte_inj {s t : Nte} (h : nteE.enc s = nteE.enc t) : s = t := by
  simp only [nteE, i64v, List.cons.injEq, and_true, Value.int.injEq, true_and] at h
  obtain ⟨h1, h2, h3, h4, h5, h6, h7⟩ := h
  cases s; cases t
  simp only [Nte.mk.injEq]
  exact ⟨u8_inj h1, h2, u8_inj h3, u8_inj h4, u8_inj h5, u8_inj h6, u8_inj h7⟩
theorem hom_inj {s t : Hom} (h : homE.enc s = homE.enc t) : s = t := by
  simp only [homE, List.cons.injEq, and_true, Value.int.injEq, true_and, Value.bool.injEq] at h
  obtain ⟨h1, h2, h3, h4, h5, h6, h7, h8, h9, h10, h11⟩ := h
  have h4 : leM s = leM t := by omega
  rw [leM_leL, leM_leL] at h4
  have h12 := leL_inj (by rfl) h4
  simp only [mL, List.cons.injEq, and_true] at h12
  obtain ⟨g0, g1, g2, g3, g4, g5, g6, g7⟩ := h12
  cases s; cases t
  simp only [Hom.mk.injEq]
  exact ⟨u8_inj h1, u8_inj h2, u8_inj h3, g0, g1, g2, g3, g4, g5, g6, g7, h5, u8_inj h6, u8_inj h7, u8_inj h8, u8_inj h9, u8_inj h10, u8_inj h11⟩
theorem flat_inj {α : Type} {E : Enc α} (hi : ∀ {a b : α}, E.enc a = E.enc b → a = b) : ∀ {l l' : List α}, l.length = l'.length → l.flatMap E.enc = l'.flatMap E.enc → l = l'
  | [], [], _, _ => rfl
  | a :: r, b :: s, hl, h => by
    rw [List.flatMap_cons, List.flatMap_cons] at h
    obtain ⟨h1, h2⟩ := List.append_inj h (by rw [E.len, E.len])
    rw [hi h1, flat_inj hi (by simpa using hl) h2]
theorem cac_inj {c c' : Cac} (h1 : c.ways.length = 16) (h2 : c.notes.length = 4) (h1' : c'.ways.length = 16) (h2' : c'.notes.length = 4) : cacCells c = cacCells c' ↔ c = c' := by
  refine ⟨fun h => ?_, fun h => by rw [h]⟩
  unfold cacCells opCells at h
  obtain ⟨e1, h⟩ := List.append_inj h (by rw [flat_len, flat_len, h1, h1'])
  obtain ⟨e2, h⟩ := List.append_inj h (by rw [flat_len, flat_len, h2, h2'])
  simp only [List.cons.injEq, and_true] at h
  obtain ⟨e3, e4, e5, e6⟩ := h
  have w1 := flat_inj (E := linE) lin_inj (by omega) e1
  have w2 := flat_inj (E := nteE) nte_inj (by omega) e2
  cases c; cases c'
  simp only [Cac.mk.injEq]
  exact ⟨w1, w2, u8_inj e3, u8_inj e4, u8_inj e5, u8_inj e6⟩
theorem neq_sto (x y : Operand) (s t : Sto) (w : World) : (do eqGuard .neq 155 x y (.agg (stoE.enc s).toArray) (.agg (stoE.enc t).toArray); binOp .neq 155 (.agg (stoE.enc s).toArray) (.agg (stoE.enc t).toArray)).run Tryz.prog w = .ok (.bool (!decide (s = t))) w := by
  obtain ⟨G, h1, h2⟩ := tSto
  have := neq_ty h1 9998 rfl (by kernel_rfl) (stoE.len s) (stoE.len t) (h2 s) (h2 t) x y w
  rw [cdec_iff ⟨sto_inj, fun e => by rw [e]⟩] at this
  exact this
theorem neq_cac (x y : Operand) {c c' : Cac} (h1 : c.ways.length = 16) (h2 : c.notes.length = 4) (h1' : c'.ways.length = 16) (h2' : c'.notes.length = 4) (w : World) : (do eqGuard .neq 150 x y (.agg (cacCells c).toArray) (.agg (cacCells c').toArray); binOp .neq 150 (.agg (cacCells c).toArray) (.agg (cacCells c').toArray)).run Tryz.prog w = .ok (.bool (!decide (c = c'))) w := by
  obtain ⟨G, g1, g2⟩ := tCac
  have hl : ∀ c : Cac, c.ways.length = 16 → c.notes.length = 4 → (cacCells c).length = 160 := fun c h1 h2 => by
    unfold cacCells opCells
    rw [List.length_append, List.length_append, flat_len (E := linE), flat_len (E := nteE), h1, h2]; rfl
  have := neq_ty g1 9994 rfl (by kernel_rfl) (hl c h1 h2) (hl c' h1' h2') (g2 c h1 h2) (g2 c' h1' h2') x y w
  rw [cdec_iff (cac_inj h1 h2 h1' h2')] at this
  exact this
theorem eql_homs (x y : Operand) {l l' : List Hom} (h : l.length = 6) (h' : l'.length = 6) (w : World) : (do eqGuard .eql 73 x y (.agg (l.flatMap homE.enc).toArray) (.agg (l'.flatMap homE.enc).toArray); binOp .eql 73 (.agg (l.flatMap homE.enc).toArray) (.agg (l'.flatMap homE.enc).toArray)).run Tryz.prog w = .ok (.bool (decide (l = l'))) w := by
  obtain ⟨G, g1, g2⟩ := tHoms
  have := eql_ty g1 9996 rfl (by kernel_rfl) (by rw [flat_len, h]; rfl) (by rw [flat_len, h']; rfl) (g2 l h) (g2 l' h') x y w
  rw [cdec_iff ⟨fun e => flat_inj (E := homE) hom_inj (by omega) e, fun e => by rw [e]⟩] at this
  exact this
theorem eql_regs (x y : Operand) {l l' : List UInt8} (h : l.length = 8) (h' : l'.length = 8) (w : World) : (do eqGuard .eql 131 x y (.agg (l.map u8).toArray) (.agg (l'.map u8).toArray); binOp .eql 131 (.agg (l.map u8).toArray) (.agg (l'.map u8).toArray)).run Tryz.prog w = .ok (.bool (decide (l = l'))) w := by
  have := eql_ty tRegs 9998 rfl (by kernel_rfl) (by simp [h]) (by simp [h']) (gBytes l h) (gBytes l' h') x y w
  rw [cdec_iff ⟨fun e => List.map_inj_right (fun x y => u8_inj) |>.1 e, fun e => by rw [e]⟩] at this
  exact this
theorem SameStores_c (p1 p2 : Option Addr) (cap1 cap2 : Nat) (l1 l2 : List Sto) (w : World) (h1 : SlR stoE w p1 l1) (h2 : SlR stoE w p2 l2) (hn : l1.length ≤ 1000000000) :
    Calls Tryz.prog 181 #[.slice p1 l1.length cap1, .slice p2 l2.length cap2] w fun e w' => e = .returned (.bool (decide (l1 = l2))) ∧ Below w.heap.size w w' := by
  refine calls_of_E (S := sg 26) (sgOk _) (args := [.slice p1 l1.length cap1, .slice p2 l2.length cap2]) Tryz.func181 rfl rfl (Nat.le_of_ble_eq_true rfl) rfl ?_
  refine And.intro (fun h => ?_) (fun h => ?_)
  · have h := nt h
    refine And.intro (rb ?_) (Below.refl _ _)
    rw [decide_eq_false (fun e => h (by rw [e]))]
  have h := nf h
  refine ⟨Nat, fun k => ⟨[(0, .slice p1 l1.length cap1), (1, .slice p2 l2.length cap2), (4, .bool false), (5, .int .i64 (k : Nat))], []⟩,
    fun k X => k ≤ l1.length ∧ Below w.heap.size w X ∧ l1.take k = l2.take k, fun k => l1.length - k, 0, ⟨.cons rfl (.cons rfl (.cons rfl (.cons rfl .nil))), rfl⟩, ⟨Nat.zero_le _, Below.refl _ _, by simp⟩, ?_⟩
  rintro k X ⟨hk, hbX, hm⟩
  refine And.intro (fun h => ?_) (fun h => ?_)
  · have h := of_decide_eq_true h
    have hkl : k < l1.length := by omega
    have hkl2 : k < l2.length := by omega
    obtain ⟨b1, o1, rfl, hb1, hc1⟩ := (h1.below hbX.drew).at hkl
    obtain ⟨b2, o2, rfl, hb2, hc2⟩ := (h2.below hbX.drew).at hkl2
    refine DrawE.ord [] [0, 1, 2, 3, 4, 5, 6, 7, 8] (by kernel_rfl) ?_
    refine ⟨k, rfl, hkl, ?_⟩
    refine ⟨stoE.enc l1[k], rfl, hc1 k hkl, hb1, ?_⟩
    refine ⟨k, rfl, hkl2, ?_⟩
    refine ⟨stoE.enc l2[k], rfl, hc2 k hkl2, hb2, ?_⟩
    refine ⟨_, fun w => neq_sto _ _ l1[k] l2[k] w, ?_⟩
    refine And.intro (fun h => ?_) (fun h => ?_)
    · have h : ¬ l1[k] = l2[k] := by simpa using h
      refine And.intro (rb ?_) hbX.drew
      rw [decide_eq_false (fun e => h (by simp only [e]))]
    · have h : l1[k] = l2[k] := by simpa using h
      refine ⟨_, wrap_i64 (by omega), ?_⟩
      refine ⟨k + 1, ⟨.cons rfl (.cons rfl (.cons rfl (.cons rfl .nil))), rfl⟩, ⟨hkl, hbX.drew, ?_⟩, by dsimp only; omega⟩
      rw [List.take_succ_eq_append_getElem hkl, List.take_succ_eq_append_getElem hkl2, hm, h]
  · have h := of_decide_eq_false h
    refine And.intro (rb ?_) hbX
    rw [List.take_of_length_le (by omega), List.take_of_length_le (by omega)] at hm
    rw [decide_eq_true hm]
end Go.Proofs.YthgmcegmgjoafaaGreatDoor
namespace Go.Proofs.YthgmcegmgjoafaaGreatDoor
open Go.Vc Go.RowKit Go.Sei
theorem SameCore_c {B : Nat} {c c' : Cor} {p p' : Option Addr} {cap cap' : Nat} {w : World} (h1 : RowB stoE B w p c.buf) (h2 : RowB stoE B w p' c'.buf) (hB : B ≤ w.heap.size) (hn : c.buf.length ≤ 1000000000) :
    Calls Tryz.prog 143 #[.agg (corCells c (.slice p c.buf.length cap)).toArray, .agg (corCells c' (.slice p' c'.buf.length cap')).toArray] w fun e w' => e = .returned (.bool (decide (c = c'))) ∧ Below w.heap.size w w' := by
  refine calls_of_E (S := sg 38) (sgOk _) (args := [.agg (corCells c (.slice p c.buf.length cap)).toArray, .agg (corCells c' (.slice p' c'.buf.length cap')).toArray]) Tryz.func143 rfl rfl (Nat.le_of_ble_eq_true rfl) rfl ?_
  obtain ⟨W0, hW0⟩ : ∃ W0, (w.alloc (.cells (corCells c (.slice p c.buf.length cap)).toArray 134)).alloc (.cells (corCells c' (.slice p' c'.buf.length cap')).toArray 134) = W0 := ⟨_, rfl⟩
  have hb0 : Below w.heap.size w W0 := by rw [← hW0]; exact ((Below.refl _ _).alloc (Nat.le_refl _) _).alloc (by simp) _
  have f0 : W0.heap[w.heap.size]? = some (.cells (corCells c (.slice p c.buf.length cap)).toArray 134 (0, 0)) := by rw [← hW0]; exact hold _ (hnew w _)
  have f1 : W0.heap[(w.alloc (.cells (corCells c (.slice p c.buf.length cap)).toArray 134)).heap.size]? = some (.cells (corCells c' (.slice p' c'.buf.length cap')).toArray 134 (0, 0)) := by rw [← hW0]; exact hnew _ _
  have g1 := (h1.below (hb0.mono hB)).slr (Nat.le_trans hB hb0.size)
  have g2 := (h2.below (hb0.mono hB)).slr (Nat.le_trans hB hb0.size)
  subst hW0
  have c0 : Cells _ ⟨w.heap.size, 0, none⟩ (corCells c (.slice p c.buf.length cap)) := cells_block f0
  have c1 : Cells _ ⟨(w.alloc (.cells (corCells c (.slice p c.buf.length cap)).toArray 134)).heap.size, 0, none⟩ (corCells c' (.slice p' c'.buf.length cap')) := cells_block f1
  refine ⟨_, cells_at c0 (i := 0) rfl, ?_⟩
  refine ⟨_, cells_at c1 (i := 0) rfl, ?_⟩
  refine And.intro (fun q0 => ?_) (fun q0 => ?_)
  · have q0 : c.pc = c'.pc := u8_eq.1 (of_decide_eq_true q0)
    refine ⟨[c.r0, c.r1, c.r2, c.r3, c.r4, c.r5, c.r6, c.r7].map u8, rfl, cells_sub (n := 1) (m := 8) c0, hlt f0, ?_⟩
    refine ⟨[c'.r0, c'.r1, c'.r2, c'.r3, c'.r4, c'.r5, c'.r6, c'.r7].map u8, rfl, cells_sub (n := 1) (m := 8) c1, hlt f1, ?_⟩
    refine ⟨_, fun w => eql_regs _ _ (l := [c.r0, c.r1, c.r2, c.r3, c.r4, c.r5, c.r6, c.r7]) (l' := [c'.r0, c'.r1, c'.r2, c'.r3, c'.r4, c'.r5, c'.r6, c'.r7]) rfl rfl w, ?_⟩
    refine And.intro (fun q1 => ?_) (fun q1 => ?_)
    · have q1 := of_decide_eq_true q1
      refine ⟨_, cells_at c0 (i := 9) rfl, ?_⟩
      refine ⟨_, cells_at c1 (i := 9) rfl, ?_⟩
      refine Calls.mono (SameStores_c p p' cap cap' c.buf c'.buf _ g1 g2 hn) ?_
      rintro e V ⟨rfl, hb⟩
      have hw := hb0.trans (hb.mono hb0.size)
      have v0 := cells_below hb c0
      have v1 := cells_below hb c1
      refine And.intro (fun q2 => ?_) (fun q2 => ?_)
      · have q2 : c.buf = c'.buf := of_decide_eq_true q2
        refine ⟨_, cells_at v0 (i := 10) rfl, ?_⟩
        refine ⟨_, cells_at v1 (i := 10) rfl, ?_⟩
        refine ⟨_, fun w => eql_bool _ _ c.waits c'.waits w, ?_⟩
        refine And.intro (fun q3 => ?_) (fun q3 => ?_)
        · have q3 : c.waits = c'.waits := of_decide_eq_true q3
          refine ⟨_, cells_at v0 (i := 11) rfl, ?_⟩
          refine ⟨_, cells_at v1 (i := 11) rfl, ?_⟩
          refine ⟨_, fun w => eql_bool _ _ c.drain c'.drain w, ?_⟩
          refine ⟨rb ?_, hw⟩
          rw [decide_eq_decide]
          simp only [List.cons.injEq, and_true] at q1
          cases c; cases c'
          simp only at q0 q1 q2 q3
          simp only [Cor.mk.injEq, q0, q1, q2, q3, true_and, and_self]
        · have q3 : ¬ c.waits = c'.waits := of_decide_eq_false q3
          exact ⟨rb (decide_eq_false fun e => q3 (by rw [e])).symm, hw⟩
      · have q2 : ¬ c.buf = c'.buf := of_decide_eq_false q2
        refine And.intro (fun h => by cases h) (fun _ => ?_)
        exact ⟨rb (decide_eq_false fun e => q2 (by rw [e])).symm, hw⟩
    · have q1 := of_decide_eq_false q1
      refine And.intro (fun h => by cases h) (fun _ => ?_)
      refine And.intro (fun h => by cases h) (fun _ => ?_)
      exact ⟨rb (decide_eq_false fun e => q1 (by rw [e])).symm, hb0⟩
  · have q0 : ¬ c.pc = c'.pc := fun e => of_decide_eq_false q0 (u8_eq.2 e)
    refine And.intro (fun h => by cases h) (fun _ => ?_)
    refine And.intro (fun h => by cases h) (fun _ => ?_)
    refine And.intro (fun h => by cases h) (fun _ => ?_)
    exact ⟨rb (decide_eq_false fun e => q0 (by rw [e])).symm, hb0⟩
theorem SameCores_c {B : Nat} {p1 p2 : Option Addr} {cap1 cap2 : Nat} {l1 l2 : List Cor} {w : World} (h1 : CorsV B w p1 l1) (h2 : CorsV B w p2 l2) (hB : B ≤ w.heap.size) (hn : l1.length ≤ 1000000000) (hbf : ∀ c ∈ l1, c.buf.length ≤ 1000000000) :
    Calls Tryz.prog 77 #[.slice p1 l1.length cap1, .slice p2 l2.length cap2] w fun e w' => e = .returned (.bool (decide (l1 = l2))) ∧ Below w.heap.size w w' := by
  refine calls_of_E (S := sg 27) (sgOk _) (args := [.slice p1 l1.length cap1, .slice p2 l2.length cap2]) Tryz.func77 rfl rfl (Nat.le_of_ble_eq_true rfl) rfl ?_
  refine And.intro (fun h => ?_) (fun h => ?_)
  · have h := nt h
    refine And.intro (rb ?_) (Below.refl _ _)
    rw [decide_eq_false (fun e => h (by rw [e]))]
  have h := nf h
  refine ⟨Nat, fun k => ⟨[(0, .slice p1 l1.length cap1), (1, .slice p2 l2.length cap2), (4, .bool false), (5, .int .i64 (k : Nat))], []⟩,
    fun k X => k ≤ l1.length ∧ Below w.heap.size w X ∧ l1.take k = l2.take k, fun k => l1.length - k, 0, ⟨.cons rfl (.cons rfl (.cons rfl (.cons rfl .nil))), rfl⟩, ⟨Nat.zero_le _, Below.refl _ _, by simp⟩, ?_⟩
  rintro k X ⟨hk, hbX, hm⟩
  refine And.intro (fun h => ?_) (fun h => ?_)
  · have h := of_decide_eq_true h
    have hkl : k < l1.length := by omega
    have hkl2 : k < l2.length := by omega
    obtain ⟨b1, o1, hp1, ha1⟩ := h1.below (hbX.drew.mono hB)
    obtain ⟨b2, o2, hp2, ha2⟩ := h2.below (hbX.drew.mono hB)
    obtain ⟨q1, d1, hb1, hc1, hs1⟩ := ha1 k hkl
    obtain ⟨q2, d2, hb2, hc2, hs2⟩ := ha2 k hkl2
    rcases hp1 with hp1 | hp1
    · omega
    rcases hp2 with hp2 | hp2
    · omega
    subst hp1 hp2
    have hsz : B ≤ X.drew.heap.size := Nat.le_trans hB hbX.drew.size
    refine DrawE.ord [] [0, 1, 2, 3, 4, 5, 6, 7, 8, 9] (by kernel_rfl) ?_
    refine ⟨k, rfl, hkl, ?_⟩
    refine ⟨_, rfl, hc1, by show b1 < _; omega, ?_⟩
    refine ⟨k, rfl, hkl2, ?_⟩
    refine ⟨_, rfl, hc2, by show b2 < _; omega, ?_⟩
    refine Calls.mono (SameCore_c hs1 hs2 hsz (hbf _ (List.getElem_mem _))) ?_
    rintro e Y ⟨rfl, hbY⟩
    refine ⟨hbY, ?_⟩
    have hwY := hbX.drew.trans (hbY.mono hbX.drew.size)
    refine And.intro (fun h => ?_) (fun h => ?_)
    · have h : ¬ l1[k] = l2[k] := by simpa using h
      refine And.intro (rb ?_) hwY
      rw [decide_eq_false (fun e => h (by simp only [e]))]
    · have h : l1[k] = l2[k] := by simpa using h
      refine ⟨_, wrap_i64 (by omega), ?_⟩
      refine ⟨k + 1, ⟨.cons rfl (.cons rfl (.cons rfl (.cons rfl .nil))), rfl⟩, ⟨hkl, hwY, ?_⟩, by dsimp only; omega⟩
      rw [List.take_succ_eq_append_getElem hkl, List.take_succ_eq_append_getElem hkl2, hm, h]
  · have h := of_decide_eq_false h
    refine And.intro (rb ?_) hbX
    rw [List.take_of_length_le (by omega), List.take_of_length_le (by omega)] at hm
    rw [decide_eq_true hm]
theorem SameCaches_c {B : Nat} {p1 p2 : Option Addr} {cap1 cap2 : Nat} {l1 l2 : List Cac} {w : World} (h1 : CacsV B w p1 l1) (h2 : CacsV B w p2 l2) (hB : B ≤ w.heap.size) (hn : l1.length ≤ 1000000000) :
    Calls Tryz.prog 78 #[.slice p1 l1.length cap1, .slice p2 l2.length cap2] w fun e w' => e = .returned (.bool (decide (l1 = l2))) ∧ Below w.heap.size w w' := by
  refine calls_of_E (S := sg 26) (sgOk _) (args := [.slice p1 l1.length cap1, .slice p2 l2.length cap2]) Tryz.func78 rfl rfl (Nat.le_of_ble_eq_true rfl) rfl ?_
  refine And.intro (fun h => ?_) (fun h => ?_)
  · have h := nt h
    refine And.intro (rb ?_) (Below.refl _ _)
    rw [decide_eq_false (fun e => h (by rw [e]))]
  have h := nf h
  refine ⟨Nat, fun k => ⟨[(0, .slice p1 l1.length cap1), (1, .slice p2 l2.length cap2), (4, .bool false), (5, .int .i64 (k : Nat))], []⟩,
    fun k X => k ≤ l1.length ∧ Below w.heap.size w X ∧ l1.take k = l2.take k, fun k => l1.length - k, 0, ⟨.cons rfl (.cons rfl (.cons rfl (.cons rfl .nil))), rfl⟩, ⟨Nat.zero_le _, Below.refl _ _, by simp⟩, ?_⟩
  rintro k X ⟨hk, hbX, hm⟩
  refine And.intro (fun h => ?_) (fun h => ?_)
  · have h := of_decide_eq_true h
    have hkl : k < l1.length := by omega
    have hkl2 : k < l2.length := by omega
    obtain ⟨b1, o1, hp1, ha1⟩ := h1.below (hbX.drew.mono hB)
    obtain ⟨b2, o2, hp2, ha2⟩ := h2.below (hbX.drew.mono hB)
    obtain ⟨hb1, hc1, m1, n1⟩ := ha1 k hkl
    obtain ⟨hb2, hc2, m2, n2⟩ := ha2 k hkl2
    rcases hp1 with hp1 | hp1
    · omega
    rcases hp2 with hp2 | hp2
    · omega
    subst hp1 hp2
    have hsz : B ≤ X.drew.heap.size := Nat.le_trans hB hbX.drew.size
    have hl : ∀ c : Cac, c.ways.length = 16 → c.notes.length = 4 → (cacCells c).length = 160 := fun c h1 h2 => by
      unfold cacCells opCells
      rw [List.length_append, List.length_append, flat_len (E := linE), flat_len (E := nteE), h1, h2]; rfl
    refine DrawE.ord [] [0, 1, 2, 3, 4, 5, 6, 7, 8] (by kernel_rfl) ?_
    refine ⟨k, rfl, hkl, ?_⟩
    refine ⟨_, hl _ m1 n1, hc1, by show b1 < _; omega, ?_⟩
    refine ⟨k, rfl, hkl2, ?_⟩
    refine ⟨_, hl _ m2 n2, hc2, by show b2 < _; omega, ?_⟩
    refine ⟨_, fun w => neq_cac _ _ m1 n1 m2 n2 w, ?_⟩
    refine And.intro (fun h => ?_) (fun h => ?_)
    · have h : ¬ l1[k] = l2[k] := by simpa using h
      refine And.intro (rb ?_) hbX.drew
      rw [decide_eq_false (fun e => h (by simp only [e]))]
    · have h : l1[k] = l2[k] := by simpa using h
      refine ⟨_, wrap_i64 (by omega), ?_⟩
      refine ⟨k + 1, ⟨.cons rfl (.cons rfl (.cons rfl (.cons rfl .nil))), rfl⟩, ⟨hkl, hbX.drew, ?_⟩, by dsimp only; omega⟩
      rw [List.take_succ_eq_append_getElem hkl, List.take_succ_eq_append_getElem hkl2, hm, h]
  · have h := of_decide_eq_false h
    refine And.intro (rb ?_) hbX
    rw [List.take_of_length_le (by omega), List.take_of_length_le (by omega)] at hm
    rw [decide_eq_true hm]
theorem SameSys_c {va vb : List Value} {a b : Sy} {w : World} (hSa : SysV w.heap.size w va a) (hSb : SysV w.heap.size w vb b) (hn1 : a.cores.length ≤ 1000000000) (hn2 : a.caches.length ≤ 1000000000) (hn3 : a.net.length ≤ 1000000000) (hbf : ∀ c ∈ a.cores, c.buf.length ≤ 1000000000) :
    Calls Tryz.prog 31 #[.agg va.toArray, .agg vb.toArray] w fun e w' => e = .returned (.bool (decide (a = b))) ∧ Below w.heap.size w w' := by
  refine calls_of_E (S := sg 31) (sgOk _) (args := [.agg va.toArray, .agg vb.toArray]) Tryz.func31 rfl rfl (Nat.le_of_ble_eq_true rfl) rfl ?_
  obtain ⟨W0, hW0⟩ : ∃ W0, (w.alloc (.cells va.toArray 75)).alloc (.cells vb.toArray 75) = W0 := ⟨_, rfl⟩
  have hb0 : Below w.heap.size w W0 := by rw [← hW0]; exact ((Below.refl _ _).alloc (Nat.le_refl _) _).alloc (by simp) _
  have f0 : W0.heap[w.heap.size]? = some (.cells va.toArray 75 (0, 0)) := by rw [← hW0]; exact hold _ (hnew w _)
  have f1 : W0.heap[(w.alloc (.cells va.toArray 75)).heap.size]? = some (.cells vb.toArray 75 (0, 0)) := by rw [← hW0]; exact hnew _ _
  obtain ⟨⟨p1, c1, p2, c2, p3, c3, hva, a1, a2, a3, _⟩, a6⟩ := hSa.below hb0
  obtain ⟨⟨q1, d1, q2, d2, q3, d3, hvb, b1, b2, b3, _⟩, b6⟩ := hSb.below hb0
  have hHa : (a.homes.flatMap homE.enc).length = 66 := by rw [flat_len, a6]; rfl
  have hHb : (b.homes.flatMap homE.enc).length = 66 := by rw [flat_len, b6]; rfl
  subst hW0
  have ca : Cells _ ⟨w.heap.size, 0, none⟩ va := cells_block f0
  have cb : Cells _ ⟨(w.alloc (.cells va.toArray 75)).heap.size, 0, none⟩ vb := cells_block f1
  refine ⟨_, cells_at ca (i := 0) (by rw [hva]; rfl), ?_⟩
  refine ⟨_, cells_at cb (i := 0) (by rw [hvb]; rfl), ?_⟩
  refine Calls.mono (SameCores_c a1 b1 hb0.size hn1 hbf) ?_
  rintro e V ⟨rfl, hbV⟩
  have hwV := hb0.trans (hbV.mono hb0.size)
  refine And.intro (fun h1 => ?_) (fun h1 => ?_)
  · have h1 : a.cores = b.cores := of_decide_eq_true h1
    refine ⟨_, cells_at (cells_below hbV ca) (i := 1) (by rw [hva]; rfl), ?_⟩
    refine ⟨_, cells_at (cells_below hbV cb) (i := 1) (by rw [hvb]; rfl), ?_⟩
    refine Calls.mono (SameCaches_c (a2.below (hbV.mono hb0.size)) (b2.below (hbV.mono hb0.size)) hwV.size hn2) ?_
    rintro e X ⟨rfl, hbX⟩
    have hVX := hbV.trans (hbX.mono hbV.size)
    have hwX := hwV.trans (hbX.mono hwV.size)
    refine And.intro (fun h2 => ?_) (fun h2 => ?_)
    · have h2 : a.caches = b.caches := of_decide_eq_true h2
      have sa : ∀ (v : List Value) (x y z : Value) (H : List Value), v = x :: y :: (H ++ [z]) → H.length = 66 → (v.drop 2).take 66 = H := fun v x y z H h hl => by
        rw [h]
        show (H ++ [z]).take 66 = H
        rw [List.take_append_of_le_length (by omega), List.take_of_length_le (by omega)]
      refine ⟨_, hHa, by rw [← sa _ _ _ _ _ hva hHa]; exact cells_sub (n := 2) (m := 66) (cells_below hVX ca), hlt (block_below hVX f0), ?_⟩
      refine ⟨_, hHb, by rw [← sa _ _ _ _ _ hvb hHb]; exact cells_sub (n := 2) (m := 66) (cells_below hVX cb), hlt (block_below hVX f1), ?_⟩
      refine ⟨_, fun w => eql_homs _ _ a6 b6 w, ?_⟩
      refine And.intro (fun h3 => ?_) (fun h3 => ?_)
      · have h3 : a.homes = b.homes := of_decide_eq_true h3
        refine ⟨_, cells_at (cells_below hVX ca) (i := 68) (by rw [hva]; exact sys_net hHa), ?_⟩
        refine ⟨_, cells_at (cells_below hVX cb) (i := 68) (by rw [hvb]; exact sys_net hHb), ?_⟩
        refine Calls.mono (SameMsgs_c p3 q3 c3 d3 a.net b.net X ((a3.below (hVX.mono hb0.size)).slr hwX.size) ((b3.below (hVX.mono hb0.size)).slr hwX.size) hn3) ?_
        rintro e Y ⟨rfl, hbY⟩
        refine ⟨rb ?_, hwX.trans (hbY.mono hwX.size)⟩
        rw [decide_eq_decide]
        cases a; cases b
        simp only at h1 h2 h3
        simp only [Sy.mk.injEq, h1, h2, h3, true_and]
      · have h3 : ¬ a.homes = b.homes := of_decide_eq_false h3
        exact ⟨rb (decide_eq_false fun e => h3 (by rw [e])).symm, hwX⟩
    · have h2 : ¬ a.caches = b.caches := of_decide_eq_false h2
      refine And.intro (fun h => by cases h) (fun _ => ?_)
      exact ⟨rb (decide_eq_false fun e => h2 (by rw [e])).symm, hwX⟩
  · have h1 : ¬ a.cores = b.cores := of_decide_eq_false h1
    refine And.intro (fun h => by cases h) (fun _ => ?_)
    refine And.intro (fun h => by cases h) (fun _ => ?_)
    exact ⟨rb (decide_eq_false fun e => h1 (by rw [e])).symm, hwV⟩
end Go.Proofs.YthgmcegmgjoafaaGreatDoor
namespace Go.Proofs.YthgmcegmgjoafaaGreatDoor
open Go.Vc Go.RowKit Go.Sei
theorem permGo_nodup {n : Int} : ∀ {m : Nat} {l : List Int}, permGo n m l = true → l.Nodup ∧ ∀ x ∈ l, m.testBit x.toNat = false
  | m, [], _ => ⟨List.nodup_nil, fun x hx => by cases hx⟩
  | m, y :: r, h => by
    simp only [permGo, Bool.and_eq_true, decide_eq_true_eq] at h
    obtain ⟨h1, h2, h3, h4, h5⟩ := h
    obtain ⟨ih1, ih2⟩ := permGo_nodup h5
    have hy : m.testBit y.toNat = false := by
      have := congrArg (fun z => z.testBit y.toNat) h4
      simpa [Nat.testBit_and, Nat.testBit_two_pow_self] using this
    have hr : ∀ x ∈ r, m.testBit x.toNat = false ∧ x.toNat ≠ y.toNat := fun x hx => by
      have := ih2 x hx
      rw [Nat.testBit_or, Bool.or_eq_false_iff] at this
      refine ⟨this.1, fun e => ?_⟩
      rw [e, Nat.testBit_two_pow_self] at this
      cases this.2
    refine ⟨List.nodup_cons.2 ⟨fun hm => (hr y hm).2 rfl, ih1⟩, fun x hx => ?_⟩
    rcases List.mem_cons.1 hx with rfl | hx
    · exact hy
    · exact (hr x hx).1
def eHom : Hom := ⟨0, 0, 0, 0, 0, 0, 0, 0, 0, 0, 0, false, 0, 0, 0, 0, 0, 0⟩
def eSy : Sy := ⟨[], [], List.replicate 6 eHom, []⟩
def eSysC : List Value := .slice none 0 0 :: .slice none 0 0 :: ((List.replicate 6 eHom).flatMap homE.enc ++ [.slice none 0 0])
theorem eSys_v (B : Nat) (V : World) : SysV B V eSysC eSy :=
  ⟨⟨none, 0, none, 0, none, 0, rfl, ⟨0, 0, .inl rfl, fun i hi => absurd hi (Nat.not_lt_zero _)⟩, ⟨0, 0, .inl rfl, fun i hi => absurd hi (Nat.not_lt_zero _)⟩, .inl rfl, fun _ => rfl⟩, rfl⟩
section
variable {B : Nat} {p : Prg} {g : Geo} {md : UInt8} {vs ss : List Value} {m : Msg} {q : Option Addr} {cap : Nat} {l : List Int} {w : World}
theorem Sys_no_c (hB : B ≤ w.heap.size) (hw : WldV B w vs p g md) (hT : GlobT w) (h1 : vs.all Value.oneCell' = true) (hl : SlR Go.Sei.intE w q l) (hn : l.length ≤ 1000) (hf : (turnsL p g && suitsL g md l) = false) :
    Calls Tryz.prog 20 #[.agg vs.toArray, .agg ss.toArray, .slice q l.length cap] w fun e w' => e = .returned (.tuple #[.agg eSysC.toArray, i64 2]) ∧ Below w.heap.size w w' := by
  refine calls_of_M (S := sg 46) (sgOk _) (args := [.agg vs.toArray, .agg ss.toArray, .slice q l.length cap]) (.c .p .p) Tryz.func20 rfl rfl (Nat.le_of_ble_eq_true rfl) rfl ?_
  obtain ⟨L, hL⟩ : ∃ L, L = w.heap.size := ⟨_, rfl⟩
  obtain ⟨W1, hW1⟩ : ∃ W1, W1 = w.alloc (.cells vs.toArray 44) := ⟨_, rfl⟩
  obtain ⟨W2, hW2⟩ : ∃ W2, W2 = W1.alloc (.cells ss.toArray 75) := ⟨_, rfl⟩
  have s1 : W1.heap.size = L + 1 := by rw [hW1, World.size_alloc, hL]
  have s2 : W2.heap.size = L + 2 := by rw [hW2, World.size_alloc, s1]
  refine ⟨Unit, fun _ => ⟨[(2, .slice q l.length cap), (3, .pointer (some ⟨L, 0, none⟩)), (6, .pointer (some ⟨L + 2, 0, none⟩))], []⟩, fun _ X => X.heap[L]? = some (.cells vs.toArray 44 (0, 0)) ∧
    (∃ cs : Array Value, X.heap[L + 2]? = some (.cells cs 75 (0, 0)) ∧ cs.size = 69) ∧ Below w.heap.size w X, ?_, ?_⟩
  · have q1 : some (Value.pointer (some ⟨w.heap.size, 0, none⟩)) = some (Value.pointer (some ⟨L, 0, none⟩)) := by rw [hL]
    have q2 : some (Value.pointer (some ⟨W2.heap.size, 0, none⟩)) = some (Value.pointer (some ⟨L + 2, 0, none⟩)) := by rw [s2]
    rw [hW2, hW1] at q2
    refine ⟨(), ⟨.cons rfl (.cons q1 (.cons q2 .nil)), rfl⟩, ?_⟩
    have hM : ∀ cs : Array Value, cs.size = 69 → (W2.alloc (.cells cs 75)).heap[L]? = some (.cells vs.toArray 44 (0, 0)) ∧ (∃ cs' : Array Value, (W2.alloc (.cells cs 75)).heap[L + 2]? = some (.cells cs' 75 (0, 0)) ∧ cs'.size = 69) ∧ Below w.heap.size w (W2.alloc (.cells cs 75)) := fun cs hcs => by
      refine ⟨hold _ ?_, ⟨cs, ?_, hcs⟩, ?_⟩
      · rw [hW2]; refine hold _ ?_; rw [hW1, hL]; exact hnew w _
      · rw [← s2]; exact hnew W2 _
      · rw [hW2, hW1]; exact (((Below.refl _ w).alloc (Nat.le_refl _) _).alloc (by simp) _).alloc (by simp; omega) _
    rw [hW2, hW1] at hM
    refine hM _ ?_
    kernel_rfl
  clear s1 s2 hW1 hW2 W1 W2
  rintro _ X ⟨f0, ⟨cs, f1, hcs⟩, hbX⟩
  refine ⟨vs, hw.len, cells_block f0, hlt f0, ?_⟩
  refine Calls.mono (FitsT_c (Nat.le_trans hB hbX.size) (hw.below (hbX.mono hB)) (hT.below hbX) h1 (hl.below hbX) (by omega)) ?_
  rintro e V ⟨rfl, hbV⟩
  rw [hf]
  refine brT ?_
  refine brT ?_
  have hbw : Below w.heap.size w V := hbX.trans (hbV.mono hbX.size)
  refine ⟨eSysC, by kernel_rfl, ?_⟩
  refine store_box (v := .agg eSysC.toArray) (ttOk.get 75 _ rfl) (block_below hbV f1) rfl hcs rfl ?_
  have f3 := setRow_new (cs' := (Value.agg eSysC.toArray).cells) (block_below hbV f1)
  refine ⟨eSysC, rfl, cells_block f3, ?_⟩
  exact ⟨rfl, below_setRow hbw (by omega) _⟩
theorem Msg_no_c (hB : B ≤ w.heap.size) (hw : WldV B w vs p g md) (hT : GlobT w) (h1 : vs.all Value.oneCell' = true) (hl : SlR Go.Sei.intE w q l) (hn : l.length ≤ 1000) (hf : (turnsL p g && suitsL g md l) = false) :
    Calls Tryz.prog 9 #[.agg vs.toArray, .agg m.enc.toArray, .slice q l.length cap] w fun e w' => e = .returned (.tuple #[.agg zMsgC.toArray, i64 2]) ∧ Below w.heap.size w w' := by
  refine calls_of_M (S := sg 17) (sgOk _) (args := [.agg vs.toArray, .agg m.enc.toArray, .slice q l.length cap]) (.c .p .p) Tryz.func9 rfl rfl (Nat.le_of_ble_eq_true rfl) rfl ?_
  obtain ⟨L, hL⟩ : ∃ L, L = w.heap.size := ⟨_, rfl⟩
  obtain ⟨W1, hW1⟩ : ∃ W1, W1 = w.alloc (.cells vs.toArray 44) := ⟨_, rfl⟩
  obtain ⟨W2, hW2⟩ : ∃ W2, W2 = W1.alloc (.cells m.enc.toArray 53) := ⟨_, rfl⟩
  have s1 : W1.heap.size = L + 1 := by rw [hW1, World.size_alloc, hL]
  have s2 : W2.heap.size = L + 2 := by rw [hW2, World.size_alloc, s1]
  refine ⟨Unit, fun _ => ⟨[(2, .slice q l.length cap), (3, .pointer (some ⟨L, 0, none⟩)), (6, .pointer (some ⟨L + 2, 0, none⟩))], []⟩, fun _ X => X.heap[L]? = some (.cells vs.toArray 44 (0, 0)) ∧
    X.heap[L + 2]? = some (.cells zMsgC.toArray 53 (0, 0)) ∧ Below w.heap.size w X, ?_, ?_⟩
  · have q1 : some (Value.pointer (some ⟨w.heap.size, 0, none⟩)) = some (Value.pointer (some ⟨L, 0, none⟩)) := by rw [hL]
    have q2 : some (Value.pointer (some ⟨W2.heap.size, 0, none⟩)) = some (Value.pointer (some ⟨L + 2, 0, none⟩)) := by rw [s2]
    rw [hW2, hW1] at q2
    refine ⟨(), ⟨.cons rfl (.cons q1 (.cons q2 .nil)), rfl⟩, ?_⟩
    have hM : (W2.alloc (.cells zMsgC.toArray 53)).heap[L]? = some (.cells vs.toArray 44 (0, 0)) ∧ (W2.alloc (.cells zMsgC.toArray 53)).heap[L + 2]? = some (.cells zMsgC.toArray 53 (0, 0)) ∧ Below w.heap.size w (W2.alloc (.cells zMsgC.toArray 53)) := by
      refine ⟨hold _ ?_, ?_, ?_⟩
      · rw [hW2]; refine hold _ ?_; rw [hW1, hL]; exact hnew w _
      · rw [← s2]; exact hnew W2 _
      · rw [hW2, hW1]; exact (((Below.refl _ w).alloc (Nat.le_refl _) _).alloc (by simp) _).alloc (by simp; omega) _
    rw [hW2, hW1] at hM
    exact hM
  clear s1 s2 hW1 hW2 W1 W2
  rintro _ X ⟨f0, f1, hbX⟩
  refine ⟨vs, hw.len, cells_block f0, hlt f0, ?_⟩
  refine Calls.mono (FitsT_c (Nat.le_trans hB hbX.size) (hw.below (hbX.mono hB)) (hT.below hbX) h1 (hl.below hbX) (by omega)) ?_
  rintro e V ⟨rfl, hbV⟩
  rw [hf]
  refine brT ?_
  have hbw : Below w.heap.size w V := hbX.trans (hbV.mono hbX.size)
  refine ⟨zMsgC, rfl, ?_⟩
  refine store_box (v := .agg zMsgC.toArray) (ttOk.get 53 _ rfl) (block_below hbV f1) rfl rfl rfl ?_
  have f3 := setRow_new (cs' := (Value.agg zMsgC.toArray).cells) (block_below hbV f1)
  refine ⟨zMsgC, rfl, cells_block f3, ?_⟩
  exact ⟨rfl, below_setRow hbw (by omega) _⟩
end
end Go.Proofs.YthgmcegmgjoafaaGreatDoor
namespace Go.Proofs.YthgmcegmgjoafaaGreatDoor
open Go.Vc Go.RowKit Go.Sei
def grpL (n : Nat) (m : Bool) : List (List Int) := (permsL n).filter fun l => permL l n && (!m || pairL l)
def grpN (m : Bool) (n : Nat) : Nat := if m then [1, 1, 2, 2, 8].getD n 0 else [1, 1, 2, 6, 24].getD n 0
def grpOk (n : Nat) (m : Bool) : Bool :=
  decide ((grpL n m).length = grpN m n) && (decide ((grpL n m).head? = some (iotaL n)) &&
    ((grpL n m).all (fun a => (smallL a && decide (a.length = n)) && (decide (backL a ∈ grpL n m) && ((decide (pickL 0 a (backL a) = iotaL n) && decide (pickL 0 (backL a) a = iotaL n)) && ((List.range n).all fun t => decide (a.getD t 0 = t) == decide ((backL a).getD t 0 = t))))) &&
    (grpL n m).all fun a => (grpL n m).all fun b => decide (pickL 0 a b ∈ grpL n m)))
theorem grp_ok1 : (grpOk 1 false && grpOk 1 true) = true := by kernel_rfl
theorem grp_ok2 : (grpOk 2 false && grpOk 2 true) = true := by kernel_rfl
theorem grp_ok3 : (grpOk 3 false && grpOk 3 true) = true := by kernel_rfl
theorem grp_ok4 : (grpOk 4 false && grpOk 4 true) = true := by kernel_rfl
theorem grp_ok {n : Nat} (m : Bool) (h1 : 1 ≤ n) (h4 : n ≤ 4) : grpOk n m = true := by
  have hc : n = 1 ∨ n = 2 ∨ n = 3 ∨ n = 4 := by omega
  have h := grp_ok1
  have h2 := grp_ok2
  have h3 := grp_ok3
  have h5 := grp_ok4
  rw [Bool.and_eq_true] at h h2 h3 h5
  rcases hc with rfl | rfl | rfl | rfl <;> cases m
  · exact h.1
  · exact h.2
  · exact h2.1
  · exact h2.2
  · exact h3.1
  · exact h3.2
  · exact h5.1
  · exact h5.2
structure Grp (n : Nat) (m : Bool) : Prop where
  len : (grpL n m).length = grpN m n
  head : (grpL n m).head? = some (iotaL n)
  small : ∀ a ∈ grpL n m, smallL a = true ∧ a.length = n
  back : ∀ a ∈ grpL n m, backL a ∈ grpL n m ∧ (pickL 0 a (backL a) = iotaL n ∧ pickL 0 (backL a) a = iotaL n) ∧ ∀ t : Nat, t < n → (a.getD t 0 = t ↔ (backL a).getD t 0 = t)
  comp : ∀ a ∈ grpL n m, ∀ b ∈ grpL n m, pickL 0 a b ∈ grpL n m
theorem grp {n : Nat} (m : Bool) (h1 : 1 ≤ n) (h4 : n ≤ 4) : Grp n m := by
  have h := grp_ok m h1 h4
  unfold grpOk at h
  simp only [Bool.and_eq_true, decide_eq_true_eq, List.all_eq_true] at h
  obtain ⟨ha, hb, hc, hd⟩ := h
  refine ⟨ha, hb, fun a h => (hc a h).1, fun a h => ⟨(hc a h).2.1, (hc a h).2.2.1, fun t ht => ?_⟩, hd⟩
  have := (hc a h).2.2.2 t (List.mem_range.2 ht)
  have := beq_iff_eq.1 this
  rwa [decide_eq_decide] at this
theorem allL_grp {p : Prg} {g : Geo} {md : UInt8} {n : Nat} (ht : turnsL p g = true) (hn : g.c = n) : allL p g md = grpL n (decide (md = 3)) := by
  unfold allL grpL
  rw [if_pos ht, hn]
  congr 1
  funext l
  unfold suitsL
  rw [hn]
end Go.Proofs.YthgmcegmgjoafaaGreatDoor
namespace Go.Proofs.YthgmcegmgjoafaaGreatDoor
open Go.Vc Go.RowKit Go.Sei
set_option linter.unusedSectionVars false
theorem getD_pickL {α : Type} (d e : α) (a : List α) (l : List Int) (t : Nat) (ht : t < l.length) : (pickL d a l).getD t e = a.getD l[t].toNat d := by
  unfold pickL
  rw [List.getD_eq_getElem?_getD, List.getElem?_map, List.getElem?_eq_getElem ht]; rfl
theorem getD_lt {l : List Int} {t : Nat} (ht : t < l.length) (d : Int) : l.getD t d = l[t] := by rw [List.getD_eq_getElem?_getD, List.getElem?_eq_getElem ht]; rfl
theorem pick_same {α : Type} {d : α} {xs : List α} {l : List Int} (hl : l.length = xs.length) : pickL d xs l = xs ↔ ∀ t (ht : t < l.length), xs.getD l[t].toNat d = xs.getD t d := by
  constructor
  · intro h t ht
    have := getD_pickL d d xs l t ht
    rw [h] at this
    exact this.symm
  · intro h
    apply List.ext_getElem
    · unfold pickL; rw [List.length_map, hl]
    · intro t h1 h2
      have ht : t < l.length := by unfold pickL at h1; rwa [List.length_map] at h1
      have e := h t ht
      have e1 : xs.getD t d = xs[t] := by rw [List.getD_eq_getElem?_getD, List.getElem?_eq_getElem h2]; rfl
      rw [e1] at e
      rw [← e]
      exact List.getElem_map _
mutual
theorem still_mono {l l' : List Int} (h : ∀ t : Nat, (t < l.length ∧ l.getD t 0 = t) → (t < l'.length ∧ l'.getD t 0 = t)) : ∀ c : Cnd, stillL l c = true → stillL l' c = true
  | .mk k t n v kids => fun hs => by
    rw [stillL] at hs ⊢
    by_cases hk : k = 1
    · rw [if_pos hk, Bool.and_eq_true, decide_eq_true_eq, decide_eq_true_eq] at hs
      rw [if_pos hk, Bool.and_eq_true, decide_eq_true_eq, decide_eq_true_eq]
      exact h _ hs
    · rw [if_neg hk] at hs ⊢
      exact stills_mono h kids hs
theorem stills_mono {l l' : List Int} (h : ∀ t : Nat, (t < l.length ∧ l.getD t 0 = t) → (t < l'.length ∧ l'.getD t 0 = t)) : ∀ kids : List Cnd, stillLs l kids = true → stillLs l' kids = true
  | [], _ => by rw [stillLs]
  | c :: r, hs => by
    rw [stillLs, Bool.and_eq_true] at hs ⊢
    exact ⟨still_mono h c hs.1, stills_mono h r hs.2⟩
end
mutual
theorem still_and {a b l' : List Int} (h : ∀ t : Nat, (t < a.length ∧ a.getD t 0 = t) → (t < b.length ∧ b.getD t 0 = t) → (t < l'.length ∧ l'.getD t 0 = t)) : ∀ c : Cnd, stillL a c = true → stillL b c = true → stillL l' c = true
  | .mk k t n v kids => fun hs hs2 => by
    rw [stillL] at hs hs2 ⊢
    by_cases hk : k = 1
    · rw [if_pos hk, Bool.and_eq_true, decide_eq_true_eq, decide_eq_true_eq] at hs hs2
      rw [if_pos hk, Bool.and_eq_true, decide_eq_true_eq, decide_eq_true_eq]
      exact h _ hs hs2
    · rw [if_neg hk] at hs hs2 ⊢
      exact stills_and h kids hs hs2
theorem stills_and {a b l' : List Int} (h : ∀ t : Nat, (t < a.length ∧ a.getD t 0 = t) → (t < b.length ∧ b.getD t 0 = t) → (t < l'.length ∧ l'.getD t 0 = t)) : ∀ kids : List Cnd, stillLs a kids = true → stillLs b kids = true → stillLs l' kids = true
  | [], _, _ => by rw [stillLs]
  | c :: r, hs, hs2 => by
    rw [stillLs, Bool.and_eq_true] at hs hs2 ⊢
    exact ⟨still_and h c hs.1 hs2.1, stills_and h r hs.2 hs2.2⟩
end
theorem iota_get {n t : Nat} (h : t < n) : (iotaL n).getD t 0 = (t : Int) := by
  unfold iotaL
  rw [List.getD_eq_getElem?_getD, List.getElem?_map, List.getElem?_range h]; rfl
theorem iota_length (n : Nat) : (iotaL n).length = n := by unfold iotaL; simp
theorem still_iota {th lo : Nat} : ∀ (d : Nat) (c : Cnd), condB th lo d c = true → stillL (iotaL th) c = true := by
  intro d
  induction d with
  | zero => intro c h; cases c; cases h
  | succ d ih =>
    intro c h
    rw [condB_succ] at h
    rw [stillL_eq]
    have nil : c.kids.length = 0 → c.kids.all (stillL (iotaL th)) = true := fun h => by rw [List.eq_nil_of_length_eq_zero h]; rfl
    have kids : c.kids.all (condB th lo d) = true → c.kids.all (stillL (iotaL th)) = true := fun h => by
      rw [List.all_eq_true] at h ⊢
      exact fun x hx => ih x (h x hx)
    by_cases h1 : c.kind = 1
    · rw [if_neg (by rw [h1]; decide), if_pos h1, Bool.and_eq_true, decide_eq_true_eq] at h
      rw [if_pos h1, Bool.and_eq_true, decide_eq_true_eq, decide_eq_true_eq, iota_length]
      exact ⟨h.1, iota_get h.1⟩
    · rw [if_neg h1]
      by_cases h0 : c.kind = 0
      · rw [if_pos h0, Bool.and_eq_true, decide_eq_true_eq] at h
        exact nil h.2
      rw [if_neg h0, if_neg h1] at h
      by_cases h2 : c.kind = 2
      · rw [if_pos h2, Bool.and_eq_true, Bool.and_eq_true, decide_eq_true_eq (p := c.kids.length = 0)] at h
        exact nil h.2.2
      rw [if_neg h2] at h
      by_cases h3 : c.kind = 3 ∨ c.kind = 4
      · rw [if_pos h3, Bool.and_eq_true, Bool.and_eq_true] at h
        exact kids h.2.2
      rw [if_neg h3] at h
      by_cases h5 : c.kind = 5
      · rw [if_pos h5, Bool.and_eq_true, Bool.and_eq_true] at h
        exact kids h.2.2
      rw [if_neg h5] at h
      cases h
section
variable {p : Prg} {n : Nat} {m : Bool} (hn : p.threads.length = n) (G : Grp n m)
include hn G
theorem keeps_iota (hok : okPrg p = true) : keepsL p (iotaL n) = true := by
  unfold keepsL
  rw [Bool.and_eq_true, decide_eq_true_eq]
  constructor
  · rw [pick_same (by rw [iota_length, hn])]
    intro t ht
    have ht' : t < n := by rwa [iota_length] at ht
    have e := iota_get ht'
    rw [getD_lt ht] at e
    rw [e]; rfl
  · unfold okPrg at hok
    simp only [Bool.and_eq_true] at hok
    have := still_iota 20 p.cond hok.2.2.2.2.2
    rwa [hn] at this
theorem grp_range {a : List Int} (ha : a ∈ grpL n m) : a.length = n ∧ ∀ t (ht : t < a.length), 0 ≤ a[t] ∧ a[t] < n := by
  obtain ⟨h1, h2⟩ := G.small a ha
  have := (small_perm h1).2
  exact ⟨h2, fun t ht => by have := this _ (List.getElem_mem ht); omega⟩
theorem keeps_comp {a b : List Int} (ha : a ∈ grpL n m) (hb : b ∈ grpL n m) (ka : keepsL p a = true) (kb : keepsL p b = true) : keepsL p (pickL 0 a b) = true := by
  obtain ⟨la, ra⟩ := grp_range hn G ha
  obtain ⟨lb, rb'⟩ := grp_range hn G hb
  have lab : (pickL 0 a b).length = n := by unfold pickL; rw [List.length_map, lb]
  unfold keepsL at ka kb ⊢
  rw [Bool.and_eq_true, decide_eq_true_eq] at ka kb ⊢
  have pa := (pick_same (by omega)).1 ka.1
  have pb := (pick_same (by omega)).1 kb.1
  refine ⟨(pick_same (by omega)).2 fun t ht => ?_, still_and (fun t h1 h2 => ?_) p.cond ka.2 kb.2⟩
  · have htb : t < b.length := by omega
    have e1 : (pickL 0 a b)[t] = a.getD b[t].toNat 0 := by rw [← getD_lt ht 0]; exact getD_pickL 0 0 a b t htb
    have hbt := rb' t htb
    have hba : b[t].toNat < a.length := by omega
    rw [e1, getD_lt hba, pa _ hba, pb t htb]
  · have htb : t < b.length := by omega
    refine ⟨by omega, ?_⟩
    rw [getD_pickL 0 0 a b t htb]
    have : b[t] = (t : Int) := by rw [← getD_lt htb 0]; exact h2.2
    rw [this]; exact h1.2
theorem keeps_back1 {a b : List Int} (ha : a ∈ grpL n m) (hb : b ∈ grpL n m) (hab : pickL 0 a b = iotaL n) (hs : ∀ t : Nat, t < n → (a.getD t 0 = t → b.getD t 0 = t)) (ka : keepsL p a = true) : keepsL p b = true := by
  obtain ⟨la, ra⟩ := grp_range hn G ha
  obtain ⟨lb, rb'⟩ := grp_range hn G hb
  unfold keepsL at ka ⊢
  rw [Bool.and_eq_true, decide_eq_true_eq] at ka ⊢
  have pa := (pick_same (by omega)).1 ka.1
  refine ⟨(pick_same (by omega)).2 fun t ht => ?_, still_mono (fun t h => ⟨by omega, hs t (by omega) h.2⟩) p.cond ka.2⟩
  have hbt := rb' t ht
  have hba : b[t].toNat < a.length := by omega
  have e1 : a[b[t].toNat] = (t : Int) := by
    have h1 := getD_pickL 0 0 a b t ht
    rw [hab, iota_get (by omega), getD_lt hba] at h1
    exact h1.symm
  have h2 := pa _ hba
  rw [e1] at h2
  exact h2.symm
theorem keeps_back {a : List Int} (ha : a ∈ grpL n m) : keepsL p (backL a) = keepsL p a := by
  obtain ⟨h1, ⟨h2, h3⟩, h4⟩ := G.back a ha
  rw [Bool.eq_iff_iff]
  exact ⟨fun h => keeps_back1 hn G h1 ha h3 (fun t ht h => (h4 t ht).2 h) h, fun h => keeps_back1 hn G ha h1 h2 (fun t ht h => (h4 t ht).1 h) h⟩
end
end Go.Proofs.YthgmcegmgjoafaaGreatDoor
namespace Go.Proofs.YthgmcegmgjoafaaGreatDoor
open Go.Vc Go.RowKit Go.Sei
theorem turnsW2 : turnsL (prgW 2) (geoW 2) = true := by kernel_rfl
theorem turnsW3 : turnsL (prgW 3) (geoW 3) = true := by kernel_rfl
theorem turnsW4 : turnsL (prgW 4) (geoW 4) = true := by kernel_rfl
theorem suitsW : suitsL (geoW 2) 1 [1, 0] = true := by kernel_rfl
theorem suitsW0 : suitsL (geoW 2) 1 [0, 0] = false := by kernel_rfl
theorem allW3 : allL (prgW 3) (geoW 3) 3 = [[0, 1, 2], [1, 0, 2]] := by kernel_rfl
theorem allW4 : (allL (prgW 4) (geoW 4) 1).length = 24 := by kernel_rfl
theorem allW43 : (allL (prgW 4) (geoW 4) 3).length = 8 := by kernel_rfl
theorem msgW1 : turnM 2 (toN [1, 0] 2) ⟨10, 0, 1, 0, 0, 0, false, 0, 0, 0, 0⟩ = ⟨10, 1, 0, 0, 0, 0, false, 0, 0, 0, 0⟩ := by kernel_rfl
theorem msgW2 : turnM 2 (toN [1, 0] 2) ⟨8, 2, 0, 0, 1, 0, false, 0, 0, 0, 0⟩ = ⟨8, 2, 1, 0, 0, 0, false, 0, 0, 0, 0⟩ := by kernel_rfl
theorem viewW : movedN 1 2 (toN [1, 0] 2) 2 = 2 := by kernel_rfl
theorem thenW : pickL 0 [1, 2, 0] [1, 0, 2] = [2, 1, 0] := by kernel_rfl
theorem thenW1 : smallL [1, 2, 0] = true ∧ permL [1, 0, 2] 3 = true := ⟨by kernel_rfl, by kernel_rfl⟩
theorem backW : backL [1, 2, 0] = [2, 0, 1] := by kernel_rfl
end Go.Proofs.YthgmcegmgjoafaaGreatDoor
namespace Go.Proofs.YthgmcegmgjoafaaGreatDoor
open Go.Vc Go.RowKit Go.Sei
theorem eql_same (x y : Operand) (m : Msg) (w : World) : (do eqGuard .eql 53 x y m.val m.val; binOp .eql 53 m.val m.val).run Tryz.prog w = .ok (.bool true) w := by
  have h : (Op.equal 53 m.val m.val).run Tryz.prog w = .ok true w := by rw [← decide_eq_true (rfl : m = m)]; exact eq_msg 9997 m m w
  have hg : Tryz.prog.eqGuardType Tryz.prog.depth 53 = false := by kernel_rfl
  have h1 : (eqGuard .eql 53 x y m.val m.val).run Tryz.prog w = .ok () w := by
    simp only [eqGuard, Msg.val, Bool.not_true, Bool.false_eq_true, if_false, Sem.run_bind, run_program, Result.andThen_ok, hg, Bool.not_false, if_true, Sem.run_pure]
  rw [Sem.run_bind, h1]
  rw [Msg.val] at h
  simp only [Result.andThen_ok, binOp, Msg.val, Sem.run_bind, h, Sem.run_pure]
theorem two_of {α : Type} : ∀ {l : List α}, l.length = 2 → ∃ a b, l = [a, b]
  | [a, b], _ => ⟨a, b, rfl⟩
  | [], h => nomatch h
  | [_], h => nomatch h
  | _ :: _ :: _ :: _, h => nomatch h
structure Aw (w X : World) (L : Nat) : Prop where
  c : ∃ (vs : List Value) (B : Nat), X.heap[L]? = some (.cells vs.toArray 44 (0, 0)) ∧ B ≤ X.heap.size ∧ WldV B X vs (prgW 2) (geoW 2) 1 ∧ vs.all Value.oneCell' = true
  T : GlobT X
  b : Below w.heap.size w X
theorem Aw.below {w X Y : World} {L : Nat} (h : Aw w X L) (hb : Below X.heap.size X Y) : Aw w Y L := by
  obtain ⟨vs, B, h1, h2, h3, h4⟩ := h.c
  exact ⟨⟨vs, B, block_below hb h1, Nat.le_trans h2 hb.size, h3.below (hb.mono h2), h4⟩, h.T.below hb, h.b.trans (hb.mono h.b.size)⟩
theorem awake_c {w : World} (hT : GlobT w) : Calls Tryz.prog 7 #[] w fun e w' => e = .returned (.bool true) ∧ Below w.heap.size w w' := by
  refine calls_of_M (S := sg 134) (sgOk _) (args := []) (.s .p (.c .p (.c .p (.c .p (.c .p (.c .p (.c .p (.c .p (.c .p .p))))))))) Tryz.func7 rfl rfl (Nat.le_of_ble_eq_true rfl) rfl ?_
  refine ⟨Nat, fun L => ⟨[(1, .pointer (some ⟨L, 0, none⟩))], []⟩, fun L X => Aw w X L, ?_, ?_⟩
  · refine Calls.mono (world_c (n := 2) (v := 1) (by omega)) ?_
    rintro e V ⟨vs, rfl, hw, hone, hb⟩
    refine store_new (X := V) (v := .agg vs.toArray) (ttOk.get 44 _ rfl) hw.len (by kernel_rfl) hone fun Y hbY fY sY => ?_
    exact ⟨V.heap.size, ⟨.cons rfl .nil, rfl⟩, ⟨vs, V.heap.size, fY, hbY.size, hw.below hbY, hone⟩, (hT.below hb).below hbY, hb.trans (hbY.mono hb.size)⟩
  rintro L X hX
  refine ⟨Nat × Nat, fun q => ⟨[(1, .pointer (some ⟨q.1, 0, none⟩)), (2, .pointer (some ⟨q.2, 0, none⟩)), (3, i64 0)], []⟩, fun q X => Aw w X q.1 ∧ X.heap[q.2]? = some (.cells (⟨10, 1, 0, 0, 0, 0, false, 0, 0, 0, 0⟩ : Msg).enc.toArray 53 (0, 0)), ?_, ?_⟩
  · obtain ⟨vs, B, h1, h2, h3, h4⟩ := hX.c
    refine ⟨vs, h3.len, cells_block h1, hlt h1, ?_⟩
    refine ⟨(⟨10, 0, 1, 0, 0, 0, false, 0, 0, 0, 0⟩ : Msg).enc, rfl, ?_⟩
    refine ⟨⟨by decide, by decide, rfl⟩, [i64 1, i64 0], rfl, ?_⟩
    have hb : Below X.heap.size X (X.alloc (.cells [i64 1, i64 0].toArray 3)) := (Below.refl _ X).alloc (Nat.le_refl _) _
    have hn := hnew X (.cells [i64 1, i64 0].toArray 3)
    have hX1 := hX.below hb
    refine Calls.mono (Msg_c (m := ⟨10, 0, 1, 0, 0, 0, false, 0, 0, 0, 0⟩) (l := [1, 0]) (Nat.le_trans h2 hb.size) (h3.below (hb.mono h2)) hX1.T h4 (SlR.of_cells (hlt hn) (cells_block hn)) (by rw [turnsW2, suitsW]; rfl)) ?_
    rintro e V ⟨rfl, hbV⟩
    have e1 : turnM ([1, 0] : List Int).length (toN [1, 0] ([1, 0] : List Int).length) ⟨10, 0, 1, 0, 0, 0, false, 0, 0, 0, 0⟩ = ⟨10, 1, 0, 0, 0, 0, false, 0, 0, 0, 0⟩ := msgW1
    rw [e1]
    refine store_new (X := V) (v := .agg (⟨10, 1, 0, 0, 0, 0, false, 0, 0, 0, 0⟩ : Msg).enc.toArray) (ttOk.get 53 _ rfl) rfl rfl rfl fun Y hbY fY sY => ?_
    exact ⟨(L, V.heap.size), ⟨.cons rfl (.cons rfl (.cons rfl .nil)), rfl⟩, (hX1.below hbV).below hbY, fY⟩
  clear hX
  rintro ⟨L, b2⟩ X ⟨hX, f2⟩
  refine ⟨Nat × Nat × Nat, fun q => ⟨[(1, .pointer (some ⟨q.1, 0, none⟩)), (2, .pointer (some ⟨q.2.1, 0, none⟩)), (3, i64 0), (4, .pointer (some ⟨q.2.2, 0, none⟩)), (5, i64 0)], []⟩, fun q X => Aw w X q.1 ∧ X.heap[q.2.1]? = some (.cells (⟨10, 1, 0, 0, 0, 0, false, 0, 0, 0, 0⟩ : Msg).enc.toArray 53 (0, 0)) ∧
    X.heap[q.2.2]? = some (.cells (⟨8, 2, 1, 0, 0, 0, false, 0, 0, 0, 0⟩ : Msg).enc.toArray 53 (0, 0)), ?_, ?_⟩
  · obtain ⟨vs, B, h1, h2, h3, h4⟩ := hX.c
    refine ⟨vs, h3.len, cells_block h1, hlt h1, ?_⟩
    refine ⟨(⟨8, 2, 0, 0, 1, 0, false, 0, 0, 0, 0⟩ : Msg).enc, rfl, ?_⟩
    refine ⟨⟨by decide, by decide, rfl⟩, [i64 1, i64 0], rfl, ?_⟩
    have hb : Below X.heap.size X (X.alloc (.cells [i64 1, i64 0].toArray 3)) := (Below.refl _ X).alloc (Nat.le_refl _) _
    have hn := hnew X (.cells [i64 1, i64 0].toArray 3)
    have hX1 := hX.below hb
    refine Calls.mono (Msg_c (m := ⟨8, 2, 0, 0, 1, 0, false, 0, 0, 0, 0⟩) (l := [1, 0]) (Nat.le_trans h2 hb.size) (h3.below (hb.mono h2)) hX1.T h4 (SlR.of_cells (hlt hn) (cells_block hn)) (by rw [turnsW2, suitsW]; rfl)) ?_
    rintro e V ⟨rfl, hbV⟩
    have e1 : turnM ([1, 0] : List Int).length (toN [1, 0] ([1, 0] : List Int).length) ⟨8, 2, 0, 0, 1, 0, false, 0, 0, 0, 0⟩ = ⟨8, 2, 1, 0, 0, 0, false, 0, 0, 0, 0⟩ := msgW2
    rw [e1]
    refine store_new (X := V) (v := .agg (⟨8, 2, 1, 0, 0, 0, false, 0, 0, 0, 0⟩ : Msg).enc.toArray) (ttOk.get 53 _ rfl) rfl rfl rfl fun Y hbY fY sY => ?_
    exact ⟨(L, b2, V.heap.size), ⟨.cons rfl (.cons rfl (.cons rfl (.cons rfl (.cons rfl .nil)))), rfl⟩, (hX1.below hbV).below hbY, block_below hbY (block_below hbV (block_below hb f2)), fY⟩
  clear hX f2
  rintro ⟨L, b2, b4⟩ X ⟨hX, f2, f4⟩
  refine ⟨Nat × Nat × Nat × Nat, fun q => ⟨[(1, .pointer (some ⟨q.1, 0, none⟩)), (2, .pointer (some ⟨q.2.1, 0, none⟩)), (3, i64 0), (4, .pointer (some ⟨q.2.2.1, 0, none⟩)), (5, i64 0), (6, .pointer (some ⟨q.2.2.2, 0, none⟩)), (7, i64 0)], []⟩, fun q X => Aw w X q.1 ∧ X.heap[q.2.1]? = some (.cells (⟨10, 1, 0, 0, 0, 0, false, 0, 0, 0, 0⟩ : Msg).enc.toArray 53 (0, 0)) ∧
    X.heap[q.2.2.1]? = some (.cells (⟨8, 2, 1, 0, 0, 0, false, 0, 0, 0, 0⟩ : Msg).enc.toArray 53 (0, 0)) ∧ X.heap[q.2.2.2]? = some (.cells (viewC 1 2 false).toArray 70 (0, 0)), ?_, ?_⟩
  · obtain ⟨vs, B, h1, h2, h3, h4⟩ := hX.c
    refine ⟨vs, h3.len, cells_block h1, hlt h1, ?_⟩
    refine ⟨viewC 1 1 false, rfl, ?_⟩
    refine ⟨⟨by decide, by decide, rfl⟩, [i64 1, i64 0], rfl, ?_⟩
    have hb : Below X.heap.size X (X.alloc (.cells [i64 1, i64 0].toArray 3)) := (Below.refl _ X).alloc (Nat.le_refl _) _
    have hn := hnew X (.cells [i64 1, i64 0].toArray 3)
    have hX1 := hX.below hb
    refine Calls.mono (View_c (s := 1) (all := false) (l := [1, 0]) (Nat.le_trans h2 hb.size) (h3.below (hb.mono h2)) hX1.T h4 (SlR.of_cells (hlt hn) (cells_block hn)) (by decide) (by rw [turnsW2, suitsW]; rfl)) ?_
    rintro e V ⟨rfl, hbV⟩
    have e1 : movedN 1 ([1, 0] : List Int).length (toN [1, 0] ([1, 0] : List Int).length) ([1, 0] : List Int).length = 2 := viewW
    rw [e1]
    refine store_new (X := V) (v := .agg (viewC 1 2 false).toArray) (ttOk.get 70 _ rfl) rfl rfl rfl fun Y hbY fY sY => ?_
    exact ⟨(L, b2, b4, V.heap.size), ⟨.cons rfl (.cons rfl (.cons rfl (.cons rfl (.cons rfl (.cons rfl (.cons rfl .nil)))))), rfl⟩, (hX1.below hbV).below hbY, block_below hbY (block_below hbV (block_below hb f2)), block_below hbY (block_below hbV (block_below hb f4)), fY⟩
  clear hX f2 f4
  rintro ⟨L, b2, b4, b6⟩ X ⟨hX, f2, f4, f6⟩
  refine ⟨Nat × Nat × Nat × Nat × Nat, fun q => ⟨[(1, .pointer (some ⟨q.1, 0, none⟩)), (2, .pointer (some ⟨q.2.1, 0, none⟩)), (3, i64 0), (4, .pointer (some ⟨q.2.2.1, 0, none⟩)), (5, i64 0), (6, .pointer (some ⟨q.2.2.2.1, 0, none⟩)), (7, i64 0), (8, .slice (some ⟨q.2.2.2.2, 0, none⟩) 3 3), (9, i64 0)], []⟩, fun q X => Aw w X q.1 ∧ X.heap[q.2.1]? = some (.cells (⟨10, 1, 0, 0, 0, 0, false, 0, 0, 0, 0⟩ : Msg).enc.toArray 53 (0, 0)) ∧
    X.heap[q.2.2.1]? = some (.cells (⟨8, 2, 1, 0, 0, 0, false, 0, 0, 0, 0⟩ : Msg).enc.toArray 53 (0, 0)) ∧ X.heap[q.2.2.2.1]? = some (.cells (viewC 1 2 false).toArray 70 (0, 0)) ∧ SlR Go.Sei.intE X (some ⟨q.2.2.2.2, 0, none⟩) [2, 1, 0], ?_, ?_⟩
  · refine ⟨⟨by decide, by decide, rfl⟩, [i64 1, i64 2, i64 0], rfl, ?_⟩
    have hb := (Below.refl X.heap.size X).alloc (Nat.le_refl _) (.cells [i64 1, i64 2, i64 0].toArray 3)
    have hn := hnew X (.cells [i64 1, i64 2, i64 0].toArray 3)
    refine ⟨⟨by decide, by decide, rfl⟩, [i64 1, i64 0, i64 2], rfl, ?_⟩
    have hb2 := (Below.refl (X.alloc (.cells [i64 1, i64 2, i64 0].toArray 3)).heap.size (X.alloc (.cells [i64 1, i64 2, i64 0].toArray 3))).alloc (Nat.le_refl _) (.cells [i64 1, i64 0, i64 2].toArray 3)
    have hn2 := hnew (X.alloc (.cells [i64 1, i64 2, i64 0].toArray 3)) (.cells [i64 1, i64 0, i64 2].toArray 3)
    have hn1 := block_below hb2 hn
    refine Calls.mono (Then_c (a := [1, 2, 0]) (b := [1, 0, 2]) (SlR.of_cells (hlt hn1) (cells_block hn1)) (SlR.of_cells (hlt hn2) (cells_block hn2)) thenW1.1 thenW1.2) ?_
    rintro e V ⟨k, rfl, hk, hk1, hk2, hbV⟩
    have e2 : pickL (0 : Int) [1, 2, 0] [1, 0, 2] = [2, 1, 0] := by kernel_rfl
    rw [e2] at hk
    exact ⟨(L, b2, b4, b6, k), ⟨.cons rfl (.cons rfl (.cons rfl (.cons rfl (.cons rfl (.cons rfl (.cons rfl (.cons rfl (.cons rfl .nil)))))))), rfl⟩, ((hX.below hb).below hb2).below hbV, block_below hbV (block_below hb2 (block_below hb f2)), block_below hbV (block_below hb2 (block_below hb f4)), block_below hbV (block_below hb2 (block_below hb f6)), SlR.of_cells hk2 hk⟩
  clear hX f2 f4 f6
  rintro ⟨L, b2, b4, b6, b8⟩ X ⟨hX, f2, f4, f6, f8⟩
  refine ⟨Nat × Nat × Nat × Nat × Nat × Nat, fun q => ⟨[(1, .pointer (some ⟨q.1, 0, none⟩)), (2, .pointer (some ⟨q.2.1, 0, none⟩)), (3, i64 0), (4, .pointer (some ⟨q.2.2.1, 0, none⟩)), (5, i64 0), (6, .pointer (some ⟨q.2.2.2.1, 0, none⟩)), (7, i64 0), (8, .slice (some ⟨q.2.2.2.2.1, 0, none⟩) 3 3), (9, i64 0), (10, .slice (some ⟨q.2.2.2.2.2, 0, none⟩) 3 3), (11, i64 0)], []⟩, fun q X => Aw w X q.1 ∧ X.heap[q.2.1]? = some (.cells (⟨10, 1, 0, 0, 0, 0, false, 0, 0, 0, 0⟩ : Msg).enc.toArray 53 (0, 0)) ∧
    X.heap[q.2.2.1]? = some (.cells (⟨8, 2, 1, 0, 0, 0, false, 0, 0, 0, 0⟩ : Msg).enc.toArray 53 (0, 0)) ∧ X.heap[q.2.2.2.1]? = some (.cells (viewC 1 2 false).toArray 70 (0, 0)) ∧ SlR Go.Sei.intE X (some ⟨q.2.2.2.2.1, 0, none⟩) [2, 1, 0] ∧ SlR Go.Sei.intE X (some ⟨q.2.2.2.2.2, 0, none⟩) [2, 0, 1], ?_, ?_⟩
  · refine ⟨⟨by decide, by decide, rfl⟩, [i64 1, i64 2, i64 0], rfl, ?_⟩
    have hb := (Below.refl X.heap.size X).alloc (Nat.le_refl _) (.cells [i64 1, i64 2, i64 0].toArray 3)
    have hn := hnew X (.cells [i64 1, i64 2, i64 0].toArray 3)
    refine Calls.mono (Back_c (a := [1, 2, 0]) (SlR.of_cells (hlt hn) (cells_block hn)) thenW1.1) ?_
    rintro e V ⟨k, rfl, hk, hk1, hk2, hbV⟩
    rw [backW] at hk
    exact ⟨(L, b2, b4, b6, b8, k), ⟨.cons rfl (.cons rfl (.cons rfl (.cons rfl (.cons rfl (.cons rfl (.cons rfl (.cons rfl (.cons rfl (.cons rfl (.cons rfl .nil)))))))))), rfl⟩, (hX.below hb).below hbV, block_below hbV (block_below hb f2), block_below hbV (block_below hb f4), block_below hbV (block_below hb f6), (f8.below hb).below hbV, SlR.of_cells hk2 hk⟩
  clear hX f2 f4 f6 f8
  rintro ⟨L, b2, b4, b6, b8, b10⟩ X ⟨hX, f2, f4, f6, f8, f10⟩
  refine ⟨Nat × Nat × Nat × Nat × Nat, fun q => ⟨[(2, .pointer (some ⟨q.1, 0, none⟩)), (3, i64 0), (4, .pointer (some ⟨q.2.1, 0, none⟩)), (5, i64 0), (6, .pointer (some ⟨q.2.2.1, 0, none⟩)), (7, i64 0), (8, .slice (some ⟨q.2.2.2.1, 0, none⟩) 3 3), (9, i64 0), (10, .slice (some ⟨q.2.2.2.2, 0, none⟩) 3 3), (11, i64 0), (13, i64 2)], []⟩, fun q X => (GlobT X ∧ Below w.heap.size w X) ∧ X.heap[q.1]? = some (.cells (⟨10, 1, 0, 0, 0, 0, false, 0, 0, 0, 0⟩ : Msg).enc.toArray 53 (0, 0)) ∧
    X.heap[q.2.1]? = some (.cells (⟨8, 2, 1, 0, 0, 0, false, 0, 0, 0, 0⟩ : Msg).enc.toArray 53 (0, 0)) ∧ X.heap[q.2.2.1]? = some (.cells (viewC 1 2 false).toArray 70 (0, 0)) ∧ SlR Go.Sei.intE X (some ⟨q.2.2.2.1, 0, none⟩) [2, 1, 0] ∧ SlR Go.Sei.intE X (some ⟨q.2.2.2.2, 0, none⟩) [2, 0, 1], ?_, ?_⟩
  · obtain ⟨vs, B, h1, h2, h3, h4⟩ := hX.c
    refine ⟨vs, h3.len, cells_block h1, hlt h1, ?_⟩
    refine ⟨⟨by decide, by decide, rfl⟩, [i64 0, i64 0], rfl, ?_⟩
    have hb : Below X.heap.size X (X.alloc (.cells [i64 0, i64 0].toArray 3)) := (Below.refl _ X).alloc (Nat.le_refl _) _
    have hn := hnew X (.cells [i64 0, i64 0].toArray 3)
    have hX1 := hX.below hb
    refine Calls.mono (World_no_c (l := [0, 0]) (Nat.le_trans h2 hb.size) (h3.below (hb.mono h2)) hX1.T h4 (SlR.of_cells (hlt hn) (cells_block hn)) (by decide) (by rw [suitsW0]; exact Bool.and_false _)) ?_
    rintro e V ⟨rfl, hbV⟩
    refine store_new (X := V) (v := .agg zeroW.toArray) (ttOk.get 44 _ rfl) zeroW_len (by kernel_rfl) zeroW_one fun Y hbY fY sY => ?_
    have hXY := (hX1.below hbV).below hbY
    exact ⟨(b2, b4, b6, b8, b10), ⟨.cons rfl (.cons rfl (.cons rfl (.cons rfl (.cons rfl (.cons rfl (.cons rfl (.cons rfl (.cons rfl (.cons rfl (.cons rfl .nil)))))))))), rfl⟩, ⟨hXY.T, hXY.b⟩, block_below hbY (block_below hbV (block_below hb f2)), block_below hbY (block_below hbV (block_below hb f4)), block_below hbY (block_below hbV (block_below hb f6)), ((f8.below hb).below hbV).below hbY, ((f10.below hb).below hbV).below hbY⟩
  clear hX f2 f4 f6 f8 f10
  rintro ⟨b2, b4, b6, b8, b10⟩ X ⟨⟨hT, hbX⟩, f2, f4, f6, f8, f10⟩
  refine ⟨(Nat × Nat × Nat × Nat × Nat) × (Option Addr × Nat × PrmR × PrmR), fun q => ⟨[(2, .pointer (some ⟨q.1.1, 0, none⟩)), (3, i64 0), (4, .pointer (some ⟨q.1.2.1, 0, none⟩)), (5, i64 0), (6, .pointer (some ⟨q.1.2.2.1, 0, none⟩)), (7, i64 0), (8, .slice (some ⟨q.1.2.2.2.1, 0, none⟩) 3 3), (9, i64 0), (10, .slice (some ⟨q.1.2.2.2.2, 0, none⟩) 3 3), (11, i64 0), (13, i64 2), (14, .slice q.2.1 2 q.2.2.1)], []⟩, fun q X => (GlobT X ∧ Below w.heap.size w X) ∧ X.heap[q.1.1]? = some (.cells (⟨10, 1, 0, 0, 0, 0, false, 0, 0, 0, 0⟩ : Msg).enc.toArray 53 (0, 0)) ∧
    X.heap[q.1.2.1]? = some (.cells (⟨8, 2, 1, 0, 0, 0, false, 0, 0, 0, 0⟩ : Msg).enc.toArray 53 (0, 0)) ∧ X.heap[q.1.2.2.1]? = some (.cells (viewC 1 2 false).toArray 70 (0, 0)) ∧ SlR Go.Sei.intE X (some ⟨q.1.2.2.2.1, 0, none⟩) [2, 1, 0] ∧ SlR Go.Sei.intE X (some ⟨q.1.2.2.2.2, 0, none⟩) [2, 0, 1] ∧
    SlR prmE X q.2.1 [q.2.2.2.1, q.2.2.2.2] ∧ (q.2.2.2.1.1 = [0, 1, 2] ∧ q.2.2.2.2.1 = [1, 0, 2]) ∧ SlR Go.Sei.intE X q.2.2.2.1.2.1 q.2.2.2.1.1 ∧ SlR Go.Sei.intE X q.2.2.2.2.2.1 q.2.2.2.2.1, ?_, ?_⟩
  · refine Calls.mono (world_c (n := 3) (v := 3) (by omega)) ?_
    rintro e V ⟨vs, rfl, hw, hone, hbV⟩
    refine Calls.mono (All_c (Nat.le_refl _) hw (hT.below hbV)) ?_
    rintro e U ⟨q, cap, xs, rfl, hxs, hr, he, hbU⟩
    have hxs : xs.map (·.1) = [[0, 1, 2], [1, 0, 2]] := hxs.trans allW3
    obtain ⟨x0, x1, rfl⟩ : ∃ x0 x1, xs = [x0, x1] := two_of (by have := congrArg List.length hxs; rw [List.length_map] at this; exact this)
    have hxs : x0.1 = [0, 1, 2] ∧ x1.1 = [1, 0, 2] := by
      simp only [List.map_cons, List.map_nil, List.cons.injEq, and_true] at hxs
      exact hxs
    have hbXU : Below X.heap.size X U := hbV.trans (hbU.mono hbV.size)
    exact ⟨((b2, b4, b6, b8, b10), (q, cap, x0, x1)), ⟨.cons rfl (.cons rfl (.cons rfl (.cons rfl (.cons rfl (.cons rfl (.cons rfl (.cons rfl (.cons rfl (.cons rfl (.cons rfl (.cons rfl .nil))))))))))), rfl⟩, ⟨(hT.below hbV).below hbU, hbX.trans (hbXU.mono hbX.size)⟩, block_below hbXU f2, block_below hbXU f4, block_below hbXU f6, f8.below hbXU, f10.below hbXU, hr, hxs, he x0 (by simp), he x1 (by simp)⟩
  clear hT hbX f2 f4 f6 f8 f10
  rintro ⟨⟨b2, b4, b6, b8, b10⟩, ⟨q, cap, ⟨x0, p0, c0⟩, ⟨x1, p1, c1⟩⟩⟩ X ⟨⟨hT, hbX⟩, f2, f4, f6, f8, f10, hr, ⟨h0, h1⟩, k0, k1⟩
  dsimp only at f2 f4 f6 f8 f10 hr h0 h1 k0 k1 ⊢
  subst h0 h1
  refine brT ?_
  refine ⟨_, rfl, cells_block f2, hlt f2, ?_⟩
  refine ⟨(⟨10, 1, 0, 0, 0, 0, false, 0, 0, 0, 0⟩ : Msg).enc, rfl, ?_⟩
  refine ⟨_, fun w => eql_same _ _ (⟨10, 1, 0, 0, 0, 0, false, 0, 0, 0, 0⟩ : Msg) w, ?_⟩
  refine brT ?_
  refine brT ?_
  refine ⟨_, rfl, cells_block f4, hlt f4, ?_⟩
  refine ⟨(⟨8, 2, 1, 0, 0, 0, false, 0, 0, 0, 0⟩ : Msg).enc, rfl, ?_⟩
  refine ⟨_, fun w => eql_same _ _ (⟨8, 2, 1, 0, 0, 0, false, 0, 0, 0, 0⟩ : Msg) w, ?_⟩
  refine brT ?_
  refine brT ?_
  refine ⟨_, cells_at (cells_block f6) (i := 1) rfl, ?_⟩
  refine brT ?_
  refine brT ?_
  have go : ∀ {X : World} {l m : List Int} {p : Option Addr} (hl : SlR Go.Sei.intE X p l), Below X.heap.size X (X.alloc (.cells (m.map i64).toArray 3)) ∧ SlR Go.Sei.intE (X.alloc (.cells (m.map i64).toArray 3)) p l ∧ SlR Go.Sei.intE (X.alloc (.cells (m.map i64).toArray 3)) (some ⟨X.heap.size, 0, none⟩) m := by
    intro X l m p hl
    have hb := (Below.refl X.heap.size X).alloc (Nat.le_refl _) (.cells (m.map i64).toArray 3)
    have hn := hnew X (.cells (m.map i64).toArray 3)
    exact ⟨hb, hl.below hb, SlR.of_cells (hlt hn) (by rw [ints_map]; exact cells_block hn)⟩
  refine ⟨⟨by decide, by decide, rfl⟩, [i64 2, i64 1, i64 0], rfl, ?_⟩
  obtain ⟨g1, g2, g3⟩ := go (m := [2, 1, 0]) f8
  refine Calls.mono (Ints_c (a := [2, 1, 0]) (b := [2, 1, 0]) g2 g3 (by decide)) ?_
  rintro e X1 ⟨rfl, hb1⟩
  have hbX1 : Below X.heap.size X X1 := g1.trans (hb1.mono g1.size)
  clear g1 g2 g3 hb1
  refine brT ?_
  refine brT ?_
  refine ⟨⟨by decide, by decide, rfl⟩, [i64 2, i64 0, i64 1], rfl, ?_⟩
  obtain ⟨g1, g2, g3⟩ := go (m := [2, 0, 1]) (f10.below hbX1)
  refine Calls.mono (Ints_c (a := [2, 0, 1]) (b := [2, 0, 1]) g2 g3 (by decide)) ?_
  rintro e X2 ⟨rfl, hb2⟩
  have hbX2 : Below X.heap.size X X2 := hbX1.trans ((g1.trans (hb2.mono g1.size)).mono hbX1.size)
  clear g1 g2 g3 hb2 hbX1
  refine brT ?_
  refine brT ?_
  refine Calls.mono (world_c (n := 4) (v := 1) (by omega)) ?_
  rintro e V ⟨vs, rfl, hw, hone, hbV⟩
  refine Calls.mono (All_c (Nat.le_refl _) hw ((hT.below hbX2).below hbV)) ?_
  rintro e U ⟨q2, cap2, xs, rfl, hxs, hr2, he2, hbU⟩
  have hl : xs.length = 24 := by rw [← allW4, ← hxs, List.length_map]
  rw [hl]
  have hbX3 : Below X.heap.size X U := hbX2.trans ((hbV.trans (hbU.mono hbV.size)).mono hbX2.size)
  clear hw hxs hr2 he2 hbU hbV hbX2 hl
  refine brT ?_
  refine Calls.mono (world_c (n := 4) (v := 3) (by omega)) ?_
  rintro e V3 ⟨vs3, rfl, hw, hone3, hbV⟩
  refine Calls.mono (All_c (Nat.le_refl _) hw ((hT.below hbX3).below hbV)) ?_
  rintro e U3 ⟨q3, cap3, xs3, rfl, hxs, hr2, he2, hbU⟩
  have hl : xs3.length = 8 := by rw [← allW43, ← hxs, List.length_map]
  rw [hl]
  have hbX4 : Below X.heap.size X U3 := hbX3.trans ((hbV.trans (hbU.mono hbV.size)).mono hbX3.size)
  clear hw hxs hr2 he2 hbU hbV hbX3 hl
  refine brT ?_
  refine brT ?_
  obtain ⟨bq, oq, rfl, hbq, hat⟩ := hr.at (i := 0) (by show 0 < 2; decide)
  refine ⟨0, rfl, (by show 0 < 2; decide), ?_⟩
  refine ⟨_, cells_at (cells_below hbX4 (hat 0 (by show 0 < 2; decide))) (i := 0) rfl, ?_⟩
  refine ⟨⟨by decide, by decide, rfl⟩, [i64 0, i64 1, i64 2], rfl, ?_⟩
  obtain ⟨g1, g2, g3⟩ := go (m := [0, 1, 2]) (k0.below hbX4)
  refine Calls.mono (Ints_c (a := [0, 1, 2]) (b := [0, 1, 2]) g2 g3 (by decide)) ?_
  rintro e X5 ⟨rfl, hb5⟩
  have hbX5 : Below X.heap.size X X5 := hbX4.trans ((g1.trans (hb5.mono g1.size)).mono hbX4.size)
  clear g1 g2 g3 hb5 hbX4
  refine brT ?_
  refine ⟨1, rfl, (by show 1 < 2; decide), ?_⟩
  refine ⟨_, cells_at (cells_below hbX5 (hat 1 (by show 1 < 2; decide))) (i := 0) rfl, ?_⟩
  refine ⟨⟨by decide, by decide, rfl⟩, [i64 1, i64 0, i64 2], rfl, ?_⟩
  obtain ⟨g1, g2, g3⟩ := go (m := [1, 0, 2]) (k1.below hbX5)
  refine Calls.mono (Ints_c (a := [1, 0, 2]) (b := [1, 0, 2]) g2 g3 (by decide)) ?_
  rintro e X6 ⟨rfl, hb6⟩
  exact ⟨rfl, hbX.trans ((hbX5.trans ((g1.trans (hb6.mono g1.size)).mono hbX5.size)).mono hbX.size)⟩
end Go.Proofs.YthgmcegmgjoafaaGreatDoor
namespace Go.Proofs.YthgmcegmgjoafaaGreatDoor
open Go.Vc Go.RowKit Go.Sei
theorem backN_get_lt {l : List Int} {n : Nat} (hr : ∀ x ∈ l, 0 ≤ x ∧ x < n) : ∀ k, k ≤ l.length → ∀ x ∈ backN l k, 0 ≤ x ∧ x < l.length
  | 0, _ => fun x hx => by
    unfold backN at hx
    simp only [List.range_zero, List.foldl_nil] at hx
    have h0 := List.eq_of_mem_replicate hx
    have : 0 < l.length := by
      cases l with
      | nil => simp at hx
      | cons a r => simp
    omega
  | k + 1, hk => fun x hx => by
    rw [backN_succ] at hx
    rcases List.mem_or_eq_of_mem_set hx with hx | hx
    · exact backN_get_lt hr k (by omega) x hx
    · omega
def b8 (x : Int) : Value := .int .u8 x
theorem inverse_c {q : Option Addr} {cap n : Nat} {l : List Int} {w : World} (hl : SlR Go.Sei.intE w q l) (hn : l.length = n) (h8 : n ≤ 100) (hr : ∀ x ∈ l, 0 ≤ x ∧ x < n) (hnd : l.Nodup) :
    Calls Tryz.prog 135 #[.slice q l.length cap, i64 n] w fun e w' => ∃ k, e = .returned (.tuple #[.slice (some ⟨k, 0, none⟩) n n, .bool true]) ∧ w'.heap[k]? = some (.cells ((backL l).map b8).toArray 5 (0, 0)) ∧ w.heap.size ≤ k ∧ Below w.heap.size w w' := by
  refine calls_of_E (S := sg 48) (sgOk _) (args := [.slice q l.length cap, i64 n]) Tryz.func135 rfl rfl (Nat.le_of_ble_eq_true rfl) rfl ?_
  refine brN (b := !decide ((l.length : Int) = (n : Int))) (by rw [hn]; simp) ?_
  refine make_zero Tryz.underlying23 (ttOk.get 5 _ rfl) rfl rfl (by decide) _ (by show 1 * _ ≤ _; omega) (by omega) fun V fV hbV sV => ?_
  obtain ⟨L, hL⟩ : ∃ L, L = w.heap.size := ⟨_, rfl⟩
  have p1 : some (Value.slice (some ⟨w.heap.size, 0, none⟩) n n) = some (Value.slice (some ⟨L, 0, none⟩) n n) := by rw [hL]
  rw [← hL] at fV sV
  refine make_zero Tryz.underlying287 (ttOk.get 4 _ rfl) rfl rfl (by decide) _ (by show 1 * _ ≤ _; omega) (by omega) fun U fU hbU sU => ?_
  have p2 : some (Value.slice (some ⟨V.heap.size, 0, none⟩) n n) = some (Value.slice (some ⟨L + 1, 0, none⟩) n n) := by rw [sV]
  rw [sV] at fU
  have zb : ∀ n : Nat, zrep [Value.bool false] n = (List.replicate n false).map Value.bool := fun n => by
    induction n with
    | zero => rfl
    | succ n ih => rw [List.replicate_succ, List.map_cons, ← ih]; rfl
  have zu : ∀ n : Nat, zrep [Value.int .u8 0] n = (List.replicate n (0 : Int)).map b8 := fun n => by
    induction n with
    | zero => rfl
    | succ n ih => rw [List.replicate_succ, List.map_cons, ← ih]; rfl
  refine ⟨Nat × List Bool, fun s => ⟨[(1, i64 n), (6, .slice (some ⟨L, 0, none⟩) n n), (7, .slice (some ⟨L + 1, 0, none⟩) n n), (18, .slice q l.length cap), (19, i64 l.length), (20, i64 (s.1 : Nat))], []⟩,
    fun s X => (s.1 ≤ l.length ∧ s.2.length = n ∧ ∀ i, s.1 ≤ i → (hi : i < l.length) → s.2.getD l[i].toNat false = false) ∧ X.heap[L]? = some (.cells ((backN l s.1).map b8).toArray 5 (0, 0)) ∧ X.heap[L + 1]? = some (.cells (s.2.map Value.bool).toArray 4 (0, 0)) ∧ Below w.heap.size w X, fun s => l.length - s.1, (0, List.replicate n false),
    ⟨.cons rfl (.cons p1 (.cons p2 (.cons rfl (.cons rfl (.cons rfl .nil))))), rfl⟩, ⟨⟨Nat.zero_le _, by simp, fun i _ hi => by
      rw [List.getD_eq_getElem?_getD]
      by_cases h : l[i].toNat < n
      · simp [h]
      · simp [h]⟩, ?_, ?_, hbV.trans (hbU.mono hbV.size)⟩, ?_⟩
  · refine (hbU.block L (by omega)).trans ?_
    rw [fV]; congr 2
    show (zrep [Value.int .u8 0] n).toArray = _
    rw [zu, ← hn]; rfl
  · rw [fU]; congr 2
    exact congrArg List.toArray (zb n)
  clear fV hbV sV fU hbU sU p1 p2
  rintro ⟨k, S⟩ X ⟨⟨hk, hS, hno⟩, f1, f2, hbX⟩
  dsimp only at hk hS hno f1 f2 ⊢
  refine And.intro (fun hc => ?_) (fun hc => ?_)
  · have hc : (k : Int) < (l.length : Int) := of_decide_eq_true hc
    have hkl : k < l.length := by omega
    obtain ⟨b, o, rfl, hb, hat⟩ := hl.at hkl
    obtain ⟨r0, r1⟩ := hr _ (List.getElem_mem hkl)
    have hS0 := hno k (Nat.le_refl _) hkl
    refine ⟨k, rfl, hkl, ?_⟩
    refine ⟨_, cells_at (cells_below hbX (hat k hkl)) (i := 0) rfl, ?_⟩
    refine brN (b := decide (l[k] < 0)) (decide_eq_false (by omega)) ?_
    refine brN (b := decide ((n : Int) ≤ l[k])) (decide_eq_false (by omega)) ?_
    refine ⟨l[k].toNat, by omega, by omega, ?_⟩
    have hg : (S.map Value.bool)[l[k].toNat]? = some (.bool false) := by
      rw [List.getElem?_map, List.getElem?_eq_getElem (by omega)]
      rw [List.getD_eq_getElem?_getD, List.getElem?_eq_getElem (by omega)] at hS0
      simp only [Option.getD_some] at hS0
      rw [hS0]; rfl
    refine ⟨.bool false, by have := cells_at (cells_block f2) hg; rw [Nat.mul_one]; exact this, ?_⟩
    refine brF ?_
    refine ⟨l[k].toNat, by omega, by omega, ?_⟩
    refine store_one (ttOk.get 4 _ rfl) f2 (o := 0 + l[k].toNat * 1) (v := .bool true) rfl rfl (by rw [List.length_map]; omega) rfl fun Y fY gY sY => ?_
    refine ⟨(k : Int), wrap_u8 (by omega), ?_⟩
    have g1 : Y.heap[L]? = some (.cells ((backN l k).map b8).toArray 5 (0, 0)) := (gY.block L (hlt f1) (by simp)).trans f1
    refine ⟨l[k].toNat, by omega, by omega, ?_⟩
    refine store_one (ttOk.get 5 _ rfl) g1 (o := 0 + l[k].toNat * 1) (v := b8 (k : Nat)) rfl rfl (by rw [List.length_map, backN_len]; omega) rfl fun Z fZ gZ sZ => ?_
    refine ⟨_, (wrap_i64 (by omega)).trans rfl, ?_⟩
    have g2 : Z.heap[L + 1]? = some (.cells ((S.map Value.bool).set (0 + l[k].toNat * 1) (.bool true)).toArray 4 (0, 0)) := (gZ.block (L + 1) (hlt fY) (by simp)).trans fY
    have hXs := hbX.size
    refine ⟨(k + 1, S.set l[k].toNat true), ⟨.cons rfl (.cons rfl (.cons rfl (.cons rfl (.cons rfl (.cons rfl .nil))))), rfl⟩, ⟨⟨hkl, by rw [List.length_set]; exact hS, fun i hi hil => ?_⟩, ?_, ?_, ?_⟩, by show l.length - (k + 1) < l.length - k; omega⟩
    · dsimp only at hi
      have hne : l[k].toNat ≠ l[i].toNat := fun e => by
        have h2 := List.pairwise_iff_getElem.1 hnd k i hkl hil (by omega)
        have := hr _ (List.getElem_mem hil)
        exact h2 (by omega)
      have h3 := hno i (by omega) hil
      rw [List.getD_eq_getElem?_getD] at h3 ⊢
      rw [List.getElem?_set_ne hne]; exact h3
    · rw [fZ, backN_succ, List.map_set]
      have e1 : l.getD k 0 = l[k] := by rw [List.getD_eq_getElem?_getD, List.getElem?_eq_getElem hkl]; rfl
      rw [e1, Nat.mul_one, Nat.zero_add]
    · rw [g2, List.map_set, Nat.mul_one, Nat.zero_add]
    · have := gY.size
      exact (hbX.trans (below_grown gY hXs (by omega))).trans (below_grown gZ (by omega) (by omega))
  · have hc : ¬ (k : Int) < (l.length : Int) := of_decide_eq_false hc
    obtain rfl : k = l.length := by omega
    exact ⟨L, rfl, f1, by omega, hbX⟩
theorem eqIns_some (d : Nat) (a : Addr) (n c : Nat) (w : World) : (Op.equalIn (d + 1) 166 (.slice (some a) n c) (.slice none 0 0)).run Tryz.prog w = .ok false w := by
  simp [Op.equalIn, run_underlying Tryz.underlying166]
theorem eqIns_none (d : Nat) (n c : Nat) (w : World) : (Op.equalIn (d + 1) 166 (.slice none n c) (.slice none 0 0)).run Tryz.prog w = .ok true w := by
  simp [Op.equalIn, run_underlying Tryz.underlying166]
theorem eqlIns (x y : Operand) (a : Option Addr) (n c : Nat) (w : World) : (do eqGuard .eql 166 x y (.slice a n c) (.slice none 0 0); binOp .eql 166 (.slice a n c) (.slice none 0 0) : Sem Value).run Tryz.prog w = .ok (.bool a.isNone) w := by
  have h : (Op.equal 166 (.slice a n c) (.slice none 0 0)).run Tryz.prog w = .ok a.isNone w := by
    cases a with
    | none => exact eqIns_none 9999 n c w
    | some a => exact eqIns_some 9999 a n c w
  have h1 : (eqGuard .eql 166 x y (.slice a n c) (.slice none 0 0)).run Tryz.prog w = .ok () w := by
    simp only [eqGuard, Bool.not_true, Bool.false_eq_true, if_false, Sem.run_pure]
  rw [Sem.run_bind, h1]
  simp only [Result.andThen_ok, binOp, Sem.run_bind, h, Sem.run_pure]
def InsB (B : Nat) (X : World) (x : ThrR) : Prop := (x.2.1 = none ∧ x.1 = []) ∨ ∃ b cur, x.2.1 = some ⟨b, 0, none⟩ ∧ B ≤ b ∧ X.heap[b]? = some (.cells cur 170 (0, 0)) ∧ cur.toList.take (x.1.length * 10) = x.1.flatMap insE.enc
theorem InsB.same {B : Nat} {X Y : World} {x : ThrR} (h : InsB B X x) (hs : ∀ b, x.2.1 = some ⟨b, 0, none⟩ → Y.heap[b]? = X.heap[b]?) : InsB B Y x := by
  rcases h with h | ⟨b, cur, h1, h2, h3, h4⟩
  · exact .inl h
  · exact .inr ⟨b, cur, h1, h2, (hs b h1).trans h3, h4⟩
theorem InsB.row {B : Nat} {X : World} {x : ThrR} (h : InsB B X x) : SlR insE X x.2.1 x.1 := by
  rcases h with ⟨_, h⟩ | ⟨b, cur, h1, h2, h3, h4⟩
  · exact .inl h
  · rw [h1]
    refine SlR.of_cells (hlt h3) ?_
    rw [← h4]
    have h5 : X.heap[b]? = some (.cells cur.toList.toArray 170 (0, 0)) := by simpa using h3
    exact cells_sub (n := 0) (m := x.1.length * 10) (cells_block h5)
theorem Clone_ins_c {q : Option Addr} {cap : Nat} {l : List InsD} {w : World} (hl : SlR insE w q l) (hn : l.length ≤ 1000) :
    Calls Tryz.prog 136 #[.slice q l.length cap] w fun e w' => ∃ x : ThrR, e = .returned (.slice x.2.1 l.length x.2.2) ∧ x.1 = l ∧ InsB w.heap.size w' x ∧ Below w.heap.size w w' := by
  refine calls_of_E (S := sg 8) (sgOk _) (args := [.slice q l.length cap]) Tryz.func136 rfl rfl (Nat.le_of_ble_eq_true rfl) rfl ?_
  refine ⟨_, fun w => eqlIns _ _ q l.length cap w, ?_⟩
  cases q with
  | none =>
    have h0 : l = [] := hl.none
    subst h0
    refine brT ?_
    exact ⟨([], none, 0), rfl, rfl, .inl ⟨rfl, rfl⟩, Below.refl _ _⟩
  | some a =>
    refine brF ?_
    refine ⟨⟨by decide, by decide, rfl⟩, [], rfl, ?_⟩
    have hb0 : Below w.heap.size w (w.alloc (.cells #[] 170)) := (Below.refl _ w).alloc (Nat.le_refl _) _
    have hown : OwnS insE 170 w.heap.size (w.alloc (.cells #[] 170)) (some ⟨w.heap.size, 0, none⟩) 0 [] := by
      unfold OwnS World.ownsRow
      exact ⟨rfl, .inr ⟨w.heap.size, 0, #[], rfl, Nat.le_refl _, hnew w _, Nat.le_refl _, Nat.zero_le _, rfl, rfl⟩⟩
    refine app_any (E := insE) (T := 170) (B := w.heap.size) (l := []) (news := l) (cap := 0) Tryz.underlying166 (ttOk.get 170 _ rfl) rfl rfl rfl hown rfl (hl.below hb0) (fun h => by cases h) hb0.size (by simp; omega) (by simp; show _ * 10 ≤ _; omega) ?_
    intro p' cap' w' ho hg hbw
    refine ⟨(l, p', cap'), rfl, rfl, ?_, hb0.trans hbw⟩
    rcases ho.inv with ⟨h1, _, h0⟩ | ⟨g, cur, rfl, hBg, hgg, _, _, _, ht⟩
    · exact .inl ⟨h1, h0⟩
    · exact .inr ⟨g, cur, rfl, hBg, hgg, ht⟩
theorem equalIn_sln (d : Nat) (n c : Nat) (w : World) : (Op.equalIn (d + 1) 46 (.slice none n c) (.slice none 0 0)).run Tryz.prog w = .ok true w := by
  simp [Op.equalIn, run_underlying Tryz.underlying46]
theorem Clone_ints_c {q : Option Addr} {cap : Nat} {l : List Int} {w : World} (hl : SlR Go.Sei.intE w q l) (hn : l.length ≤ 1000) (h1 : 1 ≤ l.length) :
    Calls Tryz.prog 64 #[.slice q l.length cap] w fun e w' => ∃ k c, e = .returned (.slice k l.length c) ∧ SlR Go.Sei.intE w' k l ∧ Below w.heap.size w w' := by
  obtain ⟨b, o, rfl, hb, hat⟩ := hl.at (i := 0) h1
  refine calls_of_E (S := sg 8) (sgOk _) (args := [.slice (some ⟨b, o, none⟩) l.length cap]) Tryz.func64 rfl rfl (Nat.le_of_ble_eq_true rfl) rfl ?_
  refine ⟨_, fun w => eql_sl _ _ ⟨b, o, none⟩ l.length cap w, ?_⟩
  refine brF ?_
  refine ⟨⟨by decide, by decide, rfl⟩, [], rfl, ?_⟩
  have hb0 : Below w.heap.size w (w.alloc (.cells #[] 3)) := (Below.refl _ w).alloc (Nat.le_refl _) _
  have hown : OwnS Go.Sei.intE 3 w.heap.size (w.alloc (.cells #[] 3)) (some ⟨w.heap.size, 0, none⟩) 0 [] := by
    unfold OwnS World.ownsRow
    exact ⟨rfl, .inr ⟨w.heap.size, 0, #[], rfl, Nat.le_refl _, hnew w _, Nat.le_refl _, Nat.zero_le _, rfl, rfl⟩⟩
  refine app_any (E := Go.Sei.intE) (T := 3) (B := w.heap.size) (l := []) (news := l) (cap := 0) Tryz.underlying46 (ttOk.get 3 _ rfl) rfl rfl rfl hown rfl (hl.below hb0) (fun h => by cases h) hb0.size (by simp; omega) (by simp; show _ * 8 ≤ _; omega) ?_
  intro p' cap' w' ho hg hbw
  exact ⟨p', cap', rfl, ho.row, hb0.trans hbw⟩
end Go.Proofs.YthgmcegmgjoafaaGreatDoor
namespace Go.Proofs.YthgmcegmgjoafaaGreatDoor
open Go.Vc Go.RowKit Go.Sei
mutual
def turnC (to : List Int) : Cnd → Cnd
  | .mk k t n v kids => .mk k (if k = 1 then UInt8.ofNat (to.getD t.toNat 0).toNat else t) n v (turnCs to kids)
def turnCs (to : List Int) : List Cnd → List Cnd
  | [] => []
  | c :: r => turnC to c :: turnCs to r
end
theorem turnCs_map (to : List Int) : ∀ l : List Cnd, turnCs to l = l.map (turnC to)
  | [] => by rw [turnCs]; rfl
  | c :: r => by rw [turnCs, turnCs_map to r]; rfl
def turnT (to : List Int) (k t : UInt8) : UInt8 := if k = 1 then UInt8.ofNat (to.getD t.toNat 0).toNat else t
theorem turnC_eq (to : List Int) (c : Cnd) : turnC to c = .mk c.kind (turnT to c.kind c.thread) c.n c.val (c.kids.map (turnC to)) := by
  obtain ⟨k, t, n, v, kids⟩ := c
  rw [turnC, turnCs_map]; rfl
theorem condB_parts {th lo d : Nat} {c : Cnd} (h : condB th lo (d + 1) c = true) : (c.kind = 1 → c.thread.toNat < th) ∧ (c.kind = 2 → c.n.toNat < lo) ∧ ∀ x ∈ c.kids, condB th lo d x = true := by
  rw [condB_succ] at h
  have nil : c.kids.length = 0 → ∀ x ∈ c.kids, condB th lo d x = true := fun h x hx => by rw [List.eq_nil_of_length_eq_zero h] at hx; cases hx
  by_cases h0 : c.kind = 0
  · rw [if_pos h0, Bool.and_eq_true, decide_eq_true_eq] at h
    exact ⟨fun e => by rw [h0] at e; exact absurd e (by decide), fun e => by rw [h0] at e; exact absurd e (by decide), nil h.2⟩
  rw [if_neg h0] at h
  by_cases h1 : c.kind = 1
  · rw [if_pos h1, Bool.and_eq_true, Bool.and_eq_true, decide_eq_true_eq, decide_eq_true_eq, decide_eq_true_eq] at h
    exact ⟨fun _ => h.1, fun e => by rw [h1] at e; exact absurd e (by decide), nil h.2.2⟩
  rw [if_neg h1] at h
  by_cases h2 : c.kind = 2
  · rw [if_pos h2, Bool.and_eq_true, Bool.and_eq_true, decide_eq_true_eq, decide_eq_true_eq, decide_eq_true_eq] at h
    exact ⟨fun e => absurd e h1, fun _ => h.1, nil h.2.2⟩
  rw [if_neg h2] at h
  refine ⟨fun e => absurd e h1, fun e => absurd e h2, ?_⟩
  by_cases h3 : c.kind = 3 ∨ c.kind = 4
  · rw [if_pos h3, Bool.and_eq_true, Bool.and_eq_true, List.all_eq_true] at h
    exact h.2.2
  rw [if_neg h3] at h
  by_cases h5 : c.kind = 5
  · rw [if_pos h5, Bool.and_eq_true, Bool.and_eq_true, List.all_eq_true] at h
    exact h.2.2
  rw [if_neg h5] at h
  cases h
structure CloI (T Q : Nat) (to : List Int) (lo : Nat) (X : World) : Prop where
  t : ∃ b, X.heap[T]? = some (.cells #[.slice (some ⟨b, 0, none⟩) to.length to.length] 23 (0, 0)) ∧ X.heap[b]? = some (.cells (to.map b8).toArray 5 (0, 0))
  q : ∃ b, X.heap[Q]? = some (.cells #[.slice (some ⟨b, 0, none⟩) lo lo] 23 (0, 0)) ∧ X.heap[b]? = some (.cells ((iotaL lo).map b8).toArray 5 (0, 0))
  r : ∀ x ∈ to, 0 ≤ x ∧ x < 256
theorem CloI.below {T Q lo : Nat} {to : List Int} {X Y : World} (h : CloI T Q to lo X) (hb : Below X.heap.size X Y) : CloI T Q to lo Y := by
  obtain ⟨⟨b, h1, h2⟩, ⟨c, h3, h4⟩, h5⟩ := h
  exact ⟨⟨b, block_below hb h1, block_below hb h2⟩, ⟨c, block_below hb h3, block_below hb h4⟩, h5⟩
def hdC (k t n v : UInt8) (x : Value) : List Value := [u8 k, u8 t, u8 n, u8 v, x]
theorem b8_u8 {x : Int} (h : 0 ≤ x ∧ x < 256) : b8 x = u8 (UInt8.ofNat x.toNat) := by
  unfold b8
  rw [u8_nat (by omega)]
  congr 1; omega
theorem b8_at {to : List Int} {i : Nat} (h : i < to.length) : (to.map b8)[i]? = some (b8 (to.getD i 0)) := by
  rw [List.getElem?_map, List.getElem?_eq_getElem h, List.getD_eq_getElem?_getD, List.getElem?_eq_getElem h]; rfl
theorem turn1_c {b T Q lo : Nat} {to : List Int} {k t n v : UInt8} {x : Value} {w : World} (hb : w.heap[b]? = some (.cells (hdC k t n v x).toArray 27 (0, 0))) (hC : CloI T Q to lo w) (h1 : k = 1 → t.toNat < to.length) (h2 : k = 2 → n.toNat < lo) :
    Calls Tryz.prog 138 #[.pointer (some ⟨b, 0, none⟩), .pointer (some ⟨T, 0, none⟩), .pointer (some ⟨Q, 0, none⟩)] w fun e w' => e = .returned (.tuple #[]) ∧ w'.heap[b]? = some (.cells (hdC k (turnT to k t) n v x).toArray 27 (0, 0)) ∧ w.grownBy w' (some b) ∧ w'.heap.size = w.heap.size := by
  refine calls_of_E (S := sg 32) (sgOk _) (args := [.pointer (some ⟨b, 0, none⟩), .pointer (some ⟨T, 0, none⟩), .pointer (some ⟨Q, 0, none⟩)]) Tryz.func138 rfl rfl (Nat.le_of_ble_eq_true rfl) rfl ?_
  have hc := cells_block hb
  refine ⟨_, cells_at hc (i := 0) rfl, ?_⟩
  have hbd : Below w.heap.size w w.drew := (Below.refl _ w).drew
  have gd : w.grownBy w.drew (some b) := ⟨rfl, rfl, rfl, Nat.le_refl _, fun _ _ _ => rfl⟩
  refine And.intro (fun h => ?_) (fun h => ?_)
  · have h : k = 1 := of_decide_eq_true ((u8d k 1).symm.trans h)
    have ht := h1 h
    obtain ⟨⟨bt, f1, f2⟩, _, hr⟩ := hC.below hbd
    refine DrawE.ord [10] [0, 1, 2, 3, 4, 5, 6, 7, 8, 9, 10] (by kernel_rfl) ?_
    refine ⟨_, cells_at (cells_block f1) (i := 0) rfl, ?_⟩
    refine ⟨_, cells_at (cells_block (hdr hb)) (i := 1) rfl, ?_⟩
    refine ⟨t.toNat, rfl, ht, ?_⟩
    refine ⟨b8 (to.getD t.toNat 0), by have := cells_at (cells_block f2) (b8_at ht); rw [Nat.mul_one]; exact this, ?_⟩
    refine store_one (ttOk.get 5 _ rfl) (hdr hb) (o := 0 + 1) (v := b8 (to.getD t.toNat 0)) rfl rfl (by show 1 < 5; decide) rfl fun Y fY gY sY => ?_
    refine ⟨rfl, ?_, grown_trans gd gY, sY⟩
    rw [fY]
    have e : b8 (to.getD t.toNat 0) = u8 (turnT to k t) := by
      unfold turnT
      rw [if_pos h]
      refine b8_u8 (hr _ ?_)
      rw [List.getD_eq_getElem?_getD, List.getElem?_eq_getElem ht]
      exact List.getElem_mem _
    rw [e]; rfl
  · have h : ¬ k = 1 := of_decide_eq_false ((u8d k 1).symm.trans h)
    have e0 : turnT to k t = t := by unfold turnT; rw [if_neg h]
    rw [e0]
    refine And.intro (fun h => ?_) (fun h => ?_)
    · have h : k = 2 := of_decide_eq_true ((u8d k 2).symm.trans h)
      have hn := h2 h
      obtain ⟨_, ⟨bt, f1, f2⟩, hr⟩ := hC.below hbd
      refine DrawE.ord [10] [0, 1, 2, 3, 4, 5, 6, 7, 8, 9, 10] (by kernel_rfl) ?_
      refine ⟨_, cells_at (cells_block f1) (i := 0) rfl, ?_⟩
      refine ⟨_, cells_at (cells_block (hdr hb)) (i := 2) rfl, ?_⟩
      refine ⟨n.toNat, rfl, hn, ?_⟩
      refine ⟨b8 (n.toNat : Nat), by
        have h3 := b8_at (to := iotaL lo) (i := n.toNat) (by rw [iota_length]; exact hn)
        rw [iota_get hn] at h3
        have := cells_at (cells_block f2) h3; rw [Nat.mul_one]; exact this, ?_⟩
      refine store_one (ttOk.get 5 _ rfl) (hdr hb) (o := 0 + 2) (v := b8 (n.toNat : Nat)) rfl rfl (by show 2 < 5; decide) rfl fun Y fY gY sY => ?_
      refine ⟨rfl, ?_, grown_trans gd gY, sY⟩
      rw [fY]; rfl
    · exact ⟨rfl, hb, ⟨rfl, rfl, rfl, Nat.le_refl _, fun _ _ _ => rfl⟩, rfl⟩
inductive KidsR (lo hi : Nat) (w : World) : Option Addr → List Cnd → Prop
  | mk (p : Option Addr) (kids : List Cnd) (hn : kids.length * 32 ≤ 140737488351232) (b o : Nat) (hp : kids.length = 0 ∨ p = some ⟨b, o, none⟩) (q : Nat → Option Addr) (c : Nat → Nat)
      (hk : ∀ i (h : i < kids.length), (lo ≤ b ∧ b < hi) ∧ Cells w ⟨b, o + i * 5, none⟩ (cndCells kids[i] (q i) (c i)))
      (ht : ∀ i (h : i < kids.length), KidsR lo hi w (q i) kids[i].kids) : KidsR lo hi w p kids
theorem KidsR.v {lo hi : Nat} {w : World} {p : Option Addr} {kids : List Cnd} (h : KidsR lo hi w p kids) : KidsV hi w p kids := by
  induction h with
  | mk p kids hn b o hp q c hk ht ih => exact .mk p kids hn b o hp q c (fun i hi => ⟨(hk i hi).1.2, (hk i hi).2⟩) ih
theorem KidsR.same {lo hi : Nat} {w w2 : World} {p : Option Addr} {kids : List Cnd} (h : KidsR lo hi w p kids) (hs : ∀ k, lo ≤ k → k < hi → w2.heap[k]? = w.heap[k]?) : KidsR lo hi w2 p kids := by
  induction h with
  | mk p kids hn b o hp q c hk ht ih => exact .mk p kids hn b o hp q c (fun i hi => ⟨(hk i hi).1, cells_same (hs _ (hk i hi).1.1 (hk i hi).1.2) (hk i hi).2⟩) ih
theorem KidsR.wide {lo hi lo' hi' : Nat} {w : World} {p : Option Addr} {kids : List Cnd} (h : KidsR lo hi w p kids) (h1 : lo' ≤ lo) (h2 : hi ≤ hi') : KidsR lo' hi' w p kids := by
  induction h with
  | mk p kids hn b o hp q c hk ht ih => exact .mk p kids hn b o hp q c (fun i hi => ⟨⟨Nat.le_trans h1 (hk i hi).1.1, Nat.lt_of_lt_of_le (hk i hi).1.2 h2⟩, (hk i hi).2⟩) ih
abbrev CndR := Cnd × Option Addr × Nat × Nat × Nat
def cndE : Enc CndR := ⟨fun x => cndCells x.1 x.2.1 x.2.2.1, 5, fun _ => rfl, by decide, fun a u hu => by
  simp only [cndCells, List.mem_cons, List.not_mem_nil, or_false] at hu
  rcases hu with rfl | rfl | rfl | rfl | rfl <;> rfl⟩
structure KidI (L : Nat) (X : World) (p : Option Addr) (y : CndR) : Prop where
  k : KidsR y.2.2.2.1 y.2.2.2.2 X y.2.1 y.1.kids
  lo : L + 2 ≤ y.2.2.2.1
  hi : y.2.2.2.2 ≤ X.heap.size
  p : ∀ a, p = some a → a.block < y.2.2.2.1 ∨ y.2.2.2.2 ≤ a.block
theorem KidI.below {L : Nat} {X Y : World} {p : Option Addr} {y : CndR} (h : KidI L X p y) (hb : Below X.heap.size X Y) : KidI L Y p y :=
  ⟨h.k.same fun k _ hk => hb.block k (Nat.lt_of_lt_of_le hk h.hi), h.lo, Nat.le_trans h.hi hb.size, h.p⟩
def clo (T Q : Nat) : Value := .func (.func 138) #[] #[.pointer (some ⟨T, 0, none⟩), .pointer (some ⟨Q, 0, none⟩)]
theorem turnCond_c {B T Q lo th : Nat} {to : List Int} {w0 : World} (hth : to.length = th) : ∀ (d : Nat) (X : World) (c : Cnd) (p : Option Addr) (cap : Nat), condB th lo d c = true → KidsV B w0 p c.kids → Below B w0 X → B ≤ X.heap.size → CloI T Q to lo X →
    Calls Tryz.prog 137 #[.agg (cndCells c p cap).toArray, clo T Q] X fun e w' => ∃ p' cap', e = .returned (.agg (cndCells (turnC to c) p' cap').toArray) ∧ KidsR X.heap.size w'.heap.size w' p' (turnC to c).kids ∧ Below X.heap.size X w' := by
  intro d
  induction d with
  | zero => intro X c p cap h; cases c; cases h
  | succ d ih =>
    intro w c p cap hcd hk hbw hBw hC
    obtain ⟨hc1, hc2, hck⟩ := condB_parts hcd
    obtain ⟨hlen, bk, ok, hp, hks⟩ := hk.inv
    refine calls_of_M (S := sg 27) (sgOk _) (args := [.agg (cndCells c p cap).toArray, clo T Q]) (.c .p (.s .p .p)) Tryz.func137 rfl rfl (Nat.le_of_ble_eq_true rfl) rfl ?_
    obtain ⟨L, hL⟩ : ∃ L, L = w.heap.size := ⟨_, rfl⟩
    obtain ⟨W1, hW1⟩ : ∃ W1, W1 = w.alloc (.cells (cndCells c p cap).toArray 27) := ⟨_, rfl⟩
    have s1 : W1.heap.size = L + 1 := by rw [hW1, World.size_alloc, hL]
    have z0 : List Value := [u8 0, u8 0, u8 0, u8 0, .slice none 0 0]
    refine ⟨Unit, fun _ => ⟨[(1, clo T Q), (2, .pointer (some ⟨L, 0, none⟩)), (4, .pointer (some ⟨L + 1, 0, none⟩))], []⟩, fun _ X => X.heap[L]? = some (.cells (cndCells c p cap).toArray 27 (0, 0)) ∧ (∃ cs : Array Value, X.heap[L + 1]? = some (.cells cs 27 (0, 0)) ∧ cs.size = 5) ∧ X.heap.size = L + 2 ∧ Below w.heap.size w X, ?_, ?_⟩
    · have q1 : some (Value.pointer (some ⟨w.heap.size, 0, none⟩)) = some (Value.pointer (some ⟨L, 0, none⟩)) := by rw [hL]
      have q2 : some (Value.pointer (some ⟨W1.heap.size, 0, none⟩)) = some (Value.pointer (some ⟨L + 1, 0, none⟩)) := by rw [s1]
      rw [hW1] at q2
      refine ⟨(), ⟨.cons rfl (.cons q1 (.cons q2 .nil)), rfl⟩, ?_⟩
      have hM : ∀ cs : Array Value, cs.size = 5 → (W1.alloc (.cells cs 27)).heap[L]? = some (.cells (cndCells c p cap).toArray 27 (0, 0)) ∧ (∃ cs' : Array Value, (W1.alloc (.cells cs 27)).heap[L + 1]? = some (.cells cs' 27 (0, 0)) ∧ cs'.size = 5) ∧ (W1.alloc (.cells cs 27)).heap.size = L + 2 ∧ Below w.heap.size w (W1.alloc (.cells cs 27)) := fun cs hcs => by
        refine ⟨hold _ ?_, ⟨cs, ?_, hcs⟩, by rw [World.size_alloc, s1], ?_⟩
        · rw [hW1, hL]; exact hnew w _
        · rw [← s1]; exact hnew W1 _
        · rw [hW1]; exact ((Below.refl _ w).alloc (Nat.le_refl _) _).alloc (by simp) _
      rw [hW1] at hM
      exact hM _ rfl
    clear s1 hW1 W1
    rintro _ V ⟨f0, ⟨cs, f1, hcs⟩, sV, hbV⟩
    refine ⟨_, cells_at (cells_block f0) (i := 4) rfl, ?_⟩
    refine ⟨Nat × List CndR × Option Addr × Nat, fun s => ⟨[(1, clo T Q), (2, .pointer (some ⟨L, 0, none⟩)), (4, .pointer (some ⟨L + 1, 0, none⟩)), (5, .slice s.2.2.1 s.2.1.length s.2.2.2), (9, .slice p c.kids.length cap), (10, i64 c.kids.length), (11, i64 (s.1 : Nat))], []⟩,
      fun s X => (s.1 ≤ c.kids.length ∧ s.2.1.map (·.1) = (c.kids.take s.1).map (turnC to)) ∧ OwnS cndE 27 (L + 2) X s.2.2.1 s.2.2.2 s.2.1 ∧ (∀ y ∈ s.2.1, KidI L X s.2.2.1 y) ∧ Below (L + 2) V X, fun s => c.kids.length - s.1, (0, [], none, 0),
      ⟨.cons rfl (.cons rfl (.cons rfl (.cons rfl (.cons rfl (.cons rfl (.cons rfl .nil)))))), rfl⟩, ⟨⟨Nat.zero_le _, rfl⟩, OwnS.nil, fun y hy => (by cases hy), Below.refl _ _⟩, ?_⟩
    rintro ⟨k, ys, pk, ck⟩ X ⟨⟨hkl, hys⟩, ho, hy, hbX⟩
    dsimp only at hkl hys ho hy ⊢
    have hyl : ys.length = k := by
      have := congrArg List.length hys
      rw [List.length_map, List.length_map, List.length_take] at this
      omega
    have hXs := hbX.size
    have hbwX : Below w.heap.size w X := hbV.trans (hbX.mono (by omega))
    refine And.intro (fun hc => ?_) (fun hc => ?_)
    · have hc : (k : Int) < (c.kids.length : Int) := of_decide_eq_true hc
      have hlt' : k < c.kids.length := by omega
      obtain ⟨qk, cq, hbB, hcc, hkk⟩ := hks k hlt'
      rcases hp with hp | hp
      · omega
      subst hp
      have hb0X : Below B w0 X := hbw.trans (hbwX.mono hBw)
      refine ⟨k, rfl, hlt', ?_⟩
      have hcX := cells_belowB hb0X hbB hcc
      refine ⟨cndCells c.kids[k] qk cq, rfl, hcX, Nat.lt_of_lt_of_le hbB (Nat.le_trans hBw hbwX.size), ?_⟩
      refine store_new (X := X) (v := .agg (cndCells c.kids[k] qk cq).toArray) (ttOk.get 27 _ rfl) rfl rfl rfl fun X1 hb1 fb1 sb1 => ?_
      refine ⟨cndCells c.kids[k] qk cq, rfl, cells_block fb1, hlt fb1, ?_⟩
      have hbw1 : Below w.heap.size w X1 := hbwX.trans (hb1.mono hbwX.size)
      refine Calls.mono (ih X1 c.kids[k] qk cq (hck _ (List.getElem_mem hlt')) hkk (hbw.trans (hbw1.mono hBw)) (Nat.le_trans hBw hbw1.size) (hC.below hbw1)) ?_
      rintro e Y ⟨pq, cp, rfl, hR, hbY⟩
      refine ⟨⟨by decide, by decide, rfl⟩, cndCells (turnC to c.kids[k]) pq cp, fill_one rfl rfl, ?_⟩
      obtain ⟨new, hnew'⟩ : ∃ new : CndR, new = (turnC to c.kids[k], pq, cp, X1.heap.size, Y.heap.size) := ⟨_, rfl⟩
      have hn1 : cndCells (turnC to c.kids[k]) pq cp = cndE.enc new := by rw [hnew']; rfl
      rw [hn1]
      have hXY : Below X.heap.size X Y := hb1.trans (hbY.mono hb1.size)
      have hYa : Below Y.heap.size Y (Y.alloc (.cells (cndE.enc new).toArray 27)) := (Below.refl _ Y).alloc (Nat.le_refl _) _
      have hXa : Below X.heap.size X (Y.alloc (.cells (cndE.enc new).toArray 27)) := hXY.trans (hYa.mono hXY.size)
      have sYa : (Y.alloc (.cells (cndE.enc new).toArray 27)).heap.size = Y.heap.size + 1 := World.size_alloc _ _
      have hXYs := hXY.size
      refine app_own (E := cndE) (T := 27) (B := L + 2) (l := ys) (news := [new]) (cap := ck) (m := 1) Tryz.underlying25 (ttOk.get 27 _ rfl) rfl rfl rfl (ho.below hXa) rfl (one_new cndE new) (by omega) (by omega) (by show (ys.length + 1) * 32 ≤ _; omega) ?_
      intro p2 c2 Z ho2 hg2 hb2 hat
      refine ⟨_, (wrap_i64 (by omega)).trans rfl, ?_⟩
      have hg2' : ∀ j, j < Y.heap.size → (∀ a, pk = some a → j ≠ a.block) → Z.heap[j]? = Y.heap[j]? := fun j hj hne => by
        refine (hg2.block j (by omega) ?_).trans (hYa.block j hj)
        cases pk with
        | none => simp [Value.ownBlock]
        | some a => simp only [Value.ownBlock]; exact fun e => hne a rfl (by simpa using e)
      have pkX : ∀ a, pk = some a → a.block < X.heap.size := fun a ha => by
        rcases ho.inv with ⟨h1, _⟩ | ⟨g, cur, h1, _, h2, _⟩
        · rw [h1] at ha; cases ha
        · rw [h1] at ha; cases ha; exact hlt h2
      refine ⟨(k + 1, ys ++ [new], p2, c2), ⟨.cons rfl (.cons rfl (.cons rfl (.cons rfl (.cons rfl (.cons rfl (.cons rfl .nil)))))), rfl⟩, ⟨⟨hlt', ?_⟩, ho2, fun y hyy => ?_, ?_⟩, by show c.kids.length - (k + 1) < c.kids.length - k; omega⟩
      · rw [List.map_append, hys, List.take_succ_eq_append_getElem hlt', List.map_append, hnew']; rfl
      · have hZs := hg2.size
        rcases List.mem_append.1 hyy with hyy | hyy
        · have h0 := (hy y hyy).below hXY
          have h1 := (hy y hyy).hi
          refine ⟨h0.k.same fun j hj1 hj2 => hg2' j (by omega) fun a ha e => ?_, h0.lo, by omega, fun a ha => ?_⟩
          · rcases h0.p a ha with h | h <;> omega
          · rcases hat a ha with h | h
            · exact h0.p a h
            · exact .inr (by omega)
        · simp only [List.mem_singleton] at hyy
          subst hyy
          rw [hnew']
          refine ⟨hR.same fun j hj1 hj2 => hg2' j hj2 fun a ha e => ?_, ?_, ?_, fun a ha => ?_⟩
          · have := pkX a ha
            have := hb1.size
            omega
          · show L + 2 ≤ X1.heap.size
            have := hb1.size
            omega
          · show Y.heap.size ≤ _
            omega
          · show a.block < X1.heap.size ∨ Y.heap.size ≤ a.block
            have := hb1.size
            rcases hat a ha with h | h
            · have := pkX a h
              exact .inl (by omega)
            · exact .inr (by omega)
      · exact hbX.trans ((hXa.mono (by omega)).trans hb2)
    · have hc : ¬ (k : Int) < (c.kids.length : Int) := of_decide_eq_false hc
      obtain rfl : k = c.kids.length := by omega
      rw [List.take_length] at hys
      have f0X : X.heap[L]? = some (.cells (hdC c.kind c.thread c.n c.val (.slice p c.kids.length cap)).toArray 27 (0, 0)) := (hbX.block L (by omega)).trans f0
      have f1X : X.heap[L + 1]? = some (.cells cs 27 (0, 0)) := (hbX.block (L + 1) (by omega)).trans f1
      refine store_one (ttOk.get 25 _ rfl) f0X (o := 0 + 4) (v := .slice pk ys.length ck) rfl rfl (by show 4 < 5; decide) rfl fun Y fY gY sY => ?_
      have fY : Y.heap[L]? = some (.cells (hdC c.kind c.thread c.n c.val (.slice pk ys.length ck)).toArray 27 (0, 0)) := fY
      have hbY : Below w.heap.size w Y := hbwX.trans (below_grown gY (by omega) (by omega))
      refine Calls.mono (turn1_c fY (hC.below hbY) (fun h => by rw [hth]; exact hc1 h) hc2) ?_
      rintro e Z ⟨rfl, fZ, gZ, sZ⟩
      refine ⟨_, rfl, cells_block fZ, hlt fZ, ?_⟩
      have f1Z : Z.heap[L + 1]? = some (.cells cs 27 (0, 0)) := (gZ.block (L + 1) (by rw [sY]; exact hlt f1X) (by simp)).trans ((gY.block (L + 1) (hlt f1X) (by simp)).trans f1X)
      refine store_box (v := .agg (hdC c.kind (turnT to c.kind c.thread) c.n c.val (.slice pk ys.length ck)).toArray) (ttOk.get 27 _ rfl) f1Z rfl hcs rfl ?_
      have f2 := setRow_new (cs' := (Value.agg (hdC c.kind (turnT to c.kind c.thread) c.n c.val (.slice pk ys.length ck)).toArray).cells) f1Z
      refine ⟨_, rfl, cells_block f2, ?_⟩
      have hbZ : Below w.heap.size w Z := hbY.trans (below_grown gZ (by omega) (by omega))
      have hyl' : (turnC to c).kids = ys.map (·.1) := by rw [turnC_eq, hys]; rfl
      have hlk : ys.length = ((turnC to c).kids).length := by rw [hyl', List.length_map]
      obtain ⟨U, hU⟩ : ∃ U, U = Z.setRow (L + 1) (Value.agg (hdC c.kind (turnT to c.kind c.thread) c.n c.val (.slice pk ys.length ck)).toArray).cells := ⟨_, rfl⟩
      rw [← hU]
      have sU : U.heap.size = X.heap.size := by rw [hU]; simp; omega
      have oU : ∀ j, L + 2 ≤ j → j < X.heap.size → U.heap[j]? = X.heap[j]? := fun j h1 h2 => by
        rw [hU]
        refine (setRow_old (by omega)).trans ((gZ.block j (by rw [sY]; exact h2) (by simp; omega)).trans (gY.block j h2 (by simp; omega)))
      refine ⟨pk, ck, ?_, ?_, by rw [hU]; exact below_setRow hbZ (by omega) _⟩
      · have e : hdC c.kind (turnT to c.kind c.thread) c.n c.val (.slice pk ys.length ck) = cndCells (turnC to c) pk ck := by
          rw [hlk, turnC_eq]; rfl
        show Ending.returned (Value.agg (hdC c.kind (turnT to c.kind c.thread) c.n c.val (.slice pk ys.length ck)).toArray) = _
        rw [e]
      · rw [hyl']
        have hrow : ∃ b, (ys.length = 0 ∨ pk = some ⟨b, 0, none⟩) ∧ ∀ i (h : i < ys.length), (L + 2 ≤ b ∧ b < X.heap.size) ∧ Cells X ⟨b, 0 + i * 5, none⟩ (cndE.enc ys[i]) := by
          rcases ho.inv with ⟨_, _, h0⟩ | ⟨g, cur, h1, h2, h3, _, _, _, h4⟩
          · exact ⟨0, .inl (by rw [h0]; rfl), fun i h => by rw [h0] at h; simp at h⟩
          · refine ⟨g, .inr h1, fun i h => ⟨⟨h2, hlt h3⟩, ?_⟩⟩
            have h5 : X.heap[g]? = some (.cells cur.toList.toArray 27 (0, 0)) := by simpa using h3
            have h6 : Cells X ⟨g, 0, none⟩ (ys.flatMap cndE.enc) := by
              rw [← h4]
              exact cells_sub (n := 0) (m := ys.length * 5) (cells_block h5)
            have h7 : Cells X ⟨g, 0 + i * 5, none⟩ (((ys.flatMap cndE.enc).drop (i * cndE.sz)).take cndE.sz) := cells_sub (n := i * 5) (m := 5) h6
            rw [flat_get ys i h] at h7
            exact h7
        obtain ⟨b, hp1, hat⟩ := hrow
        have d0 : CndR := (.mk 0 0 0 0 [], none, 0, 0, 0)
        refine .mk pk (ys.map (·.1)) (by rw [List.length_map]; omega) b 0 (by rw [List.length_map]; exact hp1) (fun i => (ys.getD i d0).2.1) (fun i => (ys.getD i d0).2.2.1) (fun i hi => ?_) (fun i hi => ?_)
        · have hi' : i < ys.length := by rw [List.length_map] at hi; exact hi
          have e : ys.getD i d0 = ys[i] := by rw [List.getD_eq_getElem?_getD, List.getElem?_eq_getElem hi']; rfl
          rw [e, List.getElem_map]
          obtain ⟨h1, h2⟩ := hat i hi'
          exact ⟨⟨by omega, by omega⟩, cells_same (oU b h1.1 h1.2) h2⟩
        · have hi' : i < ys.length := by rw [List.length_map] at hi; exact hi
          have e : ys.getD i d0 = ys[i] := by rw [List.getD_eq_getElem?_getD, List.getElem?_eq_getElem hi']; rfl
          rw [e, List.getElem_map]
          have h0 := hy _ (List.getElem_mem hi')
          have h1 := h0.hi
          have h2 := h0.lo
          exact (h0.k.same fun j hj1 hj2 => oU j (by omega) (by omega)).wide (by omega) (by omega)
end Go.Proofs.YthgmcegmgjoafaaGreatDoor
namespace Go.Proofs.YthgmcegmgjoafaaGreatDoor
open Go.Vc Go.RowKit Go.Sei
theorem max_run {x y : Int} {T : Array TypeId} {t : TypeId} {w : World} {K : Value → World → Prop} (k : K (.int .i64 (if x < y then y else x)) w) : SatR ((Builtin.max_ T t [Value.int .i64 x, .int .i64 y].toArray).run Tryz.prog w) K :=
  SatR.mk (v := .int .i64 (if x < y then y else x)) (w' := w) (by simp [Builtin.max_, Builtin.max2]) k
structure Wb (w : World) (vs : List Value) (p : Prg) (g : Geo) (md : UInt8) (L : Nat) (X : World) : Prop where
  c : X.heap[L]? = some (.cells vs.toArray 44 (0, 0))
  v : WldV w.heap.size X vs p g md
  T : GlobT X
  b : Below w.heap.size w X
section
variable {w X Y : World} {vs : List Value} {p : Prg} {g : Geo} {md : UInt8} {L : Nat}
theorem Wb.below (h : Wb w vs p g md L X) (hb : Below X.heap.size X Y) : Wb w vs p g md L Y :=
  ⟨block_below hb h.c, h.v.below (hb.mono h.b.size), h.T.below hb, h.b.trans (hb.mono h.b.size)⟩
theorem Wb.wc (h : Wb w vs p g md L X) : WldC w.heap.size X L p g md := ⟨h.b.size, ⟨vs, h.c, h.v⟩, h.T⟩
end
def PickI (al : List (List Int)) (s : PrmR × Bool) (X : World) : Prop := (s.2 = true ∧ s.1.1 ∈ al ∧ SlR Go.Sei.intE X s.1.2.1 s.1.1) ∨ (s.2 = false ∧ al = [])
theorem PickI.below {al : List (List Int)} {s : PrmR × Bool} {X Y : World} (h : PickI al s X) (hb : Below X.heap.size X Y) : PickI al s Y := by
  rcases h with ⟨h1, h2, h3⟩ | h
  · exact .inl ⟨h1, h2, h3.below hb⟩
  · exact .inr h
theorem turns_parts {p : Prg} {g : Geo} (h : turnsL p g = true) : ∃ n : Nat, g.c = n ∧ 1 ≤ n ∧ n ≤ 4 ∧ p.threads.length = n ∧ okPrg p = true := by
  simp only [turnsL, Bool.and_eq_true, decide_eq_true_eq] at h
  have := (geoR_spec h.1).1
  exact ⟨g.c.toNat, by omega, by omega, by omega, by omega, h.2.2⟩
theorem allL_none {p : Prg} {g : Geo} {md : UInt8} (h : allL p g md = []) : turnsL p g = false := by
  cases ht : turnsL p g with
  | false => rfl
  | true =>
    obtain ⟨n, hn, h1, h4, _, _⟩ := turns_parts ht
    have G := grp (decide (md = 3)) h1 h4
    have := G.head
    rw [← allL_grp (md := md) ht hn, h] at this
    cases this
theorem allL_some {p : Prg} {g : Geo} {md : UInt8} (h : ¬ allL p g md = []) : turnsL p g = true := by
  cases ht : turnsL p g with
  | true => rfl
  | false =>
    refine absurd ?_ h
    unfold allL
    rw [ht]; rfl
theorem grp_suits {g : Geo} {md : UInt8} {n : Nat} {l : List Int} (hn : g.c = n) (h : l ∈ grpL n (decide (md = 3))) : suitsL g md l = true := by
  unfold grpL at h
  have := (List.mem_filter.1 h).2
  unfold suitsL
  rw [hn]; exact this
theorem pickL_len {a l : List Int} : (pickL 0 a l).length = l.length := by unfold pickL; rw [List.length_map]
theorem backL_len (a : List Int) : (backL a).length = a.length := backN_len a a.length
theorem i64s_get {l : List Nat} {n : Nat} (h : n < l.length) : (l.map fun x => i64 (x : Nat))[n]? = some (i64 ((l.getD n 0 : Nat) : Int)) := by
  rw [List.getElem?_map, List.getElem?_eq_getElem h, List.getD_eq_getElem?_getD, List.getElem?_eq_getElem h]; rfl
end Go.Proofs.YthgmcegmgjoafaaGreatDoor
