/- Ranges over functions: what an iterator owes; the law for a loop over it. -/
import Derived.Test.YtkekidalckflhaaDoorVcM
import Derived.RangeFuncIn
import Derived.RangeFuncNested
namespace Go.Vc
open Go.RowKit

/-- An iterator's own steps: what lay ahead of it and what the rounds may write lie as they lay. -/
structure Step (n0 : Nat) (Fp : World → Nat → Prop) (A B : World) : Prop where
  os : B.os = A.os
  tape : B.tape = A.tape
  output : B.output = A.output
  size : A.heap.size ≤ B.heap.size
  same : ∀ k, k < A.heap.size → (k < n0 ∨ Fp A k) → B.heap[k]? = A.heap[k]?

/-- A round: only what it may write is written; what it may write grows by new blocks alone. -/
structure Keeps (Fp : World → Nat → Prop) (A B : World) : Prop where
  os : B.os = A.os
  tape : B.tape = A.tape
  output : B.output = A.output
  size : A.heap.size ≤ B.heap.size
  same : ∀ k, k < A.heap.size → ¬ Fp A k → B.heap[k]? = A.heap[k]?
  fp : ∀ k, Fp B k → Fp A k ∨ A.heap.size ≤ k

structure IterJ {σ : Type} (n0 : Nat) (Fp : World → Nat → Prop) (J : σ → World → Prop) : Prop where
  step : ∀ s A B, J s A → Step n0 Fp A B → J s B ∧ ∀ k, Fp B k → Fp A k
  lt : ∀ s A k, J s A → Fp A k → k < A.heap.size

theorem Step.mono {n0 n1 : Nat} {Fp : World → Nat → Prop} {A B : World} (h : Step n0 Fp A B) (hn : n1 ≤ n0) : Step n1 Fp A B :=
  ⟨h.os, h.tape, h.output, h.size, fun k hk hf => h.same k hk (hf.imp (fun h => Nat.lt_of_lt_of_le h hn) id)⟩
theorem IterJ.mono {σ : Type} {n0 n1 : Nat} {Fp : World → Nat → Prop} {J : σ → World → Prop} (h : IterJ n0 Fp J) (hn : n0 ≤ n1) : IterJ n1 Fp J :=
  ⟨fun s A B hj hs => h.step s A B hj (hs.mono hn), h.lt⟩

theorem Step.of_below {n0 : Nat} {Fp : World → Nat → Prop} {A B : World} (h : Below A.heap.size A B) : Step n0 Fp A B :=
  ⟨h.os, h.tape, h.output, h.size, fun k hk _ => h.block k hk⟩
theorem Step.alloc {n0 : Nat} {Fp : World → Nat → Prop} (A : World) (o : Obj) : Step n0 Fp A (A.alloc o) := .of_below ((Below.refl _ A).alloc (Nat.le_refl _) o)
theorem Step.drew {n0 : Nat} {Fp : World → Nat → Prop} (A : World) : Step n0 Fp A A.drew := .of_below (Below.refl _ A).drew
theorem Step.put {n0 : Nat} {Fp : World → Nat → Prop} {A : World} {l : Nat} (h : n0 ≤ l) (hf : ¬ Fp A l) (o : Obj) : Step n0 Fp A (A.putObj l o) :=
  ⟨rfl, rfl, rfl, by simp [World.putObj], fun k _ hk => heap_put_old (fun e => by subst e; rcases hk with hk | hk; omega; exact hf hk)⟩
theorem Step.row {n0 : Nat} {Fp : World → Nat → Prop} {A : World} {l : Nat} (h : n0 ≤ l) (hf : ¬ Fp A l) (cs : Array Value) : Step n0 Fp A (A.setRow l cs) :=
  ⟨rfl, rfl, rfl, by simp, fun k _ hk => setRow_old (fun e => by subst e; rcases hk with hk | hk; omega; exact hf hk)⟩

theorem YieldR.mono {P : Program} {l : Nat} {args : Array Value} {w : World} {K K' : Value → World → Prop} (h : YieldR P l args w K) (hk : ∀ v w, K v w → K' v w) : YieldR P l args w K' := by
  obtain ⟨fn, tmps, assign, body, hy, hR⟩ := h
  exact ⟨fn, tmps, assign, body, hy, hR.mono fun e w' he => by cases e <;> first | exact hk _ _ he | exact he⟩

/-- **What an iterator owes**: it hands the elements of xs to yield, in order, till yield says no. -/
def IterS {α : Type} (P : Program) (g : Nat) (lb : List Value) (enc : α → List Value) (xs : List α) (W0 : World) (Rd : Nat → Prop) : Prop :=
  ∀ (l : Nat) (Fp : World → Nat → Prop) (J Jx : List α → World → Prop) (W : World), W0.heap.size ≤ W.heap.size → (∀ k, Rd k → W.heap[k]? = W0.heap[k]?) → (∀ k, Rd k → ¬ Fp W k) →
    IterJ W.heap.size Fp J → IterJ W.heap.size Fp Jx →
    (∀ pre x W1, J pre W1 → (pre ++ [x]) <+: xs → YieldR P l (enc x).toArray W1 fun v W2 =>
      (v = .bool true ∧ J (pre ++ [x]) W2 ∧ Keeps Fp W1 W2) ∨ (v = .bool false ∧ Jx (pre ++ [x]) W2)) →
    J [] W →
    Calls P g (.func (.yield l) #[] #[] :: lb).toArray W fun e W' => (∃ v, e = .returned v) ∧ (J xs W' ∨ ∃ pre, pre <+: xs ∧ Jx pre W')

def setL : List Nat → List Value → VEnv → VEnv
  | p :: ps, v :: vs, E => setL ps vs ((p, v) :: E)
  | _, _, E => E

theorem setL_agrees {S : Sig} : ∀ (ps : List Nat) (vs : List Value) (a : Act) (E : Env), Agrees S a E → (∀ p ∈ ps, p < S.n) →
    Agrees S { a with tmps := (ps.zip vs).foldl (fun t (p, v) => t.setIfInBounds p v) a.tmps } ⟨setL ps vs E.vs, E.ds⟩
  | [], vs, a, E, h, _ => by simpa [setL] using h
  | p :: ps, [], a, E, h, _ => by simpa [setL] using h
  | p :: ps, v :: vs, a, E, h, hp => by
    have h1 := h.put (dst := some p) (by simpa [okDst] using hp p List.mem_cons_self) v
    have h2 := setL_agrees ps vs (a.put (some p) v) (setE (some p) v E) h1 (fun q hq => hp q (List.mem_cons_of_mem _ hq))
    simpa [setL, setE, Act.put] using h2

def sr (S : Sig) (l : Nat) : Sig := { S with r := some l }
theorem sr_ok {S : Sig} (h : SigOk S) (l : Nat) : SigOk (sr S l) := ⟨h.ty, h.call, h.mixed⟩

/-- How a round may end. -/
def bodyQ {α : Type} (Fp : World → Nat → Prop) (J : List α → World → Prop) (Jx : Exit → List α → World → Prop) (xs : List α) (A : World) : Exit → Env → World → Prop
  | .normal, _, B => J xs B ∧ Keeps Fp A B
  | .ret, _, B => Jx .ret xs B ∧ Keeps Fp A B
  | .exit id, _, B => Jx (.exit id) xs B ∧ Keeps Fp A B
  | _, _, _ => False

theorem Keeps.trans {Fp : World → Nat → Prop} {A B C : World} (h : Keeps Fp A B) (k : Keeps Fp B C) : Keeps Fp A C :=
  ⟨k.os.trans h.os, k.tape.trans h.tape, k.output.trans h.output, Nat.le_trans h.size k.size,
   fun i hi hf => (k.same i (Nat.lt_of_lt_of_le hi h.size) (fun hb => by rcases h.fp i hb with h1 | h1; exact hf h1; omega)).trans (h.same i hi hf),
   fun i hi => by
     rcases k.fp i hi with h1 | h1
     · exact h.fp i h1
     · exact .inr (Nat.le_trans h.size h1)⟩
theorem Keeps.refl (Fp : World → Nat → Prop) (A : World) : Keeps Fp A A := ⟨rfl, rfl, rfl, Nat.le_refl _, fun _ _ _ => rfl, fun _ h => .inl h⟩
theorem Keeps.of_below {Fp : World → Nat → Prop} {A B : World} (h : Below A.heap.size A B) (hf : ∀ k, Fp B k → Fp A k ∨ A.heap.size ≤ k) : Keeps Fp A B :=
  ⟨h.os, h.tape, h.output, h.size, fun k hk _ => h.block k hk, hf⟩

/-- **The law for a loop over an iterator** (not within another such loop's round). -/
theorem rangeE {α : Type} {S : Sig} (hS : SigOk S) (hr : S.r = none) {f : Operand} {ps : Array Tmp} {assign body : Code} {E : Env} {w : World} {Q : Exit → Env → World → Prop}
    {gf : Nat} {lb : Array Value} (hg : opd E f = some (.func (.func gf) #[] lb)) (hok : calleeOk S gf = true)
    {enc : α → List Value} {xs : List α} {W0 : World} {Rd : Nat → Prop} (hI : IterS S.P gf lb.toList enc xs W0 Rd) (hW0 : W0.heap.size ≤ w.heap.size) (hRd : ∀ k, Rd k → k < W0.heap.size ∧ w.heap[k]? = W0.heap[k]?)
    (hps : ∀ x, (enc x).length = ps.size) (hpn : ∀ p ∈ ps.toList, p < S.n)
    (Fp : World → Nat → Prop) (J : List α → World → Prop) (Jx : Exit → List α → World → Prop) (hRF : ∀ k, Rd k → ¬ Fp w k)
    (hJ : IterJ w.heap.size Fp J) (hJx : ∀ ex, IterJ w.heap.size Fp (Jx ex)) (h0 : J [] w)
    (hround : ∀ (l : Nat) (pre : List α) (x : α) (W : World), w.heap.size ≤ l → (pre ++ [x]) <+: xs → J pre W → ¬ Fp W l → l < W.heap.size →
      wpE (sr S l) assign ⟨setL ps.toList (enc x) E.vs, []⟩ W fun ex E1 W1 => ex = .normal ∧ Keeps Fp W W1 ∧ J pre W1 ∧
        ∀ o W2, W2 = W1.putObj l o → J pre W2 → (∀ k, Fp W2 k → Fp W1 k) → wpE (sr S l) body E1 W2 (bodyQ Fp J Jx (pre ++ [x]) W2))
    (hdone : ∀ D W, w.heap.size ≤ D → ¬ Fp W D → J xs W → W.heap[D]? = some (.deferred (some [])) → Q .normal ⟨E.vs, { target := .collected D, args := #[] } :: E.ds⟩ W)
    (hstop : ∀ D ex pre W, w.heap.size ≤ D → ¬ Fp W D → pre <+: xs → Jx ex pre W → W.heap[D]? = some (.deferred (some [])) → Q ex ⟨E.vs, { target := .collected D, args := #[] } :: E.ds⟩ W) :
    RangeE S f ps assign body E w Q := by
  intro a ha
  have hcall : ∀ args w, (callFunc gf args).run S.P w = .ok (.enter gf args) w := by
    simp only [calleeOk, Bool.and_eq_true, Nat.ble_eq, Nat.blt_eq] at hok
    exact fun args w => hS.call gf hok.1 hok.2 args w
  refine wpIn_rangeFunc ?_
  intro fn hfn
  have hro : (FR S.r).round = none := hr
  rw [hro]
  obtain ⟨rec, hrec⟩ : ∃ rec : LoopState → Option Code → Loop, rec = fun st pe => { state := st, pending := pe, fn, tmps := a.tmps, params := ps, assign, body, defers := w.heap.size } := ⟨_, rfl⟩
  obtain ⟨W1, hW1⟩ : ∃ W1, (w.alloc (.deferred (some []))).alloc (.loop (rec .ready none)) = W1 := ⟨_, rfl⟩
  have hK0 := hnew w (.deferred (some []))
  have hK1 : W1.heap[w.heap.size]? = some (.deferred (some [])) := by rw [← hW1]; exact hold _ hK0
  have hL1 : W1.heap[w.heap.size + 1]? = some (.loop (rec .ready none)) := by
    rw [← hW1]; have := hnew (w.alloc (.deferred (some []))) (.loop (rec .ready none)); rwa [World.size_alloc] at this
  have hs1 : W1.heap.size = w.heap.size + 2 := by rw [← hW1]; simp
  have hst1 : Step w.heap.size Fp w W1 := by
    rw [← hW1]; exact .of_below (((Below.refl _ w).alloc (Nat.le_refl _) _).alloc (by simp) _)
  obtain ⟨hJ1, hF1⟩ := hJ.step _ _ _ h0 hst1
  have hFl : ∀ k, Fp W1 k → k < w.heap.size := fun k hk => hJ.lt _ _ k h0 (hF1 k hk)
  refine ⟨w.heap.size + 1, [{ target := .collected w.heap.size, args := #[] }], W1, { target := .fn (.func gf) lb, args := #[.func (.yield (w.heap.size + 1)) #[] #[]] }, W1, gf,
    #[.func (.yield (w.heap.size + 1)) #[] #[]] ++ lb, W1, ?_, ?_, fun _ _ => trivial, ?_, fun h => by simp [FR] at h, ?_⟩
  · rw [← hW1, hrec]; exact run_enterLoop_outer _ _ _ _ _
  · have hg' := ha.eval hg
    simp only [resolve, hg']
    simp [go_sem]
  · simp [invoke, go_sem, hcall]
  · have hargs : #[Value.func (.yield (w.heap.size + 1)) #[] #[]] ++ lb = (Value.func (.yield (w.heap.size + 1)) #[] #[] :: lb.toList).toArray := by rw [← Array.toList_inj]; simp
    rw [hargs]
    -- the caller's word, with the book-keeping beside it
    have book : ∀ {σ : Type} {K : σ → World → Prop} (lo : Loop), IterJ w.heap.size Fp K → IterJ W1.heap.size Fp (fun s W => K s W ∧ W.heap[w.heap.size + 1]? = some (.loop lo) ∧ W.heap[w.heap.size]? = some (.deferred (some [])) ∧ ¬ Fp W (w.heap.size + 1) ∧ ¬ Fp W w.heap.size) := by
      intro σ K lo hK
      refine ⟨fun s A B ⟨hk, hl, hd, hf1, hf2⟩ hs => ?_, fun s A k ⟨hk, _⟩ hf => hK.lt s A k hk hf⟩
      obtain ⟨h1, h2⟩ := hK.step s A B hk (hs.mono (by omega))
      exact ⟨⟨h1, (hs.same _ (hlt hl) (.inl (by omega))).trans hl, (hs.same _ (hlt hd) (.inl (by omega))).trans hd, fun h => hf1 (h2 _ h), fun h => hf2 (h2 _ h)⟩, h2⟩
    have hcalls := hI (w.heap.size + 1) Fp (fun pre W => J pre W ∧ W.heap[w.heap.size + 1]? = some (.loop (rec .ready none)) ∧ W.heap[w.heap.size]? = some (.deferred (some [])) ∧ ¬ Fp W (w.heap.size + 1) ∧ ¬ Fp W w.heap.size)
      (fun pre W => ∃ ex c, ((ex = .ret ∧ c = .ret) ∨ ∃ id, ex = .exit id ∧ c = .exit id) ∧ Jx ex pre W ∧ W.heap[w.heap.size + 1]? = some (.loop (rec .done (some c))) ∧ W.heap[w.heap.size]? = some (.deferred (some [])) ∧ ¬ Fp W (w.heap.size + 1) ∧ ¬ Fp W w.heap.size)
      W1 (by omega) (fun k hk => by
        obtain ⟨h1, h2⟩ := hRd k hk
        rw [← h2]
        exact hst1.same k (by omega) (.inl (by omega))) (fun k hk hf => hRF k hk (hF1 k hf)) (book _ hJ)
      ⟨fun s A B ⟨ex, c, hc, hrest⟩ hs => by
        have := (book (rec .done (some c)) (hJx ex)).step s A B hrest hs
        exact ⟨⟨ex, c, hc, this.1⟩, this.2⟩,
       fun s A k ⟨ex, c, hc, hrest⟩ hf => (hJx ex).lt s A k hrest.1 hf⟩ ?_ ⟨hJ1, hL1, hK1, fun h => by have := hFl _ h; omega, fun h => by have := hFl _ h; omega⟩
    · refine callsIn_of (hcalls.mono ?_)
      rintro e W2 ⟨⟨v, rfl⟩, (⟨hj, hl, hk, hf1, hf2⟩ | ⟨pre, hpre, ex, c, hc, hj, hl, hk, hf1, hf2⟩)⟩
      · have hst : Step w.heap.size Fp W2 (W2.putObj (w.heap.size + 1) (.loop (rec .exhausted none))) := .put (by omega) hf1 _
        obtain ⟨hj2, hfp2⟩ := hJ.step _ _ _ hj hst
        refine ⟨none, _, by have := run_endLoop (P := S.P) hl (by rw [hrec]; simp); rw [hrec] at this; exact this, ?_⟩
        rw [hrec] at hj2 hfp2
        exact ⟨⟨E.vs, { target := .collected w.heap.size, args := #[] } :: E.ds⟩, ⟨ha.size, by simp [ha.defers], ha.val⟩, hdone w.heap.size _ (Nat.le_refl _) (fun h => hf2 (hfp2 _ h)) hj2 ((heap_put_old (by omega)).trans hk)⟩
      · have hst : Step w.heap.size Fp W2 (W2.putObj (w.heap.size + 1) (.loop (rec .exhausted (some c)))) := .put (by omega) hf1 _
        obtain ⟨hj2, hfp2⟩ := (hJx ex).step _ _ _ hj hst
        refine ⟨some c, _, by have := run_endLoop (P := S.P) hl (by rw [hrec]; simp); rw [hrec] at this; exact this, ?_⟩
        rw [hrec] at hj2 hfp2
        have hq := hstop w.heap.size ex pre _ (Nat.le_refl _) (fun h => hf2 (hfp2 _ h)) hpre hj2 ((heap_put_old (by omega)).trans hk)
        rcases hc with ⟨rfl, rfl⟩ | ⟨id, rfl, rfl⟩
        · exact wpIn_ret ⟨⟨E.vs, { target := .collected w.heap.size, args := #[] } :: E.ds⟩, ⟨ha.size, by simp [ha.defers], ha.val⟩, hq⟩
        · exact wpIn_exit ⟨⟨E.vs, { target := .collected w.heap.size, args := #[] } :: E.ds⟩, ⟨ha.size, by simp [ha.defers], ha.val⟩, hq⟩
    · -- one round
      rintro pre x W ⟨hj, hl, hk, hf1, hf2⟩ hpre
      have hy := run_yield (P := S.P) (args := (enc x).toArray) hl (by rw [hrec]; simpa using hps x)
      rw [hrec] at hy
      refine ⟨fn, _, assign, body, hy, roundIn_any (r := none) (n := NN) (roundIn_of_wpIn (F := FR none) trivial ?_)⟩
      have hag : Agrees (sr S (w.heap.size + 1)) { tmps := (ps.zip (enc x).toArray).foldl (fun t (p, v) => t.setIfInBounds p v) a.tmps, defers := [] } ⟨setL ps.toList (enc x) E.vs, []⟩ := by
        have h1 : Agrees (sr S (w.heap.size + 1)) { a with defers := [] } ⟨E.vs, []⟩ := ⟨ha.size, rfl, ha.val⟩
        have h2 := setL_agrees ps.toList (enc x) _ _ h1 hpn
        have e : (ps.zip (enc x).toArray).foldl (fun t (p, v) => t.setIfInBounds p v) a.tmps = (ps.toList.zip (enc x)).foldl (fun t (p, v) => t.setIfInBounds p v) a.tmps := by
          rw [← Array.foldl_toList]; simp
        rw [e]; exact h2
      have hw := wpE_sound (sr_ok hS _) assign _ _ W _ hag (hround (w.heap.size + 1) pre x W (by omega) hpre hj hf1 (hlt hl))
      refine wpIn_mono hw ?_
      rintro ex a1 Wa ⟨E1, hag1, rfl, hk1, hj1, hbody⟩
      have hla := (hk1.same _ (hlt hl) hf1).trans hl
      have hka := (hk1.same _ (hlt hk) hf2).trans hk
      have hfa1 : ¬ Fp Wa (w.heap.size + 1) := fun h => by rcases hk1.fp _ h with h | h; exact hf1 h; have := hlt hl; omega
      have hfa2 : ¬ Fp Wa w.heap.size := fun h => by rcases hk1.fp _ h with h | h; exact hf2 h; have := hlt hk; omega
      refine ⟨_, run_beginRound hla (by rw [hrec]), ?_⟩
      have hst : Step w.heap.size Fp Wa (Wa.putObj (w.heap.size + 1) (.loop { rec .ready none with state := .busy })) := .put (by omega) hfa1 _
      obtain ⟨hj2, hfp2⟩ := hJ.step _ _ _ hj1 hst
      have hw2 := wpE_sound (sr_ok hS _) body _ _ _ _ hag1 (hbody _ _ rfl hj2 hfp2)
      refine wpIn_mono hw2 ?_
      have hl2 : (Wa.putObj (w.heap.size + 1) (.loop { rec .ready none with state := .busy })).heap[w.heap.size + 1]? = some (.loop { rec .ready none with state := .busy }) := heap_put hla
      have hk2 : (Wa.putObj (w.heap.size + 1) (.loop { rec .ready none with state := .busy })).heap[w.heap.size]? = some (.deferred (some [])) := (heap_put_old (by omega)).trans hka
      have hfb1 : ¬ Fp (Wa.putObj (w.heap.size + 1) (.loop { rec .ready none with state := .busy })) (w.heap.size + 1) := fun h => hfa1 (hfp2 _ h)
      have hfb2 : ¬ Fp (Wa.putObj (w.heap.size + 1) (.loop { rec .ready none with state := .busy })) w.heap.size := fun h => hfa2 (hfp2 _ h)
      have fin : ∀ (jump : Option Code) (W3 : World), Keeps Fp (Wa.putObj (w.heap.size + 1) (.loop { rec .ready none with state := .busy })) W3 →
          (Instr.endRound (w.heap.size + 1) jump).run S.P W3 = .ok (.bool jump.isNone) (W3.putObj (w.heap.size + 1) (.loop (rec (if jump.isNone then .ready else .done) jump))) ∧
          (W3.putObj (w.heap.size + 1) (.loop (rec (if jump.isNone then .ready else .done) jump))).heap[w.heap.size + 1]? = some (.loop (rec (if jump.isNone then .ready else .done) jump)) ∧
          (W3.putObj (w.heap.size + 1) (.loop (rec (if jump.isNone then .ready else .done) jump))).heap[w.heap.size]? = some (.deferred (some [])) ∧
          Step w.heap.size Fp W3 (W3.putObj (w.heap.size + 1) (.loop (rec (if jump.isNone then .ready else .done) jump))) ∧ ¬ Fp W3 (w.heap.size + 1) ∧ ¬ Fp W3 w.heap.size := fun jump W3 hk3 => by
        have hl3 := (hk3.same _ (hlt hl2) hfb1).trans hl2
        have hd3 := (hk3.same _ (hlt hk2) hfb2).trans hk2
        have hf31 : ¬ Fp W3 (w.heap.size + 1) := fun h => by rcases hk3.fp _ h with h | h; exact hfb1 h; have := hlt hl2; omega
        have hf32 : ¬ Fp W3 w.heap.size := fun h => by rcases hk3.fp _ h with h | h; exact hfb2 h; have := hlt hk2; omega
        have := run_endRound (P := S.P) jump hl3
        rw [hrec] at this ⊢
        exact ⟨this, heap_put hl3, (heap_put_old (by omega)).trans hd3, .put (by omega) hf31 _, hf31, hf32⟩
      rintro e a3 W3 ⟨E3, _, hq⟩
      cases e with
      | normal =>
        obtain ⟨hj3, hk3⟩ := hq
        obtain ⟨hr3, hl4, hk4, hs3, hf31, hf32⟩ := fin none W3 hk3
        obtain ⟨hj4, hfp4⟩ := hJ.step _ _ _ hj3 hs3
        refine ⟨_, _, hr3, .inl ⟨rfl, ⟨hj4, hl4, hk4, fun h => hf31 (hfp4 _ h), fun h => hf32 (hfp4 _ h)⟩, ?_⟩⟩
        -- the record is as it was
        refine ⟨hs3.os.trans (hk3.os.trans hk1.os), hs3.tape.trans (hk3.tape.trans hk1.tape), hs3.output.trans (hk3.output.trans hk1.output), ?_, fun k hk5 hf5 => ?_, fun k hk5 => ?_⟩
        · have h1 := hk1.size; have h2 := hst.size; have h3 := hk3.size; have h4 := hs3.size; omega
        · by_cases hkl : k = w.heap.size + 1
          · subst hkl; rw [hl4, hl]; rfl
          · have h1 : ¬ Fp Wa k := fun h => by rcases hk1.fp _ h with h | h; exact hf5 h; omega
            have h2 := hk1.size; have h3 := hst.size
            rw [heap_put_old hkl, hk3.same k (by omega) (fun h => h1 (hfp2 _ h)), heap_put_old hkl]
            exact hk1.same k hk5 hf5
        · have h1 := hfp4 _ hk5
          rcases hk3.fp _ h1 with h2 | h2
          · exact hk1.fp _ (hfp2 _ h2)
          · have h3 := hk1.size; have h4 := hst.size; exact .inr (by omega)
      | ret =>
        obtain ⟨hj3, hk3⟩ := hq
        obtain ⟨hr3, hl4, hk4, hs3, hf31, hf32⟩ := fin (some .ret) W3 hk3
        obtain ⟨hj4, hfp4⟩ := (hJx .ret).step _ _ _ hj3 hs3
        exact ⟨_, _, hr3, .inr ⟨rfl, .ret, .ret, .inl ⟨rfl, rfl⟩, hj4, hl4, hk4, fun h => hf31 (hfp4 _ h), fun h => hf32 (hfp4 _ h)⟩⟩
      | exit id =>
        obtain ⟨hj3, hk3⟩ := hq
        obtain ⟨hr3, hl4, hk4, hs3, hf31, hf32⟩ := fin (some (.exit id)) W3 hk3
        obtain ⟨hj4, hfp4⟩ := (hJx (.exit id)).step _ _ _ hj3 hs3
        exact ⟨_, _, hr3, .inr ⟨rfl, .exit id, .exit id, .inr ⟨id, rfl, rfl⟩, hj4, hl4, hk4, fun h => hf31 (hfp4 _ h), fun h => hf32 (hfp4 _ h)⟩⟩
      | goto t => exact hq.elim
      | panic ch => exact hq.elim
      | outgrown => exact hq.elim

/-! ### A box of one's own, and trees of orders -/
theorem store_new {P : Program} {X : World} {T : TypeId} {iT : TI} (hT : TIok P T iT) {cs : Array Value} {t : TypeId} {v : Value} (hv : v.cells.size = iT.size) (hc : cs.size = iT.size)
    (h0 : v.cells.toList.all Value.oneCell' = true) {K : World → Prop}
    (k : ∀ Y, Below X.heap.size X Y → Y.heap[X.heap.size]? = some (.cells v.cells t (0, 0)) → Y.heap.size = X.heap.size + 1 → K Y) :
    SatR ((storeVar T ⟨X.heap.size, 0, none⟩ v).run P (X.alloc (.cells cs t))) fun _ w' => K w' :=
  store_box hT (hnew X _) hv hc h0 (k _ (below_setRow ((Below.refl _ X).alloc (Nat.le_refl _) _) (Nat.le_refl _) _) (setRow_new (hnew X _)) (by simp))

theorem DrawE.tree {S : Sig} {ops : Array Oper} {E : Env} {w : World} {K : Env → World → Prop} (X : List Nat) (T : OT)
    (h : (covT (indepB S.τ X ops) ops ops.size (Array.replicate ops.size false) T && ops.all (fun o => noSel o.op)) = true) (k : opsT S ops.toList X T E w.drew K) : DrawE S ops E w K :=
  .inr ⟨X, T, h, k⟩

end Go.Vc
