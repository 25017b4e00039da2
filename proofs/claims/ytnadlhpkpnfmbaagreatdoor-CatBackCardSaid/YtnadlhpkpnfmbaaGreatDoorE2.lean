/- Contracts of functions, and plain facts, for the law that the last text of this claim proves. -/
import Derived.Test.YtnadlhpkpnfmbaaGreatDoorE1
import Derived.Lib.AppendZerosOnto
import Derived.Laws.OwnMore
import Derived.Laws.MakeOwn
import Derived.Laws.BytesArg
import Derived.Laws.Strings
set_option linter.unusedSimpArgs false
set_option linter.unusedVariables false
namespace Go.Vc
open Go.RowKit
structure StepO (n0 : Nat) (Ow : Nat → Prop) (Fp : Wd → Nat → Prop) (A B : Wd) : Prop where
  os : B.os = A.os
  tape : B.tape = A.tape
  output : B.output = A.output
  size : A.heap.size ≤ B.heap.size
  same : ∀ k, k < A.heap.size → ((k < n0 ∧ ¬ Ow k) ∨ Fp A k) → B.heap[k]? = A.heap[k]?
theorem Step.o {n0 : Nat} {Ow : Nat → Prop} {Fp : Wd → Nat → Prop} {A B : Wd} (h : Step n0 Fp A B) : StepO n0 Ow Fp A B :=
  ⟨h.os, h.tape, h.output, h.size, fun k hk hf => h.same k hk (hf.imp (fun h => h.1) id)⟩
theorem StepO.mono {n0 n1 : Nat} {Ow : Nat → Prop} {Fp : Wd → Nat → Prop} {A B : Wd} (h : StepO n0 Ow Fp A B) (hn : n1 ≤ n0) : StepO n1 Ow Fp A B :=
  ⟨h.os, h.tape, h.output, h.size, fun k hk hf => h.same k hk (hf.imp (fun h => ⟨KF h.1 hn, h.2⟩) id)⟩
structure IterJO {σ : Type} (n0 : Nat) (Ow : Nat → Prop) (Fp : Wd → Nat → Prop) (J : σ → Wd → Prop) : Prop where
  step : ∀ s A B, J s A → StepO n0 Ow Fp A B → J s B ∧ ∀ k, Fp B k → Fp A k
  lt : ∀ s A k, J s A → Fp A k → k < A.heap.size ∧ ¬ Ow k
theorem IterJO.mono {σ : Type} {n0 n1 : Nat} {Ow : Nat → Prop} {Fp : Wd → Nat → Prop} {J : σ → Wd → Prop} (h : IterJO n0 Ow Fp J) (hn : n0 ≤ n1) : IterJO n1 Ow Fp J :=
  ⟨fun s A B hj hs => h.step s A B hj (hs.mono hn), h.lt⟩
def zsJ {α : Type} (P : Program) (g : Nat) (lb : List Value) (xs : List α) (W0 : Wd) (Rd Ow : Nat → Prop) (St : List α → List Value → Wd → Prop) : Prop :=
  ∀ (l : Nat) (Fp : Wd → Nat → Prop) (J Jx : List α → Wd → Prop) (W : Wd), W0.heap.size ≤ W.heap.size → (∀ k, Rd k ∨ Ow k → W.heap[k]? = W0.heap[k]?) → (∀ k, Rd k → ¬ Fp W k) →
    IterJO W.heap.size Ow Fp J → IterJO W.heap.size Ow Fp Jx →
    (∀ pre x vs W1, J pre W1 → St (pre ++ [x]) vs W1 → (pre ++ [x]) <+: xs → YieldR P l vs.toArray W1 fun v W2 =>
      (v = .bool true ∧ J (pre ++ [x]) W2 ∧ Keeps Fp W1 W2) ∨ (v = .bool false ∧ Jx (pre ++ [x]) W2)) →
    J [] W →
    Calls P g (.func (.yield l) #[] #[] :: lb).toArray W fun e W' => (∃ v, e = .returned v) ∧ (J xs W' ∨ ∃ pre, pre <+: xs ∧ Jx pre W')
theorem zs1 {α : Type} {S : Sig} (hS : SigOk S) (hr : S.r = none) {f : Operand} {ps : Array Tmp} {assign body : Code} {E : Env} {w : Wd} {Q : Exit → Env → Wd → Prop}
    {gf : Nat} {lb : Array Value} (hg : opd E f = some (.func (.func gf) #[] lb)) (hok : jK S gf = true)
    {xs : List α} {W0 : Wd} {Rd Ow : Nat → Prop} {St : List α → List Value → Wd → Prop} (hI : zsJ S.P gf lb.toList xs W0 Rd Ow St) (hW0 : W0.heap.size ≤ w.heap.size) (hRd : ∀ k, Rd k ∨ Ow k → k < W0.heap.size ∧ w.heap[k]? = W0.heap[k]?)
    (hps : ∀ pre vs W, St pre vs W → vs.length = ps.size) (hpn : ∀ p ∈ ps.toList, p < S.n)
    (Fp : Wd → Nat → Prop) (J : List α → Wd → Prop) (Jx : Exit → List α → Wd → Prop) (hRF : ∀ k, Rd k → ¬ Fp w k)
    (hJ : IterJO w.heap.size Ow Fp J) (hJx : ∀ ex, IterJO w.heap.size Ow Fp (Jx ex)) (h0 : J [] w)
    (hround : ∀ (l : Nat) (pre : List α) (x : α) (vs : List Value) (W : Wd), w.heap.size ≤ l → (pre ++ [x]) <+: xs → J pre W → St (pre ++ [x]) vs W → ¬ Fp W l → l < W.heap.size →
      wpE (sr S l) assign ⟨setL ps.toList vs E.vs, []⟩ W fun ex E1 W1 => ex = .normal ∧ Keeps Fp W W1 ∧ J pre W1 ∧
        ∀ o W2, W2 = W1.putObj l o → J pre W2 → (∀ k, Fp W2 k → Fp W1 k) → wpE (sr S l) body E1 W2 (zva Fp J Jx (pre ++ [x]) W2))
    (hdone : ∀ D W, w.heap.size ≤ D → ¬ Fp W D → J xs W → W.heap[D]? = some (.deferred (some [])) → Q .normal ⟨E.vs, { target := .collected D, args := #[] } :: E.ds⟩ W)
    (hstop : ∀ D ex pre W, w.heap.size ≤ D → ¬ Fp W D → pre <+: xs → Jx ex pre W → W.heap[D]? = some (.deferred (some [])) → Q ex ⟨E.vs, { target := .collected D, args := #[] } :: E.ds⟩ W) :
    zju S f ps assign body E w Q := by
  intro a ha
  have hcall : ∀ args w, (callFunc gf args).run S.P w = .ok (.enter gf args) w := by
    simp only [jK, Qi, Gj, Gk] at hok
    exact fun args w => hS.call gf hok.1.1 hok.1.2 hok.2 args w
  refine wpIn_rangeFunc ?_
  intro fn hfn
  have hro : (FR S.r).round = none := hr
  rw [hro]
  obtain ⟨rec, hrec⟩ : ∃ rec : LoopState → Option Code → Loop, rec = fun st pe => { state := st, pending := pe, fn, tmps := a.tmps, params := ps, assign, body, defers := w.heap.size } := ⟨_, rfl⟩
  obtain ⟨W1, hW1⟩ : ∃ W1, (w.alloc (.deferred (some []))).alloc (.loop (rec .ready none)) = W1 := ⟨_, rfl⟩
  have hK0 := zA w (.deferred (some []))
  have hK1 : W1.heap[w.heap.size]? = some (.deferred (some [])) := by rw [← hW1]; exact qy _ hK0
  have hL1 : W1.heap[w.heap.size + 1]? = some (.loop (rec .ready none)) := by
    rw [← hW1]; have := zA (w.alloc (.deferred (some []))) (.loop (rec .ready none)); rwa [QG] at this
  have hs1 : W1.heap.size = w.heap.size + 2 := by rw [← hW1]; simp
  have hst1 : Step w.heap.size Fp w W1 := by
    rw [← hW1]; exact .of_below (((Gh _ w).alloc (Gc _) _).alloc (by simp) _)
  obtain ⟨hJ1, hF1⟩ := hJ.step _ _ _ h0 hst1.o
  have hOl : ∀ k, w.heap.size ≤ k → ¬ Ow k := fun k hk ho => by have := (hRd k (.inr ho)).1; omega
  have hFl : ∀ k, Fp W1 k → k < w.heap.size := fun k hk => (hJ.lt _ _ k h0 (hF1 k hk)).1
  refine ⟨w.heap.size + 1, [{ target := .collected w.heap.size, args := #[] }], W1, { target := .fn (.func gf) lb, args := #[.func (.yield (w.heap.size + 1)) #[] #[]] }, W1, gf,
    #[.func (.yield (w.heap.size + 1)) #[] #[]] ++ lb, W1, ?_, ?_, fun _ _ => trivial, ?_, fun h => by simp [FR] at h, ?_⟩
  · rw [← hW1, hrec]; exact Kq _ _ _ _ _
  · have hg' := ha.eval hg
    simp only [resolve, hg']
    simp [go_sem]
  · simp [invoke, go_sem, hcall]
  · have hargs : #[Value.func (.yield (w.heap.size + 1)) #[] #[]] ++ lb = (Value.func (.yield (w.heap.size + 1)) #[] #[] :: lb.toList).toArray := by rw [← Qf]; simp
    rw [hargs]
    have book : ∀ {σ : Type} {K : σ → Wd → Prop} (lo : Loop), IterJO w.heap.size Ow Fp K → IterJO W1.heap.size Ow Fp (fun s W => K s W ∧ W.heap[w.heap.size + 1]? = some (.loop lo) ∧ W.heap[w.heap.size]? = some (.deferred (some [])) ∧ ¬ Fp W (w.heap.size + 1) ∧ ¬ Fp W w.heap.size) := by
      intro σ K lo hK
      refine ⟨fun s A B ⟨hk, hl, hd, hf1, hf2⟩ hs => ?_, fun s A k ⟨hk, _⟩ hf => hK.lt s A k hk hf⟩
      obtain ⟨h1, h2⟩ := hK.step s A B hk (hs.mono (by omega))
      exact ⟨⟨h1, (hs.same _ (hlt hl) (.inl ⟨by omega, hOl _ (by omega)⟩)).trans hl, (hs.same _ (hlt hd) (.inl ⟨by omega, hOl _ (by omega)⟩)).trans hd, fun h => hf1 (h2 _ h), fun h => hf2 (h2 _ h)⟩, h2⟩
    have hcalls := hI (w.heap.size + 1) Fp (fun pre W => J pre W ∧ W.heap[w.heap.size + 1]? = some (.loop (rec .ready none)) ∧ W.heap[w.heap.size]? = some (.deferred (some [])) ∧ ¬ Fp W (w.heap.size + 1) ∧ ¬ Fp W w.heap.size)
      (fun pre W => ∃ ex c, ((ex = .ret ∧ c = .ret) ∨ ∃ id, ex = .exit id ∧ c = .exit id) ∧ Jx ex pre W ∧ W.heap[w.heap.size + 1]? = some (.loop (rec .done (some c))) ∧ W.heap[w.heap.size]? = some (.deferred (some [])) ∧ ¬ Fp W (w.heap.size + 1) ∧ ¬ Fp W w.heap.size)
      W1 (by omega) (fun k hk => by
        obtain ⟨h1, h2⟩ := hRd k hk
        rw [← h2]
        exact hst1.same k (by omega) (.inl (by omega))) (fun k hk hf => hRF k hk (hF1 k hf)) (book _ hJ)
      ⟨fun s A B ⟨ex, c, hc, hrest⟩ hs => by
        have := (book (rec .done (some c)) (hJx ex)).step s A B hrest hs
        exact ⟨⟨ex, c, hc, this.1⟩, this.2⟩,
       fun s A k ⟨ex, c, hc, hrest⟩ hf => (hJx ex).lt s A k hrest.1 hf⟩ ?_ ⟨hJ1, hL1, hK1, fun h => by have := hFl _ h; omega, fun h => by have := hFl _ h; omega⟩
    · refine zcJ (hcalls.mono ?_)
      rintro e W2 ⟨⟨v, rfl⟩, (⟨hj, hl, hk, hf1, hf2⟩ | ⟨pre, hpre, ex, c, hc, hj, hl, hk, hf1, hf2⟩)⟩
      · have hst : Step w.heap.size Fp W2 (W2.putObj (w.heap.size + 1) (.loop (rec .exhausted none))) := .put (by omega) hf1 _
        obtain ⟨hj2, hfp2⟩ := hJ.step _ _ _ hj hst.o
        refine ⟨none, _, by have := Gg (P := S.P) hl (by rw [hrec]; simp); rw [hrec] at this; exact this, ?_⟩
        rw [hrec] at hj2 hfp2
        exact ⟨⟨E.vs, { target := .collected w.heap.size, args := #[] } :: E.ds⟩, ⟨ha.size, by simp [ha.defers], ha.val⟩, hdone w.heap.size _ (Gc _) (fun h => hf2 (hfp2 _ h)) hj2 ((zj (by omega)).trans hk)⟩
      · have hst : Step w.heap.size Fp W2 (W2.putObj (w.heap.size + 1) (.loop (rec .exhausted (some c)))) := .put (by omega) hf1 _
        obtain ⟨hj2, hfp2⟩ := (hJx ex).step _ _ _ hj hst.o
        refine ⟨some c, _, by have := Gg (P := S.P) hl (by rw [hrec]; simp); rw [hrec] at this; exact this, ?_⟩
        rw [hrec] at hj2 hfp2
        have hq := hstop w.heap.size ex pre _ (Gc _) (fun h => hf2 (hfp2 _ h)) hpre hj2 ((zj (by omega)).trans hk)
        rcases hc with ⟨rfl, rfl⟩ | ⟨id, rfl, rfl⟩
        · exact wpIn_ret ⟨⟨E.vs, { target := .collected w.heap.size, args := #[] } :: E.ds⟩, ⟨ha.size, by simp [ha.defers], ha.val⟩, hq⟩
        · exact wpIn_exit ⟨⟨E.vs, { target := .collected w.heap.size, args := #[] } :: E.ds⟩, ⟨ha.size, by simp [ha.defers], ha.val⟩, hq⟩
    ·
      rintro pre x vs W ⟨hj, hl, hk, hf1, hf2⟩ hst0 hpre
      have hy := run_yield (P := S.P) (args := vs.toArray) hl (by rw [hrec]; simpa using hps _ _ _ hst0)
      rw [hrec] at hy
      refine ⟨fn, _, assign, body, hy, zbO (r := none) (n := NN) (roundIn_of_wpIn (F := FR none) trivial ?_)⟩
      have hag : Agrees (sr S (w.heap.size + 1)) { tmps := (ps.zip vs.toArray).foldl (fun t (p, v) => t.setIfInBounds p v) a.tmps, defers := [] } ⟨setL ps.toList vs E.vs, []⟩ := by
        have h1 : Agrees (sr S (w.heap.size + 1)) { a with defers := [] } ⟨E.vs, []⟩ := ⟨ha.size, rfl, ha.val⟩
        have h2 := zbM ps.toList vs _ _ h1 hpn
        have e : (ps.zip vs.toArray).foldl (fun t (p, v) => t.setIfInBounds p v) a.tmps = (ps.toList.zip vs).foldl (fun t (p, v) => t.setIfInBounds p v) a.tmps := by
          rw [← Kr]; simp
        rw [e]; exact h2
      have hw := qE (zh1 hS _) assign _ _ W _ hag (hround (w.heap.size + 1) pre x vs W (by omega) hpre hj hst0 hf1 (hlt hl))
      refine Gn hw ?_
      rintro ex a1 Wa ⟨E1, hag1, rfl, hk1, hj1, hbody⟩
      have hla := (hk1.same _ (hlt hl) hf1).trans hl
      have hka := (hk1.same _ (hlt hk) hf2).trans hk
      have hfa1 : ¬ Fp Wa (w.heap.size + 1) := fun h => by rcases hk1.fp _ h with h | h; exact hf1 h; have := hlt hl; omega
      have hfa2 : ¬ Fp Wa w.heap.size := fun h => by rcases hk1.fp _ h with h | h; exact hf2 h; have := hlt hk; omega
      refine ⟨_, run_beginRound hla (by rw [hrec]), ?_⟩
      have hst : Step w.heap.size Fp Wa (Wa.putObj (w.heap.size + 1) (.loop { rec .ready none with state := .busy })) := .put (by omega) hfa1 _
      obtain ⟨hj2, hfp2⟩ := hJ.step _ _ _ hj1 hst.o
      have hw2 := qE (zh1 hS _) body _ _ _ _ hag1 (hbody _ _ rfl hj2 hfp2)
      refine Gn hw2 ?_
      have hl2 : (Wa.putObj (w.heap.size + 1) (.loop { rec .ready none with state := .busy })).heap[w.heap.size + 1]? = some (.loop { rec .ready none with state := .busy }) := za9 hla
      have hk2 : (Wa.putObj (w.heap.size + 1) (.loop { rec .ready none with state := .busy })).heap[w.heap.size]? = some (.deferred (some [])) := (zj (by omega)).trans hka
      have hfb1 : ¬ Fp (Wa.putObj (w.heap.size + 1) (.loop { rec .ready none with state := .busy })) (w.heap.size + 1) := fun h => hfa1 (hfp2 _ h)
      have hfb2 : ¬ Fp (Wa.putObj (w.heap.size + 1) (.loop { rec .ready none with state := .busy })) w.heap.size := fun h => hfa2 (hfp2 _ h)
      have fin : ∀ (jump : Option Code) (W3 : Wd), Keeps Fp (Wa.putObj (w.heap.size + 1) (.loop { rec .ready none with state := .busy })) W3 →
          (Instr.endRound (w.heap.size + 1) jump).run S.P W3 = .ok (.bool jump.isNone) (W3.putObj (w.heap.size + 1) (.loop (rec (if jump.isNone then .ready else .done) jump))) ∧
          (W3.putObj (w.heap.size + 1) (.loop (rec (if jump.isNone then .ready else .done) jump))).heap[w.heap.size + 1]? = some (.loop (rec (if jump.isNone then .ready else .done) jump)) ∧
          (W3.putObj (w.heap.size + 1) (.loop (rec (if jump.isNone then .ready else .done) jump))).heap[w.heap.size]? = some (.deferred (some [])) ∧
          Step w.heap.size Fp W3 (W3.putObj (w.heap.size + 1) (.loop (rec (if jump.isNone then .ready else .done) jump))) ∧ ¬ Fp W3 (w.heap.size + 1) ∧ ¬ Fp W3 w.heap.size := fun jump W3 hk3 => by
        have hl3 := (hk3.same _ (hlt hl2) hfb1).trans hl2
        have hd3 := (hk3.same _ (hlt hk2) hfb2).trans hk2
        have hf31 : ¬ Fp W3 (w.heap.size + 1) := fun h => by rcases hk3.fp _ h with h | h; exact hfb1 h; have := hlt hl2; omega
        have hf32 : ¬ Fp W3 w.heap.size := fun h => by rcases hk3.fp _ h with h | h; exact hfb2 h; have := hlt hk2; omega
        have := run_endRound (P := S.P) jump hl3
        rw [hrec] at this ⊢
        exact ⟨this, za9 hl3, (zj (by omega)).trans hd3, .put (by omega) hf31 _, hf31, hf32⟩
      rintro e a3 W3 ⟨E3, _, hq⟩
      cases e with
      | normal =>
        obtain ⟨hj3, hk3⟩ := hq
        obtain ⟨hr3, hl4, hk4, hs3, hf31, hf32⟩ := fin none W3 hk3
        obtain ⟨hj4, hfp4⟩ := hJ.step _ _ _ hj3 hs3.o
        refine ⟨_, _, hr3, .inl ⟨rfl, ⟨hj4, hl4, hk4, fun h => hf31 (hfp4 _ h), fun h => hf32 (hfp4 _ h)⟩, ?_⟩⟩
        refine ⟨hs3.os.trans (hk3.os.trans hk1.os), hs3.tape.trans (hk3.tape.trans hk1.tape), hs3.output.trans (hk3.output.trans hk1.output), ?_, fun k hk5 hf5 => ?_, fun k hk5 => ?_⟩
        · have h1 := hk1.size; have h2 := hst.size; have h3 := hk3.size; have h4 := hs3.size; omega
        · by_cases hkl : k = w.heap.size + 1
          · subst hkl; rw [hl4, hl]; rfl
          · have h1 : ¬ Fp Wa k := fun h => by rcases hk1.fp _ h with h | h; exact hf5 h; omega
            have h2 := hk1.size; have h3 := hst.size
            rw [zj hkl, hk3.same k (by omega) (fun h => h1 (hfp2 _ h)), zj hkl]
            exact hk1.same k hk5 hf5
        · have h1 := hfp4 _ hk5
          rcases hk3.fp _ h1 with h2 | h2
          · exact hk1.fp _ (hfp2 _ h2)
          · have h3 := hk1.size; have h4 := hst.size; exact .inr (by omega)
      | ret =>
        obtain ⟨hj3, hk3⟩ := hq
        obtain ⟨hr3, hl4, hk4, hs3, hf31, hf32⟩ := fin (some .ret) W3 hk3
        obtain ⟨hj4, hfp4⟩ := (hJx .ret).step _ _ _ hj3 hs3.o
        exact ⟨_, _, hr3, .inr ⟨rfl, .ret, .ret, .inl ⟨rfl, rfl⟩, hj4, hl4, hk4, fun h => hf31 (hfp4 _ h), fun h => hf32 (hfp4 _ h)⟩⟩
      | exit id =>
        obtain ⟨hj3, hk3⟩ := hq
        obtain ⟨hr3, hl4, hk4, hs3, hf31, hf32⟩ := fin (some (.exit id)) W3 hk3
        obtain ⟨hj4, hfp4⟩ := (hJx (.exit id)).step _ _ _ hj3 hs3.o
        exact ⟨_, _, hr3, .inr ⟨rfl, .exit id, .exit id, .inr ⟨id, rfl, rfl⟩, hj4, hl4, hk4, fun h => hf31 (hfp4 _ h), fun h => hf32 (hfp4 _ h)⟩⟩
      | goto t => exact hq.elim
      | panic ch => exact hq.elim
      | outgrown => exact hq.elim
end Go.Vc
namespace Go.Vc
open Go.RowKit Go.Lib
theorem zon (b o i:Nat):(⟨b,o,none⟩:Addr).add i=⟨b,o+i,none⟩:=by
 unfold Addr.add;by_cases h:i=0
 ·simp [h]
 ·simp [h]
theorem zcH (p:OA) (cap sz:Nat):qS p cap 0 sz=p:=by
 unfold qS
 split
 ·rfl
 ·cases p with
  | none=>rfl
  | some a=>simp [Addr.add]
section
variable {α:Type} {E:Enc α} {w:Wd} {p:OA} {l:List α}
theorem SlR.sub (h:SlR E w p l) {cap lo hi:Nat} (h1:lo<=hi) (h2:hi<=l.length) (h3:l.length<=cap):SlR E w (qS p cap lo E.sz) ((l.drop lo).take (hi-lo)):=by
 by_cases he:hi=lo
 ·left;subst he;simp
 ·rcases h with rfl | ⟨b,o,rfl,hb,hc⟩
  ·left;simp
  ·right;refine⟨b,o+lo*E.sz,?_,hb,fun i hi2=>?_⟩
   ·unfold qS;rw [Gw (by omega)];simp [zon]
   ·simp only [Qv,Qu] at hi2;have:=hc (lo+i) (by omega);rw [List.getElem_take,List.getElem_drop];rw [UH,<- Gb];exact this
theorem SlR.none (h:SlR E w none l):l=[]:=by
 rcases h with h | ⟨b,o,h,_⟩
 ·exact h
 ·cases h
theorem zgp {P:Program} {t T ty B cap m c:Nat} {a:OA} {news:List α} {iT:TI} {z:List Value} (hu:P.underlying t=some (.slice T)) (hT:TIok P T iT) (hz:iT.zero=some z)
  (hs:iT.size=E.sz) (hzl:z.length=E.sz) (ho:OwnS E T B w p cap l) (hm:news.length=m) (hn:SlR E w a news) (hc:a=none->c=0) (hB:B<=w.heap.size)
  (h1:l.length+m<=9223372036854775807) (h2:(l.length+m)*iT.bytes<=140737488355328) {K:Value->Wd->Prop}
  (k:∀ p' cap' w',OwnS E T B w' p' cap' (l++news)->w.grownBy w' (Value.slice p l.length cap).ownBlock->Below B w w'->K (.slice p' (l++news).length cap') w') :
  SatR ((Builtin.append_ #[t,t] ty #[.slice p l.length cap,.slice a m c]).run P w) K:=by
 cases a with
 | none =>
  have hn:=hn.none;have hc:=hc rfl;subst hn hc;simp at hm;subst hm;obtain⟨⟨inf,hi,hsz,hby,hzz⟩,_⟩:=hT;refine SatR.mk (run_append_owned_none (P:=P) (w:=w) B t ty T inf E.sz hu hi _ _ _ ho) ?_;have:=k p cap w (by rw [QM];exact ho) ⟨rfl,rfl,rfl,Gc _,fun _ _ _=>rfl⟩ (Gh _ _)
  rwa [QM] at this
 | some a =>
  by_cases h0:news=[]
  ·subst h0;simp at hm;subst hm;exact ji hu hT hz hs hzl ho (by simp) (fun i v hv=>by simp at hv) hB h1 h2 fun p' cap' w' h1 h2 h3 _=>k p' cap' w' h1 h2 h3
  ·have hn':zo w a (news.flatMap E.enc):=by
    rcases hn with h | ⟨b,o,h,hb,hcs⟩
    ·exact Gy h h0
    ·cases h
     exact SlR.cells (.inr ⟨b,o,rfl,hb,hcs⟩)
   exact ji hu hT hz hs hzl ho hm hn' hB h1 h2 fun p' cap' w' h1 h2 h3 _=>k p' cap' w' h1 h2 h3
end
end Go.Vc
namespace Go.Vc
open Go.RowKit
theorem zei {a:Int} (h:0<=a/\a<=18446744073709551615):IntKind.u64.wrap a=a:=by
 simp [IntKind.wrap,IntKind.signed,IntKind.bits] <;> omega
def RowS {α:Type} (E:Enc α) (T:TypeId) (w:Wd) (g:Nat) (sp:List Value) (l:List α):Prop :=
 w.heap[g]?=some (.cells (l.flatMap E.enc++sp).toArray T (0,0))
section
variable {α:Type} {E:Enc α} {T:TypeId} {w w2:Wd} {g:Nat} {sp:List Value} {l:List α}
theorem RowS.row (h:RowS E T w g sp l):SlR E w (some ⟨g,0,none⟩) l:=by
 refine SlR.of_cells (hlt h) (qt fun i v hv=>zc (za h) ?_);rw [Jp (Jq.1 hv).1];exact hv
theorem RowS.at (h:RowS E T w g sp l) {i:Nat} (hi:i<l.length):zo w ⟨g,0+i*E.sz,none⟩ (E.enc l[i]):=by
 rcases h.row with h0 | ⟨b,o,h1,_,hc⟩
 ·subst h0;simp at hi
 ·cases h1;exact hc i hi
theorem RowS.lt (h:RowS E T w g sp l):g<w.heap.size:=hlt h
theorem RowS.same (h:RowS E T w g sp l) (hs:w2.heap[g]?=w.heap[g]?):RowS E T w2 g sp l:=hs.trans h
theorem RowS.below (h:RowS E T w g sp l) (hb:Bw w w2):RowS E T w2 g sp l:=zb hb h
theorem zkE (l:List α) {i:Nat} (hi:i<l.length) (x:α) (sp:List Value) :
  (l.flatMap E.enc++sp).take (i*E.sz)++E.enc x++(l.flatMap E.enc++sp).drop (i*E.sz+E.sz)=(l.set i x).flatMap E.enc++sp:=by
 have hl:l=l.take i++l[i]::l.drop (i+1):=by rw [JD,JQ]
 have h1:((l.take i).flatMap E.enc).length=i*E.sz:=by rw [qC,Qv,Uc (by omega)]
 have h2:(l.take i++l[i]::l.drop (i+1)).flatMap E.enc++sp=(l.take i).flatMap E.enc++(E.enc l[i]++((l.drop (i+1)).flatMap E.enc++sp)):=by
  rw [Kf,KS];simp only [KO]
 rw [<- hl] at h2;rw [Jb,Gx hi,h2];rw [Jg (by omega),JE (by omega),List.drop_append,JA (by omega),h1];have h3:i*E.sz+E.sz-i*E.sz=E.sz:=by omega
 rw [h3,QW,List.drop_append,JA (by rw [E.len];exact Gc _),E.len,UV,Uo];simp [Kf]
theorem znn {P:Program} {Te:TypeId} {iT:TI} (hT:TIok P Te iT) (hs:iT.size=E.sz) (hr:RowS E T w g sp l) {i:Nat} (hi:i<l.length) (x:α) {K:Wd->Prop}
  (k:∀ w',RowS E T w' g sp (l.set i x)->w.grownBy w' (some g)->w'.heap.size=w.heap.size->K w') :
  SatR ((storeVar Te ⟨g,0+i*E.sz,none⟩ (.agg (E.enc x).toArray)).run P w) fun _ w'=>K w':=by
 obtain⟨⟨inf,hinf,hsz,_,_⟩,_⟩:=hT;have hfl:(l.flatMap E.enc).length=l.length*E.sz:=qC l;have hle:i*E.sz+E.sz<=l.length*E.sz:=by rw [<- Nat.succ_mul];exact Nat.mul_le_mul_right _ hi
 have hst:=Qe P g (0+i*E.sz) T (E.enc x) 0 _ w hr (by rw [E.len];simp only [KX,lap,hfl];omega) (E.one x);have hrun:(sizeOf Te).run P w = .ok iT.size w:=by simp [sizeOf,typeInfo,hinf,hsz]
 refine SatR.mk (v:=()) (w':=w.setRow g ((l.set i x).flatMap E.enc++sp).toArray) ?_ (k _ (zq hr) (qq w g _) (by simp));simp only [storeVar,UY,hrun,Qa];have hc:(Value.agg (E.enc x).toArray).cells=(E.enc x).toArray:=rfl;rw [hc];simp only [KX,E.len,hs,ne_eq,Qc,Gr];rw [hst,<- zkE l hi x sp];simp only [E.len,UX,UQ]
theorem jF (w:Wd) (row:Option Nat):w.grownBy w row:=⟨rfl,rfl,rfl,Gc _,fun _ _ _=>rfl⟩
theorem zg {a b c:Wd} {row:Option Nat} (h:a.grownBy b row) (k:b.grownBy c row):a.grownBy c row :=
 ⟨k.os.trans h.os,k.tape.trans h.tape,k.output.trans h.output,UT h.size k.size,fun i hi hn=>(k.block i (nL hi h.size) hn).trans (h.block i hi hn)⟩
theorem zh {a b:Wd} {row:Option Nat} (h:Bw a b):a.grownBy b row:=⟨h.os,h.tape,h.output,h.size,fun k hk _=>h.block k hk⟩
theorem zap {P:Program} {Te:TypeId} {iT:TI} (hT:TIok P Te iT) (hs:iT.size=1) {cs:Array Value} {t:TypeId} (hg:w.heap[g]?=some (.cells cs t (0,0))) {o:Nat} (ho:o<cs.size) {v:Value} (hv:v.cells = #[v]) (h1:v.oneCell'=true) {K:Wd->Prop}
  (k:∀ w',w'.heap[g]?=some (.cells (cs.toList.take o++[v]++cs.toList.drop (o+1)).toArray t (0,0))->w.grownBy w' (some g)->w'.heap.size=w.heap.size->K w') :
  SatR ((storeVar Te ⟨g,o,none⟩ v).run P w) fun _ w'=>K w':=by
 obtain⟨⟨inf,hinf,hsz,_,_⟩,_⟩:=hT;have hst:=Qe P g o t [v] 0 cs w hg (by simp;omega) (by simp [h1]);have hrun:(sizeOf Te).run P w = .ok iT.size w:=by simp [sizeOf,typeInfo,hinf,hsz]
 refine SatR.mk (v:=()) (w':=w.setRow g (cs.toList.take o++[v]++cs.toList.drop (o+1)).toArray) ?_ (k _ (zq hg) (qq w g _) (by simp));simp only [storeVar,UY,hrun,Qa,hv,hs];simpa using hst
end
theorem brT {P Q:Prop} (h:P):(true=true->P)/\(true=false->Q):=⟨fun _=>h,fun h=>nomatch h⟩
theorem brF {P Q:Prop} (h:Q):(false=true->P)/\(false=false->Q):=⟨fun h=>(nomatch h),fun _=>h⟩
theorem brE {b:Bool} {P Q:Prop} (e:b=true) (h:P):(b=true->P)/\(b=false->Q):=⟨fun _=>h,fun h=>nomatch e.symm.trans h⟩
theorem brN {b:Bool} {P Q:Prop} (e:b=false) (h:Q):(b=true->P)/\(b=false->Q):=⟨fun h=>(nomatch e.symm.trans h),fun _=>h⟩
theorem zJ {w w2:Wd} {b o:Nat} {vs:List Value} (hs:w2.heap[b]?=w.heap[b]?) (h:zo w ⟨b,o,none⟩ vs):zo w2 ⟨b,o,none⟩ vs:=by
 refine qt fun i v hv=>?_;have:=zc h hv;rw [<- this];unfold World.cell?;simp only [hs]
theorem qT {B:Nat} {w w2:Wd} {b o:Nat} {vs:List Value} (hb:Below B w w2) (hlt:b<B) (h:zo w ⟨b,o,none⟩ vs):zo w2 ⟨b,o,none⟩ vs :=
 zJ (hb.block b hlt) h
theorem zoh {w:Wd} {b o:Nat} {u v:List Value}:zo w ⟨b,o,none⟩ (u++v)↔zo w ⟨b,o,none⟩ u/\zo w ⟨b,o+u.length,none⟩ v:=by
 constructor
 ·intro h;refine⟨qt fun i x hx=>zc h ?_,qt fun i x hx=>?_⟩
  ·rw [Jp (Jq.1 hx).1];exact hx
  ·have:=zc h (i:=u.length+i) (v:=x) (by rw [Jl (by omega)];simpa using hx)
   rwa [<- UH] at this
 ·rintro⟨h1,h2⟩;refine qt fun i x hx=>?_;by_cases hi:i<u.length
  ·rw [Jp hi] at hx;exact zc h1 hx
  ·rw [Jl (by omega)] at hx;have:=zc h2 hx
   rwa [show o+u.length+(i-u.length)=o+i by omega] at this
def RowB {α:Type} (E:Enc α) (B:Nat) (w:Wd) (p:OA) (l:List α):Prop :=
 l=[]\/∃ b o,p=some ⟨b,o,none⟩/\b<B/\zo w ⟨b,o,none⟩ (l.flatMap E.enc)
section
variable {α:Type} {E:Enc α} {B:Nat} {w w2:Wd} {p:OA} {l:List α}
theorem RowB.below (h:RowB E B w p l) (hb:Below B w w2):RowB E B w2 p l:=by
 rcases h with h | ⟨b,o,hp,hlt,hc⟩
 ·exact .inl h
 ·exact .inr ⟨b,o,hp,hlt,qT hb hlt hc⟩
theorem RowB.mono {B':Nat} (h:RowB E B w p l) (hB:B<=B'):RowB E B' w p l:=by
 rcases h with h | ⟨b,o,hp,hlt,hc⟩
 ·exact .inl h
 ·exact .inr ⟨b,o,hp,by omega,hc⟩
theorem RowB.slr (h:RowB E B w p l) (hB:B<=w.heap.size):SlR E w p l:=by
 rcases h with rfl | ⟨b,o,rfl,hlt,hc⟩
 ·exact .nil
 ·exact SlR.of_cells (by omega) hc
theorem RowB.get (h:RowB E B w p l):∃ b o,(l.length=0\/p=some ⟨b,o,none⟩)/\∀ i (hi:i<l.length),b<B/\zo w ⟨b,o+i*E.sz,none⟩ (E.enc l[i]):=by
 rcases h with rfl | ⟨b,o,rfl,hlt,hc⟩
 ·exact⟨0,0,.inl rfl,fun i hi=>by simp at hi⟩
 ·exact⟨b,o,.inr rfl,fun i hi=>⟨hlt,by rw [<- zeW l i hi];exact zM hc⟩⟩
end
theorem zh9:∀ (A B C:List Value),B.length=C.length->zbT (A++B) A.length C=A++C
 | A,B,[],h=>by
  have:B=[]:=Jf h;subst this;rfl
 | A,[],c::C,h=>by simp at h
 | A,b::B,c::C,h=>by
  have e:(A++b::B).set A.length c=(A++[c])++B:=by
   rw [JP _ _ (Gc _),UV];simp
  rw [zbT,e];have:=zh9 (A++[c]) B C (by simpa using h);rw [lap] at this;exact this.trans (by simp)
theorem zbc {n:Nat} {x:Operand} {z cs:List Value} (hc:cs.length=n) (hz:z.length=n):zcT (fun i=>some (i*n,n)) (zb3 z 1) (zfV [(0,x)] [.agg cs.toArray])=some cs:=by
 have e1:zb3 z 1=z:=by simp [zb3]
 have e2:(Value.agg cs.toArray).cells.size=n:=by show cs.length=n;exact hc
 simp only [zfV,zcT,e1,e2,Nat.zero_mul,UX,hz];simp only [UR,Nat.ble_self_eq_true,Bool.and_self];have:(Value.agg cs.toArray).cells.toList=cs:=rfl;rw [this];have:=zh9 [] z cs (by rw [hz,hc]);simp at this;rw [this]
theorem qF {α:Type} (E:Enc α) (a:α) {w:Wd} {t:TypeId}:zo (w.alloc (.cells (E.enc a).toArray t)) ⟨w.heap.size,0,none⟩ ([a].flatMap E.enc):=by
 rw [List.flatMap_singleton];exact ziC
theorem jj {P:Program} {w:Wd} {g:Nat} {Te:TypeId} {iT:TI} (hT:TIok P Te iT) {cs:Array Value} {t:TypeId} (hg:w.heap[g]?=some (.cells cs t (0,0))) {o:Nat} {v:Value} (hv:v.cells.size=iT.size) (ho:o+v.cells.size<=cs.size)
  (h1:v.cells.toList.all Value.oneCell'=true) {K:Wd->Prop}
  (k:∀ w',w'.heap[g]?=some (.cells (cs.toList.take o++v.cells.toList++cs.toList.drop (o+v.cells.size)).toArray t (0,0))->w.grownBy w' (some g)->w'.heap.size=w.heap.size->K w') :
  SatR ((storeVar Te ⟨g,o,none⟩ v).run P w) fun _ w'=>K w':=by
 obtain⟨⟨inf,hinf,hsz,_,_⟩,_⟩:=hT;have hst:=Qe P g o t v.cells.toList 0 cs w hg (by simpa using ho) (Qk.1 h1);have hrun:(sizeOf Te).run P w = .ok v.cells.size w:=by simp [sizeOf,typeInfo,hinf,hsz,hv]
 refine SatR.mk (v:=()) (w':=w.setRow g (cs.toList.take o++v.cells.toList++cs.toList.drop (o+v.cells.size)).toArray) ?_ (k _ (zq hg) (qq w g _) (by simp));simp only [storeVar,UY,hrun,Qa];simpa using hst
def zeV (ind:Nat->Nat->Bool) (ops:Array Oper) (k:Nat) (listed:Array Bool):Bool :=
 (List.range ops.size).all fun i=>Nat.beq i k||listed.getD i false||ind k i||zel ops ops.size k i
def zqa (rec_:Array Bool->OT->Bool) (ind:Nat->Nat->Bool) (ops:Array Oper) (listed:Array Bool) (T:OT):Bool :=
 !(Region.ready .any ops listed).isEmpty&&(Region.ready .any ops listed).all fun i =>
   match OT.first ind i T with
   | some T'=>rec_ (listed.setIfInBounds i true) T'
   | none=>false
def zhu (ind:Nat->Nat->Bool) (ops:Array Oper):Nat->Array Bool->OT->Bool
 | 0,listed,T=>(Region.ready .any ops listed).isEmpty&&(match T with | .nil=>true | _=>false)
 | m+1,listed,.op k T'=>(match (Region.ready .any ops listed).contains k&&zeV ind ops k listed with
  | true=>zhu ind ops m (listed.setIfInBounds k true) T'
  | false=>zqa (zhu ind ops m) ind ops listed (.op k T'))
 | m+1,listed,.nil=>zqa (zhu ind ops m) ind ops listed .nil
 | m+1,listed,.alt x y=>zqa (zhu ind ops m) ind ops listed (.alt x y)
section
variable {ind:Nat->Nat->Bool} {ops:Array Oper}
def zeg (ops:Array Oper) (L:Array Bool):Prop:=∀ j o,L.getD j false=true->ops[j]?=some o->∀ e∈o.after,Region.binds .any e=true->L.getD e.on false=true
theorem zdi {L:Array Bool} {k j:Nat} {d:Bool} (h:j≠k):(L.setIfInBounds k true).getD j d=L.getD j d:=by
 have:¬ k=j:=fun e=>h e.symm;simp [Ji,Jh,this]
theorem zdA {L:Array Bool} {k j:Nat} (h:L.getD j false=true):(L.setIfInBounds k true).getD j false=true:=by
 by_cases e:j=k
 ·subst e;have hl:j<L.size:=by
   by_cases hl:j<L.size
   ·exact hl
   ·simp [hl] at h
  simp [Ji,hl]
 ·rw [zdi e];exact h
theorem zaR {L:Array Bool} {k i:Nat} (h:i∈Region.ready .any ops L) (hne:i≠k):i∈Region.ready .any ops (L.setIfInBounds k true):=by
 obtain⟨h1,o,ho,h2⟩:=mem_ready.1 h;exact mem_ready.2 ⟨by rw [zdi hne];exact h1,o,ho,fun e he hb=>zdA (h2 e he hb)⟩
theorem zc3 {L:Array Bool} {i:Nat} (h:i∈Region.ready .any ops L):L.getD i false=false/\i<L.size:=by
 obtain⟨h1,_⟩:=mem_ready.1 h;by_cases hl:i<L.size
 ·simp [Ji,hl] at h1 ⊢;exact h1
 ·simp [hl] at h1
theorem zcI {L:Array Bool} (hc:zeg ops L) {k:Nat} (hk:k∈Region.ready .any ops L):zeg ops (L.setIfInBounds k true):=by
 obtain⟨h1,o,ho,h2⟩:=mem_ready.1 hk;intro j oj hj hoj e he hb;by_cases e1:j=k
 ·subst e1;rw [ho] at hoj;cases hoj;exact zdA (h2 e he hb)
 ·rw [zdi e1] at hj;exact zdA (hc j oj hj hoj e he hb)
theorem zjN {L:Array Bool} {i k:Nat}:(L.setIfInBounds i true).setIfInBounds k true=(L.setIfInBounds k true).setIfInBounds i true:=by
 apply Array.ext_getElem?;intro j;simp only [Jh,Array.size_setIfInBounds]
 split <;> split <;> simp_all
theorem zhh {k i:Nat} {L:Array Bool} (h:zeV ind ops k L=true):zeV ind ops k (L.setIfInBounds i true)=true:=by
 simp only [zeV,Qk,QI,Uq] at h ⊢;intro j hj;rcases h j hj with ((h | h) | h) | h
 ·exact .inl (.inl (.inl h))
 ·exact .inl (.inl (.inr (zdA h)))
 ·exact .inl (.inr h)
 ·exact .inr h
theorem zkD {k i:Nat} {L:Array Bool} (hc:zeg ops L) (hf:zeV ind ops k L=true) (hk:k∈Region.ready .any ops L) (hi:i∈Region.ready .any ops L) (hne:i≠k):ind k i=true:=by
 obtain⟨h1,o,ho,h2⟩:=mem_ready.1 hi;simp only [zeV,Qk,QI,Uq] at hf;rcases hf i (Jk.1 ho).1 with ((h | h) | h) | h
 ·exact Gy (JR h) hne
 ·rw [(zc3 hi).1] at h;cases h
 ·exact h
 ·have:=zcu hc _ k i o ho h2 h;rw [(zc3 hk).1] at this;cases this
theorem zbt {rec_:Array Bool->OT->Bool} {L:Array Bool} {T:OT} (h:zqa rec_ ind ops L T=true):(Region.ready .any ops L).isEmpty=false/\∀ i∈Region.ready .any ops L,∃ T',OT.first ind i T=some T'/\rec_ (L.setIfInBounds i true) T'=true:=by
 simp only [zqa,bAT,KJ,Qk] at h;refine⟨h.1,fun i hi=>?_⟩;have:=h.2 i hi
 split at this
 ·rename_i T' hT;exact⟨T',hT,this⟩
 ·cases this
theorem zob:∀ (m:Nat) (L:Array Bool) (T:OT),zeg ops L->zhu ind ops (m+1) L T=true ->
  (Region.ready .any ops L).isEmpty=false/\∀ i∈Region.ready .any ops L,∃ T',OT.first ind i T=some T'/\zhu ind ops m (L.setIfInBounds i true) T'=true:=by
 intro m
 induction m with
 | zero =>
  intro L T hc h
  cases T with
  | nil=>exact zbt h
  | alt x y=>exact zbt h
  | op k T' =>
   simp only [zhu] at h
   split at h
   ·rename_i hf;simp only [bAT,JU,dE] at hf;refine⟨Jr.2 (KB hf.1),fun i hi=>?_⟩;by_cases e:i=k
    ·subst e;exact⟨T',by simp [OT.first],h⟩
    ·have:=zaR hi e;simp only [bAT,Qs] at h;rw [h.1] at this;cases this
   ·exact zbt h
 | succ m ih =>
  intro L T hc h
  cases T with
  | nil=>exact zbt h
  | alt x y=>exact zbt h
  | op k T' =>
   unfold zhu at h
   split at h
   ·rename_i hf;simp only [bAT,JU,dE] at hf;refine⟨Jr.2 (KB hf.1),fun i hi=>?_⟩;by_cases e:i=k
    ·subst e;exact⟨T',by simp [OT.first],h⟩
    ·obtain⟨T'',h1,h2⟩:=(ih _ T' (zcI hc hf.1) h).2 i (zaR hi e);refine⟨.op k T'',?_,?_⟩
     ·have:¬ k=i:=fun e2=>e e2.symm;rw [OT.first,Gw this,Gx (zkD hc hf.2 hf.1 hi e),h1];rfl
     ·have hk2:k∈Region.ready .any ops (L.setIfInBounds i true):=zaR hf.1 (fun e2=>e e2.symm);have hb:((Region.ready .any ops (L.setIfInBounds i true)).contains k&&zeV ind ops k (L.setIfInBounds i true))=true:=by
       simp only [bAT,JU,dE];exact⟨hk2,zhh hf.2⟩
      unfold zhu;rw [hb];rw [zjN];exact h2
   ·exact zbt h
theorem ziB:∀ (m:Nat) (L:Array Bool) (T:OT),zeg ops L->zhu ind ops m L T=true->zlZ ind ops m L T=true
 | 0,L,T,_,h=>h
 | m+1,L,T,hc,h=>by
  obtain⟨h1,h2⟩:=zob m L T hc h;simp only [zlZ,bAT,KJ,Qk];refine⟨h1,fun i hi=>?_⟩;obtain⟨T',h3,h4⟩:=h2 i hi;rw [h3];exact ziB m _ T' (zcI hc hi) h4
theorem DrawE.treeQ {S:Sig} {ops:Array Oper} {E:Env} {w:Wd} {K:Env->Wd->Prop} {QP:List PanicEntry->Wd->Prop} (X:List Nat) (T:OT)
  (h:(zhu (zcC S.τ X ops) ops ops.size (Array.replicate ops.size false) T&&ops.all (fun o=>jg o.op))=true) (k:zgK S ops.toList X QP T E w.drew K):DrawE S ops E w K QP :=
 .inr (.inl ⟨X,T,by
  simp only [bAT] at h ⊢;refine⟨ziB _ _ _ (fun j o hj=>?_) h.1,h.2⟩;by_cases hl:j<ops.size <;> simp [hl] at hj,k⟩)
end
theorem zis {z:Value} (h:0<z.cells.size) (n:Nat):(madeCells z.cells (n*z.cells.size)).toList=zb3 z.cells.toList n:=by
 have:=zmn z.cells.toList (by simpa using h) n;unfold madeCells;simpa using Gq Array.toList this
theorem zir {P:Program} {w:Wd} {t T:TypeId} {iT:TI} {z:List Value} {kl kc:IntKind} (hu:P.underlying t=some (.slice T)) (hT:TIok P T iT) (hz:iT.zero=some z) (hzl:z.length=iT.size) (hp:0<iT.size) (n:Nat) (h1:iT.bytes*n<=281474976710656) (h63:n<=9223372036854775807) {K:Value->Wd->Prop}
  (k:∀ w',w'.heap[w.heap.size]?=some (.cells (zb3 z n).toArray T (0,0))->Bw w w'->w'.heap.size=w.heap.size+1->K (.slice (some ⟨w.heap.size,0,none⟩) n n) w') :
  SatR ((Instr.makeSlice t (.int kl (n:Int)) (.int kc (n:Int))).run P w) K:=by
 obtain⟨⟨inf,hi,hsz,hby,hzz⟩,_⟩:=hT;obtain⟨zv,hzv,hzc⟩:=hzz z hz;have h63':(n:Int)<=9223372036854775807:=by omega
 have hb':(inf.bytes:Int)*(n:Int)<=281474976710656:=by
  have h:((inf.bytes*n:Nat):Int)<=281474976710656:=by rw [hby];omega
  rwa [QK] at h
 have hr:=run_make (P:=P) w t T inf zv hu hi hzv kl kc n n (by omega) (Int.le_refl _) hb' h63';simp only [KL] at hr;have hcs:zv.cells.size=inf.size:=by rw [hsz,<- hzl,<- hzc];simp
 have hm:madeCells zv.cells (n*inf.size)=(zb3 z n).toArray:=by
  have:=zis (z:=zv) (by omega) n;rw [hzc,hcs] at this;rw [<- this]
 rw [hm] at hr;exact SatR.mk hr (k _ (zA w _) ((zba _ _)) (by simp))
theorem zu {P:Program} {w:Wd} {g:Nat} {Te:TypeId} {iT:TI} (hT:TIok P Te iT) {cs:List Value} {t:TypeId} (hg:w.heap[g]?=some (.cells cs.toArray t (0,0))) {o:Nat} {v:Value} (hv:v.cells = #[v]) (hi:iT.size=1) (ho:o<cs.length) (h1:v.oneCell'=true) {K:Wd->Prop}
  (k:∀ w',w'.heap[g]?=some (.cells (cs.set o v).toArray t (0,0))->w.grownBy w' (some g)->w'.heap.size=w.heap.size->K w') :
  SatR ((storeVar Te ⟨g,o,none⟩ v).run P w) fun _ w'=>K w':=by
 refine jj hT hg (o:=o) (v:=v) (by rw [hv,hi];rfl) (by rw [hv];show o+1<=cs.length;omega) (by rw [hv];simpa using h1) fun w' f gr sz=>k w' ?_ gr sz;rw [f,hv];congr 2;show (cs.take o++[v]++cs.drop (o+1)).toArray=_;rw [Jb,Gx ho];simp
theorem zm {n:Nat} {A B:Wd} {g:Nat} (h:A.grownBy B (some g)) (hn:n<=A.heap.size) (hg:n<=g):Below n A B :=
 ⟨h.os,h.tape,h.output,h.size,fun j hj=>h.block j (nL hj hn) (by simp;omega)⟩
theorem OwnS.lower {α : Type} {E : Enc α} {T B B' cap : Nat} {w : Wd} {p : OA} {l : List α} (h : OwnS E T B w p cap l) (hB : B' ≤ B) : OwnS E T B' w p cap l := by
  obtain ⟨h1, h2⟩ := h
  refine ⟨h1, ?_⟩
  rcases h2 with h2 | ⟨g, cap', cur, h2, hb, qB⟩
  · exact .inl h2
  · exact .inr ⟨g, cap', cur, h2, UT hB hb, qB⟩
theorem zoe {P : Program} {w : Wd} {t T ty : TypeId} {iT : TI} {z : Value} (hu : P.underlying t = some (.slice T)) (hT : TIok P T iT) (hz : iT.zero = some [z]) (h1 : z.oneCell' = true) {b o n c : Nat} (hn : 0 < n) {cs : Array Value} {u : TypeId} (hg : w.heap[b]? = some (.cells cs u (0, 0))) (ho : o + n ≤ cs.size) {K : Value → Wd → Prop}
    (k : ∀ w', w'.heap[b]? = some (.cells (cs.toList.take o ++ List.replicate n z ++ cs.toList.drop (o + n)).toArray u (0, 0)) → w.grownBy w' (some b) → w'.heap.size = w.heap.size → K (.tuple #[]) w') :
    SatR ((Builtin.clear_ #[t] ty #[.slice (some ⟨b, o, none⟩) n c]).run P w) K := by
  obtain ⟨⟨inf, hi, _, _, hzz⟩, _⟩ := hT
  obtain ⟨zv, hzv, hzc⟩ := hzz _ hz
  have hv : ∀ w, (zeroValue T).run P w = .ok zv w := fun w => by simp [zeroValue, typeInfo, hi, hzv]
  have hzc2 : zv.cells = #[z] := by rw [← hzc]
  have hrep : (Builtin.zeroCells zv.cells n).toList = List.replicate n z := by
    rw [hzc2]
    simp [Builtin.zeroCells]
    apply List.ext_getElem
    · simp
    · intro i h1 h2
      simp [Nat.mod_one]
  have hst := Qe P b o u (List.replicate n z) 0 cs w hg (by simpa using ho) (fun v hv' => by rw [Js hv']; exact h1)
  refine SatR.mk (v := .tuple #[]) (w' := w.setRow b (cs.toList.take o ++ List.replicate n z ++ cs.toList.drop (o + n)).toArray) ?_ (k _ (zq hg) (qq w b _) (by simp))
  obtain ⟨m, rfl⟩ : ∃ m, n = m + 1 := ⟨n - 1, by omega⟩
  have hrep' : Builtin.zeroCells zv.cells (m + 1) = (List.replicate (m + 1) z).toArray := by rw [← hrep]
  simp only [UQ, JM] at hst
  simp [Builtin.clear_, Uu hu, hv, hrep', hst]
theorem zda {α : Type} {E : Enc α} {P : Program} {w : Wd} {t T : TypeId} {iT : TI} {z : List Value} {kl kc : IntKind} (hu : P.underlying t = some (.slice T)) (hT : TIok P T iT) (hz : iT.zero = some z) (hzl : z.length = iT.size) (hs : iT.size = E.sz) (n : Nat) (h1 : iT.bytes * n ≤ 281474976710656) (h63 : n ≤ maxLen) {K : Value → Wd → Prop}
    (k : ∀ w', OwnS E T w.heap.size w' (some ⟨w.heap.size, 0, none⟩) n [] → Below w.heap.size w w' → w'.heap.size = w.heap.size + 1 → K (.slice (some ⟨w.heap.size, 0, none⟩) 0 n) w') :
    SatR ((Instr.makeSlice t (.int kl 0) (.int kc (n : Int))).run P w) K := by
  obtain ⟨⟨inf, hi, hsz, hby, hzz⟩, _⟩ := hT
  obtain ⟨zv, hzv, hzc⟩ := hzz z hz
  have h63' : (n : Int) ≤ 9223372036854775807 := by unfold maxLen at h63; omega
  have hb' : (inf.bytes : Int) * (n : Int) ≤ 281474976710656 := by
    have h : ((inf.bytes * n : Nat) : Int) ≤ 281474976710656 := by rw [hby]; omega
    rwa [QK] at h
  have hr := run_make (P := P) w t T inf zv hu hi hzv kl kc 0 n (by omega) (by omega) hb' h63'
  simp only [KL, Int.toNat_zero] at hr
  have hcs : zv.cells.size = inf.size := by rw [hsz, ← hzl, ← hzc]; simp
  have hp : 0 < zv.cells.size := by rw [hcs, hsz, hs]; exact E.pos
  have hm : (madeCells zv.cells (n * inf.size)).size = n * E.sz := by
    have := Gq List.length (zis (z := zv) hp n)
    rw [zgq, hcs] at this
    rw [← hs, ← hsz]
    simpa [hcs] using this
  refine SatR.mk hr (k _ ?_ ((Gh _ _).alloc (Gc _) _) (by simp))
  exact World.ownsRow_made w _ n (Gc _) h63 hm
structure StepG (n0 : Nat) (Ow F : Nat → Prop) (A B : Wd) : Prop where
  os : B.os = A.os
  tape : B.tape = A.tape
  output : B.output = A.output
  size : A.heap.size ≤ B.heap.size
  same : ∀ k, k < A.heap.size → ((k < n0 ∧ ¬ Ow k) ∨ F k) → B.heap[k]? = A.heap[k]?
theorem StepG.mono {n0 n1 : Nat} {Ow F : Nat → Prop} {A B : Wd} (h : StepG n0 Ow F A B) (hn : n1 ≤ n0) : StepG n1 Ow F A B :=
  ⟨h.os, h.tape, h.output, h.size, fun k hk hf => h.same k hk (hf.imp (fun h => ⟨KF h.1 hn, h.2⟩) id)⟩
theorem StepG.below {n0 : Nat} {Ow F : Nat → Prop} {A B : Wd} (h : Below A.heap.size A B) : StepG n0 Ow F A B :=
  ⟨h.os, h.tape, h.output, h.size, fun k hk _ => h.block k hk⟩
theorem StepG.trans {n0 : Nat} {Ow F : Nat → Prop} {A B C : Wd} (h : StepG n0 Ow F A B) (k : StepG n0 Ow F B C) : StepG n0 Ow F A C :=
  ⟨k.os.trans h.os, k.tape.trans h.tape, k.output.trans h.output, UT h.size k.size, fun i hi hf => (k.same i (KF hi h.size) hf).trans (h.same i hi hf)⟩
theorem StepG.put {n0 : Nat} {Ow F : Nat → Prop} {A : Wd} {l : Nat} (h : n0 ≤ l) (hf : ¬ F l) (o : Obj) : StepG n0 Ow F A (A.putObj l o) :=
  ⟨rfl, rfl, rfl, by simp [World.putObj], fun k _ hk => zj (fun e => by subst e; rcases hk with hk | hk; omega; exact hf hk)⟩
theorem StepG.grown {n0 : Nat} {Ow F : Nat → Prop} {A B : Wd} {l : Nat} (h : A.grownBy B (some l)) (hl : n0 ≤ l ∨ Ow l) (hf : ¬ F l) : StepG n0 Ow F A B :=
  ⟨h.os, h.tape, h.output, h.size, fun k hk hf2 => h.block k hk (fun e => by
    have e : k = l := by simpa using e
    subst e
    rcases hf2 with h2 | h2
    · rcases hl with hl | hl
      · omega
      · exact h2.2 hl
    · exact hf h2)⟩
structure JG {σ : Type} (n0 : Nat) (Ow : Nat → Prop) (J : σ → (Nat → Prop) → Wd → Prop) : Prop where
  step : ∀ s F A B, J s F A → StepG n0 Ow F A B → J s F B
  lt : ∀ s F A k, J s F A → F k → k < A.heap.size ∧ ¬ Ow k
theorem JG.mono {σ : Type} {n0 n1 : Nat} {Ow : Nat → Prop} {J : σ → (Nat → Prop) → Wd → Prop} (h : JG n0 Ow J) (hn : n0 ≤ n1) : JG n1 Ow J :=
  ⟨fun s F A B hj hs => h.step s F A B hj (hs.mono hn), h.lt⟩
structure KeepsG (F F' : Nat → Prop) (A B : Wd) : Prop where
  os : B.os = A.os
  tape : B.tape = A.tape
  output : B.output = A.output
  size : A.heap.size ≤ B.heap.size
  same : ∀ k, k < A.heap.size → ¬ F k → B.heap[k]? = A.heap[k]?
  fp : ∀ k, F' k → F k ∨ A.heap.size ≤ k
theorem KeepsG.refl (F : Nat → Prop) (A : Wd) : KeepsG F F A A := ⟨rfl, rfl, rfl, Gc _, fun _ _ _ => rfl, fun _ h => .inl h⟩
theorem KeepsG.trans {F F' F'' : Nat → Prop} {A B C : Wd} (h : KeepsG F F' A B) (k : KeepsG F' F'' B C) : KeepsG F F'' A C :=
  ⟨k.os.trans h.os, k.tape.trans h.tape, k.output.trans h.output, UT h.size k.size,
   fun i hi hf => (k.same i (KF hi h.size) (fun hb => by rcases h.fp i hb with h1 | h1; exact hf h1; omega)).trans (h.same i hi hf),
   fun i hi => by
     rcases k.fp i hi with h1 | h1
     · exact h.fp i h1
     · exact .inr (UT h.size h1)⟩
theorem KeepsG.weak {F F' G : Nat → Prop} {A B : Wd} (h : KeepsG F F' A B) (hF : ∀ k, F k → G k) : KeepsG G F' A B :=
  ⟨h.os, h.tape, h.output, h.size, fun k hk hg => h.same k hk fun hf => hg (hF k hf), fun k hk => (h.fp k hk).imp (hF k) id⟩
theorem KeepsG.below {F F' : Nat → Prop} {A B : Wd} (h : Below A.heap.size A B) (hf : ∀ k, F' k → F k ∨ A.heap.size ≤ k) : KeepsG F F' A B :=
  ⟨h.os, h.tape, h.output, h.size, fun k hk _ => h.block k hk, hf⟩
theorem KeepsG.grown {F : Nat → Prop} {A B : Wd} {g : Nat} (h : A.grownBy B (some g)) (hg : F g) : KeepsG F F A B :=
  ⟨h.os, h.tape, h.output, h.size, fun k hk hf => h.block k hk (fun e => hf (by cases e; exact hg)), fun k h => .inl h⟩
def ziH {α : Type} (P : Program) (g : Nat) (lb : List Value) (xs : List α) (W0 : Wd) (Rd Ow : Nat → Prop) (St : List α → List Value → Wd → Prop) : Prop :=
  ∀ (l : Nat) (F0 : Nat → Prop) (J Jx : List α → (Nat → Prop) → Wd → Prop) (W : Wd), W0.heap.size ≤ W.heap.size → (∀ k, Rd k ∨ Ow k → W.heap[k]? = W0.heap[k]?) → (∀ k, Rd k → ¬ F0 k) →
    JG W.heap.size Ow J → JG W.heap.size Ow Jx →
    (∀ pre x vs F W1, J pre F W1 → St (pre ++ [x]) vs W1 → (pre ++ [x]) <+: xs → YieldR P l vs.toArray W1 fun v W2 =>
      (v = .bool true ∧ ∃ F', J (pre ++ [x]) F' W2 ∧ KeepsG F F' W1 W2) ∨ (v = .bool false ∧ ∃ F', Jx (pre ++ [x]) F' W2)) →
    J [] F0 W →
    Calls P g (.func (.yield l) #[] #[] :: lb).toArray W fun e W' => (∃ v, e = .returned v) ∧ ((∃ F', J xs F' W') ∨ ∃ pre F', pre <+: xs ∧ Jx pre F' W')
def zsE {α : Type} (F : Nat → Prop) (J : List α → (Nat → Prop) → Wd → Prop) (Jx : Exit → List α → (Nat → Prop) → Wd → Prop) (xs : List α) (A : Wd) : Exit → Env → Wd → Prop
  | .normal, _, B => ∃ F', J xs F' B ∧ KeepsG F F' A B
  | .ret, _, B => ∃ F', Jx .ret xs F' B ∧ KeepsG F F' A B
  | .exit id, _, B => ∃ F', Jx (.exit id) xs F' B ∧ KeepsG F F' A B
  | _, _, _ => False
theorem zc4 {α : Type} {S : Sig} (hS : SigOk S) (hr : S.r = none) {f : Operand} {ps : Array Tmp} {assign body : Code} {E : Env} {w : Wd} {Q : Exit → Env → Wd → Prop}
    {gf : Nat} {lb : Array Value} (hg : opd E f = some (.func (.func gf) #[] lb)) (hok : jK S gf = true)
    {xs : List α} {W0 : Wd} {Rd Ow : Nat → Prop} {St : List α → List Value → Wd → Prop} (hI : ziH S.P gf lb.toList xs W0 Rd Ow St) (hW0 : W0.heap.size ≤ w.heap.size) (hRd : ∀ k, Rd k ∨ Ow k → k < W0.heap.size ∧ w.heap[k]? = W0.heap[k]?)
    (hps : ∀ pre vs W, St pre vs W → vs.length = ps.size) (hpn : ∀ p ∈ ps.toList, p < S.n)
    (F0 : Nat → Prop) (J : List α → (Nat → Prop) → Wd → Prop) (Jx : Exit → List α → (Nat → Prop) → Wd → Prop) (hRF : ∀ k, Rd k → ¬ F0 k)
    (hJ : JG w.heap.size Ow J) (hJx : ∀ ex, JG w.heap.size Ow (Jx ex)) (h0 : J [] F0 w)
    (hround : ∀ (l : Nat) (pre : List α) (x : α) (vs : List Value) (F : Nat → Prop) (W : Wd), w.heap.size ≤ l → (pre ++ [x]) <+: xs → J pre F W → St (pre ++ [x]) vs W → ¬ F l → (∃ lo, W.heap[l]? = some (.loop lo)) →
      wpE (sr S l) assign ⟨setL ps.toList vs E.vs, []⟩ W fun ex E1 W1 => ex = .normal ∧ ∃ F1, KeepsG F F1 W W1 ∧ J pre F1 W1 ∧
        ∀ o W2, W2 = W1.putObj l o → J pre F1 W2 → wpE (sr S l) body E1 W2 (zsE F1 J Jx (pre ++ [x]) W2))
    (hdone : ∀ D F W, w.heap.size ≤ D → ¬ F D → J xs F W → W.heap[D]? = some (.deferred (some [])) → Q .normal ⟨E.vs, { target := .collected D, args := #[] } :: E.ds⟩ W)
    (hstop : ∀ D ex pre F W, w.heap.size ≤ D → ¬ F D → pre <+: xs → Jx ex pre F W → W.heap[D]? = some (.deferred (some [])) → Q ex ⟨E.vs, { target := .collected D, args := #[] } :: E.ds⟩ W) :
    zju S f ps assign body E w Q := by
  intro a ha
  have hcall : ∀ args w, (callFunc gf args).run S.P w = .ok (.enter gf args) w := by
    simp only [jK, Qi, Gj, Gk] at hok
    exact fun args w => hS.call gf hok.1.1 hok.1.2 hok.2 args w
  refine wpIn_rangeFunc ?_
  intro fn hfn
  have hro : (FR S.r).round = none := hr
  rw [hro]
  obtain ⟨rec, hrec⟩ : ∃ rec : LoopState → Option Code → Loop, rec = fun st pe => { state := st, pending := pe, fn, tmps := a.tmps, params := ps, assign, body, defers := w.heap.size } := ⟨_, rfl⟩
  obtain ⟨W1, hW1⟩ : ∃ W1, (w.alloc (.deferred (some []))).alloc (.loop (rec .ready none)) = W1 := ⟨_, rfl⟩
  have hK0 := zA w (.deferred (some []))
  have hK1 : W1.heap[w.heap.size]? = some (.deferred (some [])) := by rw [← hW1]; exact qy _ hK0
  have hL1 : W1.heap[w.heap.size + 1]? = some (.loop (rec .ready none)) := by
    rw [← hW1]; have := zA (w.alloc (.deferred (some []))) (.loop (rec .ready none)); rwa [QG] at this
  have hs1 : W1.heap.size = w.heap.size + 2 := by rw [← hW1]; simp
  have hst1 : Below w.heap.size w W1 := by
    rw [← hW1]; exact ((Gh _ w).alloc (Gc _) _).alloc (by simp) _
  have hJ1 := hJ.step _ _ _ _ h0 (.below hst1)
  have hOl : ∀ k, w.heap.size ≤ k → ¬ Ow k := fun k hk ho => by have := (hRd k (.inr ho)).1; omega
  have hFl : ∀ k, F0 k → k < w.heap.size := fun k hk => (hJ.lt _ _ _ k h0 hk).1
  refine ⟨w.heap.size + 1, [{ target := .collected w.heap.size, args := #[] }], W1, { target := .fn (.func gf) lb, args := #[.func (.yield (w.heap.size + 1)) #[] #[]] }, W1, gf,
    #[.func (.yield (w.heap.size + 1)) #[] #[]] ++ lb, W1, ?_, ?_, fun _ _ => trivial, ?_, fun h => by simp [FR] at h, ?_⟩
  · rw [← hW1, hrec]; exact Kq _ _ _ _ _
  · have hg' := ha.eval hg
    simp only [resolve, hg']
    simp [go_sem]
  · simp [invoke, go_sem, hcall]
  · have hargs : #[Value.func (.yield (w.heap.size + 1)) #[] #[]] ++ lb = (Value.func (.yield (w.heap.size + 1)) #[] #[] :: lb.toList).toArray := by rw [← Qf]; simp
    rw [hargs]
    have book : ∀ {σ : Type} {K : σ → (Nat → Prop) → Wd → Prop} (lo : Loop), JG w.heap.size Ow K → JG W1.heap.size Ow (fun s F W => K s F W ∧ W.heap[w.heap.size + 1]? = some (.loop lo) ∧ W.heap[w.heap.size]? = some (.deferred (some [])) ∧ ¬ F (w.heap.size + 1) ∧ ¬ F w.heap.size) := by
      intro σ K lo hK
      refine ⟨fun s F A B ⟨hk, hl, hd, hf1, hf2⟩ hs => ?_, fun s F A k ⟨hk, _⟩ hf => hK.lt s F A k hk hf⟩
      exact ⟨hK.step s F A B hk (hs.mono (by omega)), (hs.same _ (hlt hl) (.inl ⟨by omega, hOl _ (by omega)⟩)).trans hl, (hs.same _ (hlt hd) (.inl ⟨by omega, hOl _ (by omega)⟩)).trans hd, hf1, hf2⟩
    have hcalls := hI (w.heap.size + 1) F0 (fun pre F W => J pre F W ∧ W.heap[w.heap.size + 1]? = some (.loop (rec .ready none)) ∧ W.heap[w.heap.size]? = some (.deferred (some [])) ∧ ¬ F (w.heap.size + 1) ∧ ¬ F w.heap.size)
      (fun pre F W => ∃ ex c, ((ex = .ret ∧ c = .ret) ∨ ∃ id, ex = .exit id ∧ c = .exit id) ∧ Jx ex pre F W ∧ W.heap[w.heap.size + 1]? = some (.loop (rec .done (some c))) ∧ W.heap[w.heap.size]? = some (.deferred (some [])) ∧ ¬ F (w.heap.size + 1) ∧ ¬ F w.heap.size)
      W1 (by omega) (fun k hk => by
        obtain ⟨h1, h2⟩ := hRd k hk
        rw [← h2]
        exact hst1.block k (by omega)) hRF (book _ hJ)
      ⟨fun s F A B ⟨ex, c, hc, hrest⟩ hs => ⟨ex, c, hc, (book (rec .done (some c)) (hJx ex)).step s F A B hrest hs⟩,
       fun s F A k ⟨ex, c, hc, hrest⟩ hf => (hJx ex).lt s F A k hrest.1 hf⟩ ?_ ⟨hJ1, hL1, hK1, fun h => by have := hFl _ h; omega, fun h => by have := hFl _ h; omega⟩
    · refine zcJ (hcalls.mono ?_)
      rintro e W2 ⟨⟨v, rfl⟩, (⟨F, hj, hl, hk, hf1, hf2⟩ | ⟨pre, F, hpre, ex, c, hc, hj, hl, hk, hf1, hf2⟩)⟩
      · have hj2 := hJ.step _ _ _ _ hj (StepG.put (Ow := Ow) (o := .loop (rec .exhausted none)) (n0 := w.heap.size) (l := w.heap.size + 1) (by omega) hf1)
        refine ⟨none, _, by have := Gg (P := S.P) hl (by rw [hrec]; simp); rw [hrec] at this; exact this, ?_⟩
        rw [hrec] at hj2
        exact ⟨⟨E.vs, { target := .collected w.heap.size, args := #[] } :: E.ds⟩, ⟨ha.size, by simp [ha.defers], ha.val⟩, hdone w.heap.size F _ (Gc _) hf2 hj2 ((zj (by omega)).trans hk)⟩
      · have hj2 := (hJx ex).step _ _ _ _ hj (StepG.put (Ow := Ow) (o := .loop (rec .exhausted (some c))) (n0 := w.heap.size) (l := w.heap.size + 1) (by omega) hf1)
        refine ⟨some c, _, by have := Gg (P := S.P) hl (by rw [hrec]; simp); rw [hrec] at this; exact this, ?_⟩
        rw [hrec] at hj2
        have hq := hstop w.heap.size ex pre F _ (Gc _) hf2 hpre hj2 ((zj (by omega)).trans hk)
        rcases hc with ⟨rfl, rfl⟩ | ⟨id, rfl, rfl⟩
        · exact wpIn_ret ⟨⟨E.vs, { target := .collected w.heap.size, args := #[] } :: E.ds⟩, ⟨ha.size, by simp [ha.defers], ha.val⟩, hq⟩
        · exact wpIn_exit ⟨⟨E.vs, { target := .collected w.heap.size, args := #[] } :: E.ds⟩, ⟨ha.size, by simp [ha.defers], ha.val⟩, hq⟩
    · rintro pre x vs F W ⟨hj, hl, hk, hf1, hf2⟩ hst0 hpre
      have hy := run_yield (P := S.P) (args := vs.toArray) hl (by rw [hrec]; simpa using hps _ _ _ hst0)
      rw [hrec] at hy
      refine ⟨fn, _, assign, body, hy, zbO (r := none) (n := NN) (roundIn_of_wpIn (F := FR none) trivial ?_)⟩
      have hag : Agrees (sr S (w.heap.size + 1)) { tmps := (ps.zip vs.toArray).foldl (fun t (p, v) => t.setIfInBounds p v) a.tmps, defers := [] } ⟨setL ps.toList vs E.vs, []⟩ := by
        have h1 : Agrees (sr S (w.heap.size + 1)) { a with defers := [] } ⟨E.vs, []⟩ := ⟨ha.size, rfl, ha.val⟩
        have h2 := zbM ps.toList vs _ _ h1 hpn
        have e : (ps.zip vs.toArray).foldl (fun t (p, v) => t.setIfInBounds p v) a.tmps = (ps.toList.zip vs).foldl (fun t (p, v) => t.setIfInBounds p v) a.tmps := by
          rw [← Kr]; simp
        rw [e]; exact h2
      have hw := qE (zh1 hS _) assign _ _ W _ hag (hround (w.heap.size + 1) pre x vs F W (by omega) hpre hj hst0 hf1 ⟨_, hl⟩)
      refine Gn hw ?_
      rintro ex a1 Wa ⟨E1, hag1, rfl, F1, hk1, hj1, hbody⟩
      have hla := (hk1.same _ (hlt hl) hf1).trans hl
      have hka := (hk1.same _ (hlt hk) hf2).trans hk
      have hfa1 : ¬ F1 (w.heap.size + 1) := fun h => by rcases hk1.fp _ h with h | h; exact hf1 h; have := hlt hl; omega
      have hfa2 : ¬ F1 w.heap.size := fun h => by rcases hk1.fp _ h with h | h; exact hf2 h; have := hlt hk; omega
      refine ⟨_, run_beginRound hla (by rw [hrec]), ?_⟩
      have hst : StepG w.heap.size Ow F1 Wa (Wa.putObj (w.heap.size + 1) (.loop { rec .ready none with state := .busy })) := .put (by omega) hfa1 _
      have hj2 := hJ.step _ _ _ _ hj1 hst
      have hw2 := qE (zh1 hS _) body _ _ _ _ hag1 (hbody _ _ rfl hj2)
      refine Gn hw2 ?_
      have hl2 : (Wa.putObj (w.heap.size + 1) (.loop { rec .ready none with state := .busy })).heap[w.heap.size + 1]? = some (.loop { rec .ready none with state := .busy }) := za9 hla
      have hk2 : (Wa.putObj (w.heap.size + 1) (.loop { rec .ready none with state := .busy })).heap[w.heap.size]? = some (.deferred (some [])) := (zj (by omega)).trans hka
      have fin : ∀ (jump : Option Code) (F3 : Nat → Prop) (W3 : Wd), KeepsG F1 F3 (Wa.putObj (w.heap.size + 1) (.loop { rec .ready none with state := .busy })) W3 →
          (Instr.endRound (w.heap.size + 1) jump).run S.P W3 = .ok (.bool jump.isNone) (W3.putObj (w.heap.size + 1) (.loop (rec (if jump.isNone then .ready else .done) jump))) ∧
          (W3.putObj (w.heap.size + 1) (.loop (rec (if jump.isNone then .ready else .done) jump))).heap[w.heap.size + 1]? = some (.loop (rec (if jump.isNone then .ready else .done) jump)) ∧
          (W3.putObj (w.heap.size + 1) (.loop (rec (if jump.isNone then .ready else .done) jump))).heap[w.heap.size]? = some (.deferred (some [])) ∧
          StepG w.heap.size Ow F3 W3 (W3.putObj (w.heap.size + 1) (.loop (rec (if jump.isNone then .ready else .done) jump))) ∧ ¬ F3 (w.heap.size + 1) ∧ ¬ F3 w.heap.size := fun jump F3 W3 hk3 => by
        have hl3 := (hk3.same _ (hlt hl2) hfa1).trans hl2
        have hd3 := (hk3.same _ (hlt hk2) hfa2).trans hk2
        have hf31 : ¬ F3 (w.heap.size + 1) := fun h => by rcases hk3.fp _ h with h | h; exact hfa1 h; have := hlt hl2; omega
        have hf32 : ¬ F3 w.heap.size := fun h => by rcases hk3.fp _ h with h | h; exact hfa2 h; have := hlt hk2; omega
        have := run_endRound (P := S.P) jump hl3
        rw [hrec] at this ⊢
        exact ⟨this, za9 hl3, (zj (by omega)).trans hd3, .put (by omega) hf31 _, hf31, hf32⟩
      rintro e a3 W3 ⟨E3, _, hq⟩
      cases e with
      | normal =>
        obtain ⟨F3, hj3, hk3⟩ := hq
        obtain ⟨hr3, hl4, hk4, hs3, hf31, hf32⟩ := fin none F3 W3 hk3
        have hj4 := hJ.step _ _ _ _ hj3 hs3
        refine ⟨_, _, hr3, .inl ⟨rfl, F3, ⟨hj4, hl4, hk4, hf31, hf32⟩, ?_⟩⟩
        refine ⟨hs3.os.trans (hk3.os.trans hk1.os), hs3.tape.trans (hk3.tape.trans hk1.tape), hs3.output.trans (hk3.output.trans hk1.output), ?_, fun k hk5 hf5 => ?_, fun k hk5 => ?_⟩
        · have h1 := hk1.size; have h2 := hst.size; have h3 := hk3.size; have h4 := hs3.size; omega
        · by_cases hkl : k = w.heap.size + 1
          · subst hkl; rw [hl4, hl]; rfl
          · have h1 : ¬ F1 k := fun h => by rcases hk1.fp _ h with h | h; exact hf5 h; omega
            have h2 := hk1.size; have h3 := hst.size
            rw [zj hkl, hk3.same k (by omega) h1, zj hkl]
            exact hk1.same k hk5 hf5
        · rcases hk3.fp _ hk5 with h2 | h2
          · exact hk1.fp _ h2
          · have h3 := hk1.size; have h4 := hst.size; exact .inr (by omega)
      | ret =>
        obtain ⟨F3, hj3, hk3⟩ := hq
        obtain ⟨hr3, hl4, hk4, hs3, hf31, hf32⟩ := fin (some .ret) F3 W3 hk3
        have hj4 := (hJx .ret).step _ _ _ _ hj3 hs3
        exact ⟨_, _, hr3, .inr ⟨rfl, F3, .ret, .ret, .inl ⟨rfl, rfl⟩, hj4, hl4, hk4, hf31, hf32⟩⟩
      | exit id =>
        obtain ⟨F3, hj3, hk3⟩ := hq
        obtain ⟨hr3, hl4, hk4, hs3, hf31, hf32⟩ := fin (some (.exit id)) F3 W3 hk3
        have hj4 := (hJx (.exit id)).step _ _ _ _ hj3 hs3
        exact ⟨_, _, hr3, .inr ⟨rfl, F3, .exit id, .exit id, .inr ⟨id, rfl, rfl⟩, hj4, hl4, hk4, hf31, hf32⟩⟩
      | goto t => exact hq.elim
      | panic ch => exact hq.elim
      | outgrown => exact hq.elim
end Go.Vc
namespace Go.Proofs.YtnadlhpkpnfmbaaGreatDoor
open Go.Vc Go.RowKit Go.Sei
def s64 (n:Nat):Value := .int .u64 (n:Nat)
def s32 (n:Nat):Value := .int .u32 (n:Nat)
theorem bvN {a:Nat} (h:a<2^64):(BitVec.ofInt 64 (a:Int)).toNat=a:=by
 rw [Ks];have:((a:Int)%((2^64:Nat):Int))=(a:Int):=Int.emod_eq_of_lt (by omega) (by omega);rw [this];rfl
theorem w64 {a:Int} (h:0<=a/\a<=18446744073709551615):IntKind.u64.wrap a=a:=zei h
theorem jV {a b:Nat} (ha:a<2^64) (hb:b<2^64):IntKind.u64.wrap ((BitVec.ofInt IntKind.u64.bits (a:Int)&&&BitVec.ofInt IntKind.u64.bits (b:Int)).toNat:Int)=((a&&&b:Nat):Int):=by
 show IntKind.u64.wrap ((BitVec.ofInt 64 (a:Int)&&&BitVec.ofInt 64 (b:Int)).toNat:Int)=_;rw [Qh,bvN ha,bvN hb];have:a&&&b<=a:=Ua;exact w64 (by omega)
theorem zao {a b:Nat} (ha:a<2^64) (hb:b<2^64):IntKind.u64.wrap ((BitVec.ofInt IntKind.u64.bits (a:Int)|||BitVec.ofInt IntKind.u64.bits (b:Int)).toNat:Int)=((a|||b:Nat):Int):=by
 show IntKind.u64.wrap ((BitVec.ofInt 64 (a:Int)|||BitVec.ofInt 64 (b:Int)).toNat:Int)=_;rw [BitVec.toNat_or,bvN ha,bvN hb];have:a|||b<2^64:=KY ha hb;exact w64 (by omega)
def jx (a b:Nat):Nat:=a&&&(18446744073709551615-b)
theorem zcd {a b:Nat} (ha:a<2^64) (hb:b<2^64):IntKind.u64.wrap ((BitVec.ofInt IntKind.u64.bits (a:Int) &&& ~~~ BitVec.ofInt IntKind.u64.bits (b:Int)).toNat:Int)=((jx a b:Nat):Int):=by
 show IntKind.u64.wrap ((BitVec.ofInt 64 (a:Int) &&& ~~~ BitVec.ofInt 64 (b:Int)).toNat:Int)=_;rw [Qh,BitVec.toNat_not,bvN ha,bvN hb];have e:2^64-1-b=18446744073709551615-b:=by omega
 rw [e];have:a&&&(18446744073709551615-b)<=a:=Ua;unfold jx;exact w64 (by omega)
theorem zg4 {a b:Nat} (ha:a<2^64):jx a b<2^64:=by
 have:jx a b<=a:=Ua;omega
theorem zfr {a b i:Nat} (hb:b<2^64) (hi:i<64):(jx a b).testBit i=(a.testBit i && !b.testBit i):=by
 unfold jx;rw [Ud,show 18446744073709551615-b=2^64-(b+1) by omega,Nat.testBit_two_pow_sub_succ hb];simp [hi]
theorem jU {e:Nat} (he:e<64):IntKind.u64.wrap ((1:Int)*2^(min (Int.toNat (e:Int)) IntKind.u64.bits))=((2^e:Nat):Int):=by
 have h64:2^e<2^64:=Kc (by decide) he;have e1:min (Int.toNat (e:Int)) IntKind.u64.bits=e:=by
  rw [KL];show min e 64=_;omega
 rw [e1,Int.one_mul];have e2:(2:Int)^e=((2^e:Nat):Int):=by simp
 rw [e2];exact w64 ⟨Int.natCast_nonneg _,Int.ofNat_le.2 (show 2^e<=18446744073709551615 by omega)⟩
theorem zf3 {a k:Nat} (hk:k<=64):((a:Nat):Int).fdiv (2^(min (Int.toNat (k:Int)) IntKind.u64.bits))=((a/2^k:Nat):Int):=by
 rw [KL,show min k IntKind.u64.bits=k from Uc hk,Int.fdiv_eq_ediv_of_nonneg _ (Int.pow_nonneg (by decide)),Int.natCast_ediv,Int.natCast_pow];rfl
theorem zjq {a k:Nat}:(a/2^k)&&&1=if a.testBit k then 1 else 0:=by
 rw [KD,Nat.testBit_eq_decide_div_mod_eq];by_cases h:a/2^k%2=1
 ·rw [h];rfl
 ·rw [Gw (by simpa using h)];omega
theorem zZ {k:Nat} (h:k<64):2^k<2^64:=Kc (by decide) h
theorem w32 {a:Int} (h:0<=a/\a<=4294967295):IntKind.u32.wrap a=a:=by
 unfold IntKind.wrap;simp only [IntKind.bits,IntKind.signed,Ul,Kt,Gr];omega
theorem zsD {a:Nat} (h:a<2^32):(BitVec.ofInt 32 (a:Int)).toNat=a:=by
 rw [Ks];have:((a:Int)%((2^32:Nat):Int))=(a:Int):=Int.emod_eq_of_lt (by omega) (by omega);rw [this];rfl
theorem zmp {a b:Nat} (ha:a<2^32) (hb:b<2^32):IntKind.u32.wrap ((BitVec.ofInt IntKind.u32.bits (a:Int)&&&BitVec.ofInt IntKind.u32.bits (b:Int)).toNat:Int)=((a&&&b:Nat):Int):=by
 show IntKind.u32.wrap ((BitVec.ofInt 32 (a:Int)&&&BitVec.ofInt 32 (b:Int)).toNat:Int)=_;rw [Qh,zsD ha,zsD hb];have:a&&&b<=a:=Ua;exact w32 (by omega)
theorem zqK {e:Nat} (he:e<32):IntKind.u32.wrap ((1:Int)*2^(min (Int.toNat (e:Int)) IntKind.u32.bits))=((2^e:Nat):Int):=by
 have h64:2^e<2^32:=Kc (by decide) he;have e1:min (Int.toNat (e:Int)) IntKind.u32.bits=e:=by
  rw [KL];show min e 32=_;omega
 rw [e1,Int.one_mul];have e2:(2:Int)^e=((2^e:Nat):Int):=by simp
 rw [e2];exact w32 ⟨Int.natCast_nonneg _,Int.ofNat_le.2 (show 2^e<=4294967295 by omega)⟩
def zhU:List UInt8:=[0,1,56,2,57,49,28,3,61,58,42,50,38,29,17,4,62,47,59,36,45,43,51,22,53,39,33,30,24,18,12,5,63,55,48,27,60,41,37,16,46,35,44,21,52,32,23,11,54,26,40,15,34,20,31,10,25,14,19,9,13,8,7,6]
def zhV:List UInt8:=[0,1,28,2,29,14,24,3,30,22,20,15,25,17,4,8,31,27,13,23,21,19,16,7,26,12,18,6,11,5,10,9]
def Tz64M (X:Wd):Prop:=zo X ⟨4,0,none⟩ (zhU.map u8)
def Tz32M (X:Wd):Prop:=zo X ⟨9,0,none⟩ (zhV.map u8)
theorem Tz64M.below {w w2:Wd} (h:Tz64M w) (hb:Bw w w2):Tz64M w2:=zw hb h
theorem Tz32M.below {w w2:Wd} (h:Tz32M w) (hb:Bw w w2):Tz32M w2:=zw hb h
theorem zoz {k:Nat} (hk:k<64):2^k*285870213051353865%18446744073709551616/2^58<64/\zhU[2^k*285870213051353865%18446744073709551616/2^58]?=some (UInt8.ofNat k):=by
 have h:(List.range 64).all (fun k=>decide (2^k*285870213051353865%18446744073709551616/2^58<64)&&decide (zhU[2^k*285870213051353865%18446744073709551616/2^58]?=some (UInt8.ofNat k)))=true:=by kernel_rfl
 have h1:=Qk.1 h k (Uq.2 hk);rw [bAT,dE,dE] at h1;exact h1
theorem zoB {k:Nat} (hk:k<32):2^k*125613361%4294967296/2^27<32/\zhV[2^k*125613361%4294967296/2^27]?=some (UInt8.ofNat k):=by
 have h:(List.range 32).all (fun k=>decide (2^k*125613361%4294967296/2^27<32)&&decide (zhV[2^k*125613361%4294967296/2^27]?=some (UInt8.ofNat k)))=true:=by kernel_rfl
 have h1:=Qk.1 h k (Uq.2 hk);rw [bAT,dE,dE] at h1;exact h1
theorem zoA {s:Nat} {w:Wd} (hT:Tz64M w) (h0:s≠0) (h:s<2^64):Calls PG 152 #[s64 s] w fun e w'=>e = .returned (i64 (ctz s:Nat))/\w=w':=by
 refine zD 14 [s64 s] Tryz.func152 ?_;obtain⟨_,_,h2,h3⟩:=ju h0 h;have hp:=zZ h3;obtain⟨t1,t2⟩:=zoz h3;refine brN (Uj (fun e=>h0 (by omega))) ⟨((2^64-s:Nat):Int),by unfold IntKind.wrap;simp only [IntKind.bits,IntKind.signed,Ul,Kt,Gr];omega,?_⟩;refine⟨((2^ctz s:Nat):Int),(jV (a:=s) (b:=2^64-s) h (by omega)).trans (by rw [h2]),?_⟩;refine⟨((2^ctz s*285870213051353865%18446744073709551616:Nat):Int),by
  have e:(((2^ctz s:Nat):Int)*285870213051353865)=((2^ctz s*285870213051353865:Nat):Int):=by rw [QK];rfl
  rw [e];generalize 2^ctz s*285870213051353865=n;unfold IntKind.wrap;simp only [IntKind.bits,IntKind.signed,Ul,Kt,Gr];omega,?_⟩
 refine⟨by decide,_,zf3 (k:=58) (by decide),_,rfl,t1,?_⟩;have hv:(zhU.map u8)[2^ctz s*285870213051353865%18446744073709551616/2^58]?=some (u8 (UInt8.ofNat (ctz s))):=by rw [KU,t2];rfl
 refine⟨u8 (UInt8.ofNat (ctz s)),by rw [Gd];exact zc hT hv,?_⟩;have e:(UInt8.ofNat (ctz s)).toNat=ctz s:=by rw [KH];omega
 exact⟨(ctz s:Int),by rw [e];exact zi (by omega),rfl,rfl⟩
theorem zhr {s:Nat} {w:Wd}:Calls PG 103 #[s64 s] w fun e w'=>e = .returned (.func (.func 151) #[] #[.pointer (some ⟨w.heap.size,0,none⟩)])/\w'=w.alloc (.cells #[s64 s] 27):=by
 refine zD 4 [s64 s] Tryz.func103 ?_;exact⟨rfl,rfl⟩
def StN (pre:List Nat) (vs:List Value) (W:Wd):Prop:=∃ c,pre.getLast?=some c/\vs=[i64 (c:Nat)]
theorem j7 {X Y:Wd} (h:Tz64M X) (hs:Y.heap[4]?=X.heap[4]?):Tz64M Y:=zJ hs h
theorem zaC {X:Wd} (h:Tz64M X):4<X.heap.size:=Jy X _ (zef h)
def RdE (bx:Nat) (k:Nat):Prop:=k=bx\/k=4
theorem zkJ {bx s:Nat} {W0:Wd} (hbx:W0.heap[bx]?=some (.cells #[s64 s] 27 (0,0))) (hs:s<2^64) (hT:Tz64M W0) :
  ziH PG 151 [At0 bx] (els s) W0 (RdE bx) (fun _=>False) StN:=by
 intro yl F0 J Jx W hsz hrd hrf hJ hJx hy h0;have hbW:W.heap[bx]?=some (.cells #[s64 s] 27 (0,0)):=(hrd bx (.inl (.inl rfl))).trans hbx;have hTW:Tz64M W:=j7 hT (hrd _ (.inl (.inr rfl)));have hgf:¬ F0 4:=hrf _ (.inr rfl);refine zD 16 [.func (.yield yl) #[] #[],At0 bx] Tryz.func151 ?_;refine⟨_,zc (za hbW) (i:=0) rfl,?_⟩;refine⟨List Nat×Nat,fun q=>⟨[(0,.func (.yield yl) #[] #[]),(3,s64 q.2)],[]⟩,
  fun q X=>∃ F,J q.1 F X/\els s=q.1++els q.2/\q.2<2^64/\Tz64M X/\¬ F 4,fun q=>q.2,([],s),
  (cvE rfl rfl),⟨F0,h0,rfl,hs,hTW,hgf⟩,?_⟩
 clear hbW hTW hgf h0;rintro⟨pre,r⟩ X ⟨F,hI,hxs,hr,hTX,hgX⟩;dsimp only at hI hxs hr ⊢;refine biE (fun hc=>?_) fun hc=>?_
 ·have hc:(!decide ((r:Int)=0))=true:=hc;have hc:¬ (r:Int)=0:=by simpa using hc
  have hr0:r≠0:=by omega
  obtain⟨e1,e2,_,_⟩:=ju hr0 hr;refine cmo (zoA hTX hr0 hr) ?_;rintro e _ ⟨rfl,rfl⟩;have hpre:(pre++[ctz r]) <+: els s:=⟨els (qB r),by rw [hxs,e1];simp⟩;refine YieldR.mono (hy pre (ctz r) [i64 (ctz r:Nat)] F X hI ⟨ctz r,by simp,rfl⟩ hpre) ?_;rintro v V (⟨rfl,F',hJV,hKV⟩ | ⟨rfl,F',hJV⟩)
  ·refine brF ?_;have hXs:=hKV.size;have hgl:=zaC hTX;have hTV:Tz64M V:=j7 hTX (hKV.same _ hgl hgX);have hgV:¬ F' 4:=fun h=>by
    rcases hKV.fp _ h with h3 | h3
    ·exact hgX h3
    ·omega
   exact⟨((r-1:Nat):Int),(zei (a:=(r:Int)-1) (by omega)).trans (by omega),((qB r:Nat):Int),jV (a:=r) (b:=r-1) hr (by omega),(pre++[ctz r],qB r),(cvE rfl rfl),⟨F',hJV,by rw [hxs,e1];simp,by show qB r<_;omega,hTV,hgV⟩,e2⟩
  ·exact brT ⟨⟨_,rfl⟩,.inr ⟨_,F',hpre,hJV⟩⟩
 ·have hc:(!decide ((r:Int)=0))=false:=hc;have hc:(r:Int)=0:=by simpa using hc
  obtain rfl:r=0:=by omega
  refine⟨⟨_,rfl⟩,.inl ?_⟩;rw [hxs,zbF,QM];exact⟨F,hI⟩
theorem joG {σ:Type} {n0:Nat} {F:Nat->Prop} {J:σ->Wd->Prop} (hF:∀ k,F k->k<n0) (hn:∀ s A,J s A->n0<=A.heap.size) (hJ:∀ s A B,J s A->Below n0 A B->J s B) :
  JG n0 (fun _=>False) (fun s F' W=>F'=F/\J s W):=by
 refine⟨fun s F' A B ⟨e,h⟩ hs=>⟨e,hJ s A B h ⟨hs.os,hs.tape,hs.output,hs.size,fun k hk=>hs.same k (nL hk (hn s A h)) (.inl ⟨hk,fun h=>h⟩)⟩⟩,fun s F' A k ⟨e,h⟩ hk=>?_⟩;subst e;exact⟨nL (hF k hk) (hn s A h),fun h=>h⟩
theorem zac {n:Nat} {A B:Wd} (h:Below n A B) {g:Nat} {o:Obj} (hg:g<n) (f:A.heap[g]?=some o):B.heap[g]?=some o:=(h.block g hg).trans f
theorem zaM {s:Nat} {w:Wd} (hs:s<2^64) (hT:Tz64M w):Calls PG 59 #[s64 s] w fun e w' =>
  e = .returned (.tuple #[i64 ((els s).headD 0:Nat),.bool (!(els s).isEmpty)])/\Bw w w':=by
 refine z6 9 [s64 s] (.c .p .p) Tryz.func59 ?_;obtain⟨L,hL⟩:=nm (w.heap.size);refine⟨Unit,fun _=>⟨[(0,s64 s),(2,At0 L),(3,At0 (L+1))],[]⟩,fun _ X=>X.heap[L]?=some (.cells #[i64 0] 3 (0,0))/\X.heap[L+1]?=some (.cells #[.bool false] 4 (0,0))/\X.heap.size=L+2/\Bw w X,?_,?_⟩
 ·have sz:=wz w (.cells #[i64 0] 3);refine⟨(),⟨.cons rfl (.cons (by rw [hL];rfl) (.cons (by rw [hL,<- sz];rfl) .nil)),rfl⟩,?_,?_,?_,?_⟩
  ·rw [hL];exact qy _ (zA w _)
  ·have:=zA (w.alloc (.cells #[i64 0] 3)) (.cells #[.bool false] 4);rw [sz,<- hL] at this;exact this
  ·have:=wz (w.alloc (.cells #[i64 0] 3)) (.cells #[.bool false] 4);rw [sz,<- hL] at this;exact this
  ·exact ((zba w _)).alloc (by simp) _
 rintro _ X ⟨f1,f2,sX,hbX⟩;refine cmo zhr ?_;rintro e W ⟨rfl,hW⟩;have hbW:Bw X W:=by rw [hW];exact (zba _ _)
 have fb:W.heap[X.heap.size]?=some (.cells #[s64 s] 27 (0,0)):=by rw [hW];exact zA X _
 have sW:W.heap.size=L+3:=by rw [hW,wz,sX]
 have g1:=zb hbW f1;have g2:=zb hbW f2;have hbw:Bw w W:=zst hbX hbW;have hTW:=hT.below hbw;clear hW;refine zc4 (zbi _) rfl (lb := #[.pointer (some ⟨X.heap.size,0,none⟩)]) rfl rfl (zkJ fb hs hTW) (Gc _) (fun k hk=>⟨by rcases hk with (rfl | rfl) | h;exact hlt fb;exact zaC hTW;exact h.elim,rfl⟩) (fun pre vs W ⟨c,_,h⟩=>by rw [h];rfl) (by decide)
  (fun k=>k=L\/k=L+1) (fun pre F Y=>F=(fun k=>k=L\/k=L+1)/\pre=[]/\W.heap.size<=Y.heap.size/\Y.heap[L]?=some (.cells #[i64 0] 3 (0,0))/\Y.heap[L+1]?=some (.cells #[.bool false] 4 (0,0))/\Bw w Y)
  (fun ex pre F Y=>F=(fun k=>k=L\/k=L+1)/\ex = .ret/\W.heap.size<=Y.heap.size/\(∃ c,pre=[c]/\Y.heap[L]?=some (.cells #[i64 (c:Nat)] 3 (0,0)))/\Y.heap[L+1]?=some (.cells #[.bool true] 4 (0,0))/\Bw w Y)
  (fun k hk h=>by have:=zaC hT;rcases hk with rfl | rfl <;> omega)
  (joG (F:=fun k=>k=L\/k=L+1) (J:=fun (pre:List Nat) Y=>pre=[]/\W.heap.size<=Y.heap.size/\Y.heap[L]?=some (.cells #[i64 0] 3 (0,0))/\Y.heap[L+1]?=some (.cells #[.bool false] 4 (0,0))/\Bw w Y) (fun k h=>by omega) (fun s A h=>h.2.1) (fun pre A B ⟨h0,h1,h2,h3,h4⟩ hb=>⟨h0,UT h1 hb.size,zac hb (by omega) h2,zac hb (by omega) h3,h4.trans (hb.mono (by omega))⟩))
  (fun ex=>joG (F:=fun k=>k=L\/k=L+1) (J:=fun (pre:List Nat) Y=>ex = .ret/\W.heap.size<=Y.heap.size/\(∃ c,pre=[c]/\Y.heap[L]?=some (.cells #[i64 (c:Nat)] 3 (0,0)))/\Y.heap[L+1]?=some (.cells #[.bool true] 4 (0,0))/\Bw w Y) (fun k h=>by omega) (fun s A h=>h.2.1) (fun pre A B ⟨h0,h1,⟨c,hc,h2⟩,h3,h4⟩ hb=>⟨h0,UT h1 hb.size,⟨c,hc,zac hb (by omega) h2⟩,zac hb (by omega) h3,h4.trans (hb.mono (by omega))⟩))
  ⟨rfl,rfl,Gc _,g1,g2,hbw⟩ ?_ ?_ ?_
 ·rintro yl pre x vs F V hyl hpre hJ ⟨x',hx',rfl⟩ hfy ⟨lo,hlo⟩;have hx':x=x':=by simpa using hx'
  subst hx';refine⟨rfl,F,KeepsG.refl _ _,hJ,?_⟩;rintro o V2 hV2 ⟨rfl,rfl,h1,h2,h3,h4⟩;refine zu k3 h2 (o:=0) (v:=i64 (x:Nat)) rfl rfl (by show 0<1;decide) rfl fun Y fY gY sY=>?_;have h3':=(gY.block (L+1) (hlt h3) (by simp)).trans h3;refine zu k4 h3' (o:=0) (v := .bool true) rfl rfl (by show 0<1;decide) rfl fun Z fZ gZ sZ=>?_;have fY':=(gZ.block L (hlt fY) (by simp)).trans fY;refine⟨_,⟨rfl,rfl,by omega,⟨x,rfl,fY'⟩,fZ,(h4.trans (zm gY (by omega) (by omega))).trans (zm gZ (by omega) (by omega))⟩,(KeepsG.grown (F:=fun k=>k=L\/k=L+1) gY (.inl rfl)).trans (KeepsG.grown gZ (.inr rfl))⟩
 ·rintro D F Y hD hfD ⟨_,h0,h1,h2,h3,h4⟩ hdef;refine zu k3 h2 (o:=0) (v:=i64 0) rfl rfl (by show 0<1;decide) rfl fun Y1 fY gY sY=>?_;have h3':=(gY.block (L+1) (hlt h3) (by simp)).trans h3;refine zu k4 h3' (o:=0) (v := .bool false) rfl rfl (by show 0<1;decide) rfl fun Z fZ gZ sZ=>?_;have fY':=(gZ.block L (hlt fY) (by simp)).trans fY;have hdef':=(gZ.block D (by rw [sY];exact hlt hdef) (by simp;omega)).trans ((gY.block D (hlt hdef) (by simp;omega)).trans hdef);refine⟨_,rfl,hdef',i64 0,?_,.bool false,?_,?_,?_⟩
  ·exact zc (za ((zj (by omega)).trans fY')) (i:=0) rfl
  ·exact zc (za ((zj (by omega)).trans fZ)) (i:=0) rfl
  ·rw [h0];rfl
  ·exact qX ((h4.trans (zm gY (by omega) (by omega))).trans (zm gZ (by omega) (by omega))) (by omega) _
 ·rintro D ex pre F Y hD hfD ⟨t,ht⟩ ⟨_,rfl,h1,⟨c,rfl,h2⟩,h3,h4⟩ hdef;refine⟨_,rfl,hdef,i64 (c:Nat),?_,.bool true,?_,?_,?_⟩
  ·exact zc (za ((zj (by omega)).trans h2)) (i:=0) rfl
  ·exact zc (za ((zj (by omega)).trans h3)) (i:=0) rfl
  ·rw [<- ht];rfl
  ·exact qX h4 (by omega) _
def zO:Enc UInt8:=⟨fun b=>[u8 b],1,fun _=>rfl,by decide,fun a u hu=>by
 simp only [UF,Qw,Gs] at hu;subst hu;rfl⟩
def zat (n:Int):Nat:=if n<1 then 0 else if 64<=n then 18446744073709551615 else 2^n.toNat-1
theorem jY (n:Int):zat n<2^64:=by
 unfold zat
 split
 ·decide
 split
 ·decide
 ·have:=zZ (k:=n.toNat) (by omega);omega
theorem zhG {n:Int} {w:Wd}:Calls PG 63 #[i64 n] w fun e w'=>e = .returned (s64 (zat n))/\w=w':=by
 refine zD 10 [i64 n] Tryz.func63 ?_;refine biE (fun h=>?_) fun h=>?_
 ·have h:n<1:=dT h;exact⟨by unfold zat;rw [Gx h];rfl,rfl⟩
 ·have h:¬ n<1:=dF h;refine biE (fun h2=>?_) fun h2=>?_
  ·have h2:64<=n:=dT h2;exact⟨by unfold zat;rw [Gw h,Gx h2];rfl,rfl⟩
  ·have h2:¬ 64<=n:=dF h2;obtain⟨k,rfl⟩:∃ k:Nat,n=k:=⟨n.toNat,by omega⟩;have hk:k<64:=by omega
   have hp:=zZ hk;have hp0:=Ue k;refine⟨by omega,_,jU hk,?_⟩;refine⟨((2^k-1:Nat):Int),?_,?_⟩
   ·generalize 2^k=m at hp hp0 ⊢;exact (w64 (a:=(m:Int)-1) (by omega)).trans (by omega)
   ·exact⟨by unfold zat;rw [Gw h,Gw h2];rfl,rfl⟩
def zC:Enc Nat:=⟨fun n=>[i64 (n:Nat)],1,fun _=>rfl,by decide,fun a u hu=>by
 simp only [UF,Qw,Gs] at hu;subst hu;rfl⟩
theorem zeY (s:Nat):(els s).length<=64:=by
 have:=JL (fun i=>s.testBit i) (List.range 64);rw [KV] at this;exact this
def zaG (to:Nat->Nat):List Value:=(List.range 48).map fun i=>s64 (to i)
def ze (r:RelD):List Value:=i64 r.n::zaG r.to
def zI (to:Nat->Nat):Prop:=∀ i,i<48->to i<2^64
theorem za4 (to:Nat->Nat):(zaG to).length=48:=by unfold zaG;rw [QQ,KV]
theorem zcy (to:Nat->Nat) {i:Nat} (h:i<48):(zaG to)[i]?=some (s64 (to i)):=by
 unfold zaG;rw [KU,Kg h];rfl
theorem zf (r:RelD):(ze r).length=49:=by unfold ze;rw [Qt,za4]
theorem zga (r:RelD) {i:Nat} (h:i<48):(ze r)[1+i]?=some (s64 (r.to i)):=by
 unfold ze;rw [UP,Ju,zcy _ h]
theorem zo3 (to:Nat->Nat) {i:Nat} (h:i<48) (v:Nat):(zaG to).set i (s64 v)=zaG (upd to i v):=by
 apply KQ;intro j;by_cases hj:j<48
 ·rw [zcy _ hj];by_cases e:i=j
  ·subst e;rw [JC (by rw [za4];exact h),qZ]
  ·rw [JV e,zcy _ hj,zaA _ _ (fun h=>e h.symm)]
 ·rw [JJ (by rw [QS,za4];omega),JJ (by rw [za4];omega)]
theorem zex (r:RelD) {i:Nat} (h:i<48) (v:Nat):(ze r).set (1+i) (s64 v)=ze ⟨r.n,upd r.to i v⟩:=by
 unfold ze;rw [UP,KC,zo3 _ h]
theorem zK (r:RelD):(ze r).all Value.oneCell'=true:=by
 unfold ze zaG;rw [UC,List.all_map];rw [bAT,Qk];exact⟨rfl,fun x _=>rfl⟩
theorem zkS {S:Sig} {g:Nat} {caps:Array Value} {vs:List Value} {w:Wd} {K:Value->Wd->Prop} {KP:List PanicEntry->Wd->Prop} {R:Ending->Wd->Prop} (hok:jK S g=true)
  (h:Calls S.P g (vs++caps.toList).toArray w R) (k:∀ e w',R e w'->∃ v,e = .returned v/\K v w'):zm6 S (.func (.func g) #[] caps) vs w K KP:=by
 unfold zm6;dsimp only;rw [hok];exact CallR.mk h k
theorem ze5 (n:Int):zax n=zat n:=rfl
theorem zkr (a b:Nat):za7 a b=jx a b:=rfl
section
variable {r:RelD} {w:Wd}
theorem je (hr:zI r.to):CB 40 #[.agg (ze r).toArray] w (.bool (okR r)):=by
 refine zD 38 [.agg (ze r).toArray] Tryz.func40 ?_;have f0:=zA w (.cells (ze r).toArray 30);have hb:Bw w (w.alloc (.cells (ze r).toArray 30)):=zba w _;obtain⟨X,hX⟩:=nm (w.alloc (.cells (ze r).toArray 30));have hX':w.alloc (.cells (Value.agg (ze r).toArray).cells 30)=X:=hX.symm;rw [<- hX] at f0 hb;have hn:X.cell? ⟨w.heap.size,0+0,none⟩=some (i64 r.n):=zc (za f0) (i:=0) rfl;have out:∀ b,okR r=b->(∀ h:Ending.returned (.bool b)=Ending.returned (.bool (okR r)),True):=fun _ _ _=>trivial;refine⟨i64 r.n,by rw [hX'];exact hn,?_⟩;rw [hX'];refine biE (fun h=>?_) fun h=>?_
 ·have h:r.n<0:=dT h;refine brT ?_;exact⟨rb (by unfold okR;rw [Uj (by omega)];rfl),hb⟩
 have h:¬ r.n<0:=dF h;refine⟨i64 r.n,hn,?_⟩;refine biE (fun h2=>?_) fun h2=>?_
 ·have h2:(48:Int)<r.n:=dT h2;exact⟨rb (by unfold okR;rw [Uj (show ¬ r.n<=48 by omega),Ul,Uk]),hb⟩
 have h2:¬ (48:Int)<r.n:=dF h2;have ok0:okR r=(List.range 48).all (zbA r):=by
  unfold okR;rw [Ut (by omega),Ut (by omega)];rfl
 rw [ok0];refine⟨i64 r.n,hn,?_⟩;refine cmo zhG ?_;rintro e _ ⟨rfl,rfl⟩;refine⟨zaG r.to,za4 _,?_,hlt f0,?_⟩
 ·have:=zM (n:=1) (m:=48) (za f0);have e:((ze r).toArray.toList.drop 1).take 48=zaG r.to:=by
   show (zaG r.to).take 48=_;rw [JE (by rw [za4];exact Gc _)]
  rw [e] at this;exact this
 refine⟨Nat,fun k=>⟨[(1,.pointer (some ⟨w.heap.size,0,none⟩)),(3,s64 (zat r.n)),(18,.agg (zaG r.to).toArray),(19,i64 (k:Nat))],[]⟩,fun k Y=>X=Y/\k<=48/\∀ i,i<k->zbA r i=true,fun k=>48-k,0,
  (cvE rfl rfl),⟨rfl,Ge _,fun i hi=>by omega⟩,?_⟩
 rintro k _ ⟨rfl,hk,hall⟩;refine biE (fun hc=>?_) fun hc=>?_
 ·have hc:(k:Int)<48:=dT hc;have hk':k<48:=by omega
  refine⟨k,rfl,hk',?_⟩;refine za5 (by rw [Gd];exact zcy _ hk') ?_;refine⟨_,zcd (hr k hk') (jY _),?_⟩;have no:zbA r k=false->(List.range 48).all (zbA r)=false:=fun h=>by
   rw [KM];exact⟨k,Uq.2 hk',by rw [h];exact Ku⟩
  refine biE (fun h3=>?_) fun h3=>?_
  ·have h3:(!decide (((jx (r.to k) (zat r.n):Nat):Int)=0))=true:=h3;have h3:¬ za7 (r.to k) (zax r.n)=0:=fun e=>by
    rw [zkr,ze5] at e;rw [e] at h3;exact Gy h3 (by decide)
   refine brT ?_;exact⟨rb (no (by unfold zbA;rw [Uj h3];rfl)).symm,hb⟩
  have h3:(!decide (((jx (r.to k) (zat r.n):Nat):Int)=0))=false:=h3;have h3:za7 (r.to k) (zax r.n)=0:=by
   have h4:decide (((jx (r.to k) (zat r.n):Nat):Int)=0)=true:=by simpa using h3
   exact UB (dT h4)
  refine⟨i64 r.n,hn,?_⟩;have next:zbA r k=true->∀ {K:Prop},(∀ k',k'=k+1->(∀ i,i<k'->zbA r i=true)->K)->K:=fun h K hK=>hK _ rfl fun i hi=>by
   by_cases e:i=k
   ·rw [e];exact h
   ·exact hall i (by omega)
  have fin:zbA r k=true->∃ s':Nat,s'=k+1/\(X=X/\s'<=48/\∀ i,i<s'->zbA r i=true):=fun h=>next h fun k' e h=>⟨k',e,rfl,by omega,h⟩
  refine biE (fun h4=>?_) fun h4=>?_
  ·have h4:r.n<=(k:Int):=dT h4;refine biE (fun h5=>?_) fun h5=>?_
   ·have h5:(!decide (((r.to k:Nat):Int)=0))=true:=h5;have h5:¬ r.to k=0:=fun e=>by
     rw [e] at h5;exact Gy h5 (by decide)
    exact⟨rb (no (by unfold zbA;rw [Ut h3,Uj (by omega),Uj h5];rfl)).symm,hb⟩
   ·have h5:(!decide (((r.to k:Nat):Int)=0))=false:=h5;have h5:r.to k=0:=by
     have h6:decide (((r.to k:Nat):Int)=0)=true:=(by simpa using h5);exact UB (dT h6)
    obtain⟨s',e,hs⟩:=fin (by unfold zbA;rw [Ut h3,Ut h5];simp);refine nxI (by omega) ?_;exact⟨s',⟨.cons rfl (.cons rfl (.cons rfl (.cons (by rw [e];rfl) .nil))),rfl⟩,hs,by show 48-s'<48-k;omega⟩
  ·have h4:¬ r.n<=(k:Int):=dF h4;refine brF ?_;obtain⟨s',e,hs⟩:=fin (by unfold zbA;rw [Ut h3,Ut (by omega)];rfl);refine nxI (by omega) ?_;exact⟨s',⟨.cons rfl (.cons rfl (.cons rfl (.cons (by rw [e];rfl) .nil))),rfl⟩,hs,by show 48-s'<48-k;omega⟩
 ·have hc:¬ (k:Int)<48:=dF hc;obtain rfl:k=48:=by omega
  refine⟨rb ?_,hb⟩;symm;rw [Qk];exact fun i hi=>hall i (Uq.1 hi)
theorem zjo {n g:Nat} {caps:Array Value} {row:Nat->Nat} (hn:n<=48) (hok:jK (sg 0) g=true) (zb7:∀ a X,a<n->Bw w X->Calls PG g (i64 (a:Nat)::caps.toList).toArray X fun e Y=>e = .returned (s64 (row a))/\Bw X Y) :
  CB 60 #[i64 n,.func (.func g) #[] caps] w (.agg (ze (jG n row)).toArray):=by
 refine z6 21 [i64 n,.func (.func g) #[] caps] (.s .p (.c .p .p)) Tryz.func60 ?_;obtain⟨L,hL⟩:=nm (w.heap.size);refine⟨Unit,fun _=>⟨[(0,i64 n),(1,.func (.func g) #[] caps),(4,At0 L),(5,At0 (L+1))],[]⟩,fun _ X=>X.heap[L]?=some (.cells (ze zB).toArray 30 (0,0))/\X.heap[L+1]?=some (.cells (ze ⟨n,fun _=>0⟩).toArray 30 (0,0))/\X.heap.size=L+2/\Bw w X,?_,?_⟩
 ·have h1:=zA w (.cells (ze zB).toArray 30);have s1:=wz w (.cells (ze zB).toArray 30);have h2:=zA (w.alloc (.cells (ze zB).toArray 30)) (.cells (ze zB).toArray 30);have s2:=wz (w.alloc (.cells (ze zB).toArray 30)) (.cells (ze zB).toArray 30);have b2:Bw w ((w.alloc (.cells (ze zB).toArray 30)).alloc (.cells (ze zB).toArray 30)):=((zba w _)).alloc (by simp) _;refine⟨ze ⟨n,fun _=>0⟩,rfl,?_⟩;refine zy (v := .agg (ze ⟨n,fun _=>0⟩).toArray) k30 h2 rfl rfl (zK _) ?_;rw [s1] at h2 s2;refine⟨(),⟨.cons rfl (.cons rfl (.cons (by rw [hL];rfl) (.cons (by rw [hL,<- s1];rfl) .nil))),rfl⟩,?_,?_,?_,?_⟩
  ·rw [hL];exact (zt (by rw [s1];omega)).trans (qy _ h1)
  ·rw [hL,s1];exact zq h2
  ·rw [hL];simp
  ·exact zl b2 (by omega) _
 rintro _ X ⟨f0,f1,sX,hbX⟩;refine⟨Nat,fun k=>⟨[(1,.func (.func g) #[] caps),(4,At0 L),(5,At0 (L+1)),(9,i64 n),(10,i64 (k:Nat))],[]⟩,fun k Y=>k<=n/\Y.heap[L]?=some (.cells (ze zB).toArray 30 (0,0))/\Y.heap[L+1]?=some (.cells (ze (⟨n,fun i=>if i<k then row i else 0⟩)).toArray 30 (0,0))/\Bw w Y,fun k=>n-k,0,
  (cvE rfl rfl),⟨Ge _,f0,f1,hbX⟩,?_⟩
 clear f0 f1 sX hbX X;rintro k X ⟨hk,f0,f1,hbX⟩;refine biE (fun hc=>?_) fun hc=>?_
 ·have hc:(k:Int)<(n:Int):=dT hc;have hkn:k<n:=by omega
  refine zkS (S:=sg 21) hok (zb7 k X hkn hbX) ?_;rintro e Y ⟨rfl,hbY⟩;refine⟨_,rfl,?_⟩;refine⟨k,rfl,by omega,?_⟩;have f1Y:=zb hbY f1;refine zu k27 f1Y (o:=0+1+k*1) (v:=s64 (row k)) rfl rfl (by rw [zf];omega) rfl fun Z fZ gZ sZ=>?_;rw [UX,Gd,zex _ (by omega)] at fZ;refine nxI (by omega) ?_;refine⟨k+1,(cvE rfl rfl),⟨hkn,(gZ.block L (hlt (zb hbY f0)) (by simp)).trans (zb hbY f0),?_,((zst hbX hbY)).trans (zm gZ ((zst hbX hbY)).size (by omega))⟩,zdc (by omega)⟩;have e:upd (fun i=>if i<k then row i else 0) k (row k)=fun i=>if i<k+1 then row i else 0:=by
   funext i;by_cases e:i=k
   ·subst e;rw [qZ,Gx (by omega)]
   ·rw [zaA _ _ e];by_cases h:i<k
    ·rw [Gx h,Gx (by omega)]
    ·rw [Gw h,Gw (by omega)]
  rw [<- e];exact fZ
 ·have hc:¬ (k:Int)<(n:Int):=dF hc;obtain rfl:k=n:=by omega
  refine⟨ze (jG k row),zf _,za f1,hlt f1,?_⟩;refine zy (v := .agg (ze (jG k row)).toArray) k30 f0 rfl rfl (zK _) ?_;exact⟨ze (jG k row),zf _,za (zq f0),rfl,zl hbX (by omega) _⟩
end
theorem zbR {X:Wd} {b:Nat} {r:RelD} (f:X.heap[b]?=some (.cells (ze r).toArray 30 (0,0))) {i:Nat} (h:i<48):X.cell? ⟨b,0+1+i*1,none⟩=some (s64 (r.to i)):=by
 rw [Gd,UH];exact zc (za f) (zga r h)
theorem jp {r:RelD} (h:okR r=true):0<=r.n/\r.n<=48/\∀ a,a<48->jx (r.to a) (zat r.n)=0/\((a:Int)<r.n\/r.to a=0):=by
 unfold okR at h;rw [bAT,bAT,dE,dE,Qk] at h;refine⟨h.1,h.2.1,fun a ha=>?_⟩;have:=h.2.2 a (Uq.2 ha);unfold zbA at this;rw [bAT,QI,dE,dE,dE] at this;exact this
theorem zhC {n:Int} (h0:0<=n) (h:n<=64) {i:Nat} (hi:i<64):(zat n).testBit i=decide ((i:Int)<n):=by
 unfold zat
 split
 ·rw [QD,Uj (by omega)]
 split
 ·rw [show 18446744073709551615=2^64-1 from rfl,Nat.testBit_two_pow_sub_one];rw [Ut hi,Ut (by omega)]
 ·rw [Nat.testBit_two_pow_sub_one];apply QH.2;omega
theorem zi3 {r:RelD} (h:okR r=true) (hr:zI r.to) {a i:Nat} (ha:a<48) (hb:(r.to a).testBit i=true):(i:Int)<r.n/\(a:Int)<r.n:=by
 obtain⟨h0,h48,hall⟩:=jp h;obtain⟨h1,h2⟩:=hall a ha;have hi:i<64:=by
  apply Qz;intro hi;have:=JF (nL (hr a ha) (Kb (by decide) hi));rw [this] at hb;cases hb
 refine⟨?_,?_⟩
 ·have h3:(jx (r.to a) (zat r.n)).testBit i=false:=by rw [h1];exact QD i
  rw [zfr (jY _) hi,hb,zhC h0 (by omega) hi] at h3;simpa using h3
 ·rcases h2 with h2 | h2
  ·exact h2
  ·rw [h2,QD] at hb;cases hb
theorem zi2 {r:RelD} (h:okR r=true) (hr:zI r.to) {a:Nat} (ha:a<48):∀ i∈els (r.to a),(i:Int)<r.n/\i<48:=fun i hi=>by
 have h1:=(zi3 h hr ha (zgi.1 hi).2).1;have:=(jp h).2.1;exact⟨h1,by omega⟩
theorem zbD {s:Nat} (h0:s≠0) (h:s<2^64):(els s).headD 0=ctz s/\(els s).isEmpty=false:=by
 rw [(ju h0 h).1];exact⟨rfl,rfl⟩
theorem zgn {s:Nat} (h:s<2^64) (he:(els s).isEmpty=true):s=0:=by
 apply Jn;intro h0;rw [(zbD h0 h).2] at he;cases he
theorem zeZ {s:Nat} (h:s<2^64) (he:(!(els s).isEmpty)=true):s≠0:=fun h0=>by
 subst h0;rw [zbF] at he;cases he
section
variable {r:RelD} {w:Wd}
theorem zrx {b s:Nat} (f:w.heap[b]?=some (.cells (ze r).toArray 30 (0,0))) (hr:zI r.to) (hs:s<2^64) (h48:∀ i∈els s,i<48) (hT:Tz64M w) :
  CB 58 #[At0 b,s64 s] w (s64 (zdh r.to s)):=by
 refine zD 32 [At0 b,s64 s] Tryz.func58 ?_;refine cmo (zaM hs hT) ?_;rintro e X ⟨rfl,hbX⟩;refine⟨Nat×Nat,fun q=>⟨[(0,At0 b),(1,s64 q.2),(5,s64 q.1),(6,i64 ((els q.2).headD 0:Nat)),(7,.bool (!(els q.2).isEmpty))],[]⟩,
  fun q Y=>zdh r.to s=(els q.2).foldl (fun t a=>t|||r.to a) q.1/\(q.1<2^64/\q.2<2^64/\∀ i∈els q.2,i<48)/\Bw w Y,fun q=>q.2,(0,s),
  (cvE rfl rfl),⟨rfl,⟨(by decide:0<2^64),hs,h48⟩,hbX⟩,?_⟩
 clear hbX X;rintro⟨t,q⟩ X ⟨he,⟨ht,hq,h48⟩,hbX⟩;dsimp only at he ht hq h48 ⊢;refine biE (fun hc=>?_) fun hc=>?_
 ·have h0:=zeZ hq hc;obtain⟨e1,e2,_,e3⟩:=ju h0 hq;have hd:=(zbD h0 hq).1;have hc48:ctz q<48:=h48 _ (by rw [e1];exact Kz);rw [hd];have fX:=zb hbX f;refine⟨ctz q,rfl,hc48,_,zbR fX hc48,_,zao ht (hr _ hc48),((q-1:Nat):Int),(w64 (a:=(q:Int)-1) (by omega)).trans (by omega),((qB q:Nat):Int),jV (a:=q) (b:=q-1) hq (by omega),cmo (zaM (s:=qB q) (by omega) (hT.below hbX)) ?_⟩;rintro e Y ⟨rfl,hbY⟩;refine⟨(t|||r.to (ctz q),qB q),(cvE rfl rfl),⟨?_,⟨KY ht (hr _ hc48),by omega,fun i hi=>h48 i (by rw [e1];exact JW _ hi)⟩,(zst hbX hbY)⟩,e2⟩;rw [he,e1];rfl
 ·have hc:(els q).isEmpty=true:=by simpa using hc
  have:=zgn hq hc;subst this;refine⟨?_,hbX⟩;rw [he,zbF];rfl
theorem zoc {ra rb:RelD} {ba bb g:Nat} {caps:Array Value} {row:Nat->Nat} (fa:w.heap[ba]?=some (.cells (ze ra).toArray 30 (0,0))) (fb:w.heap[bb]?=some (.cells (ze rb).toArray 30 (0,0)))
  (ha:zI ra.to) (hb:zI rb.to) (hok:jK (sg 0) g=true)
  (zb7:ra.n=rb.n->okR ra=true->okR rb=true->∀ i X,i<ra.n.toNat->Bw w X->Calls PG g (i64 (i:Nat)::caps.toList).toArray X fun e Y=>e = .returned (s64 (row i))/\Bw X Y) :
  CB 53 #[At0 ba,At0 bb,.func (.func g) #[] caps] w (.tuple #[.agg (ze (comb ra rb row).1).toArray,i64 (comb ra rb row).2]):=by
 refine z6 38 [At0 ba,At0 bb,.func (.func g) #[] caps] (.c .p (.s .p .p)) Tryz.func53 ?_;obtain⟨L,hL⟩:=nm (w.heap.size);refine⟨Unit,fun _=>⟨[(0,At0 ba),(1,At0 bb),(2,.func (.func g) #[] caps),(6,At0 L)],[]⟩,fun _ X=>X.heap[L]?=some (.cells (ze zB).toArray 30 (0,0))/\Bw w X,⟨(),⟨.cons rfl (.cons rfl (.cons rfl (.cons (by rw [hL];rfl) .nil))),rfl⟩,by rw [hL];exact zA w _,(zba w _)⟩,?_⟩;rintro _ X ⟨f0,hbX⟩;have hd:Bw X X.drew:=(Gh _ X).drew;have hbD:=zst hbX hd;have no:∀ {Y:Wd},Y.heap[L]?=some (.cells (ze zB).toArray 30 (0,0))->Bw w Y->(ra.n=rb.n&&(okR ra&&okR rb))=false->∀ {K:Wd->Prop},(∀ Z,Z.heap[L]?=some (.cells (ze (comb ra rb row).1).toArray 30 (0,0))->(comb ra rb row).2=2->Bw w Z->K Z)->SatR ((storeVar 30 ⟨L,0,none⟩ (.agg (ze zB).toArray)).run PG Y) fun _ w'=>K w' :=
  fun {Y} f b h {K} k=>by
   have e:comb ra rb row=(zB,2):=by unfold comb;rw [h];rfl
   exact zy (v := .agg (ze zB).toArray) k30 f rfl rfl (zK _) (k _ (by rw [e];exact zq f) (by rw [e]) (zl b (by omega) _))
 refine DrawE.ord [] [0,1,2,3,4,5,6,7,8,9,10,11,12,13,14,15,16,17,18,19,20,21,22] (by kernel_rfl) ?_;have hz:∀ {Y:Wd},Bw w Y->∀ {K:Value->Prop},K (.agg (ze zB).toArray)->K (.agg (ze zB).toArray):=fun _ _ h=>h;refine⟨_,zc (za (zb hbD fa)) (i:=0) rfl,_,zc (za (zb hbD fb)) (i:=0) rfl,biE (fun h=>?_) fun h=>?_⟩
 ·have h:ra.n≠rb.n:=fun e=>by
   have h:(!decide (ra.n=rb.n))=true:=h;rw [Ut e] at h;cases h
  refine brT (brT ⟨ze zB,rfl,no (hdr f0) hbD (by rw [Uj h];rfl) fun Z fZ e2 bZ=>⟨ze (comb ra rb row).1,zf _,za fZ,?_,bZ⟩⟩);rw [e2];rfl
 have h:ra.n=rb.n:=by
  have h:(!decide (ra.n=rb.n))=false:=h;simpa using h
 refine⟨ze ra,zf _,za (zb hbD fa),hlt (zb hbD fa),cmo (je ha) ?_⟩;rintro e Y ⟨rfl,hbY⟩;refine⟨hbY,?_⟩;have hbwY:=zst hbD hbY;have f0Y:=zb hbY (hdr f0);refine biE (fun h1=>?_) fun h1=>?_
 ·have h1:okR ra=false:=by
   have h1:(!okR ra)=true:=h1;simpa using h1
  refine brT ⟨ze zB,rfl,no f0Y hbwY (by rw [h1,Ul,Uk]) fun Z fZ e2 bZ=>⟨ze (comb ra rb row).1,zf _,za fZ,?_,bZ⟩⟩;rw [e2];rfl
 have h1:okR ra=true:=by
  have h1:(!okR ra)=false:=h1;simpa using h1
 refine⟨ze rb,zf _,za (zb hbwY fb),hlt (zb hbwY fb),cmo (je hb) ?_⟩;rintro e V ⟨rfl,hbV⟩;refine⟨hbV,?_⟩;have hbwV:=zst hbwY hbV;have f0V:=zb hbV f0Y;refine biE (fun h2=>?_) fun h2=>?_
 ·have h2:okR rb=false:=by
   have h2:(!okR rb)=true:=h2;simpa using h2
  refine⟨ze zB,rfl,no f0V hbwV (by rw [h2,Uk,Uk]) fun Z fZ e2 bZ=>⟨ze (comb ra rb row).1,zf _,za fZ,?_,bZ⟩⟩;rw [e2];rfl
 have h2:okR rb=true:=by
  have h2:(!okR rb)=false:=h2;simpa using h2
 obtain⟨p0,p48,_⟩:=jp h1;have e:comb ra rb row=(jG ra.n.toNat row,0):=by unfold comb;rw [h1,h2,Ut h];rfl
 rw [e];have hn:ra.n=(ra.n.toNat:Int):=by omega
 refine⟨i64 (ra.n.toNat:Nat),by rw [<- hn];exact zc (za (zb hbwV fa)) (i:=0) rfl,cmo (zjo (w:=V) (n:=ra.n.toNat) (by omega) hok (fun i Z hi hbZ=>zb7 h h1 h2 i Z hi ((zst hbwV hbZ)))) ?_⟩;rintro e Z ⟨rfl,hbZ⟩;have f0Z:=zb hbZ f0V;exact zy (v := .agg (ze (jG ra.n.toNat row)).toArray) k30 f0Z rfl rfl (zK _) ⟨ze (jG ra.n.toNat row),zf _,za (zq f0Z),rfl,zl ((zst hbwV hbZ)) (by omega) _⟩
end
theorem zdF {n:Nat} {f:Nat->Nat} (h:∀ i,i<n->i<48->f i<2^64):zI (jG n f).to:=fun i hi=>by
 unfold jG;dsimp only
 split
 ·rename_i h1;exact h i h1 hi
 ·decide
theorem zkA {to:Nat->Nat} (ht:zI to):∀ (l:List Nat) (t:Nat),t<2^64->(∀ i∈l,i<48)->l.foldl (fun t a=>t|||to a) t<2^64
 | [],t,h,_=>h
 | x::l,t,h,hl=>by
  rw [QO];exact zkA ht l _ (KY h (ht x (hl x Kz))) fun i hi=>hl i (JW _ hi)
section
variable {ra rb:RelD} {w:Wd}
theorem zsf {ba bb i:Nat} (fa:w.heap[ba]?=some (.cells (ze ra).toArray 30 (0,0))) (fb:w.heap[bb]?=some (.cells (ze rb).toArray 30 (0,0))) (ha:zI ra.to) (hb:zI rb.to) (hi:i<48) (h48:∀ j∈els (ra.to i),j<48) (hT:Tz64M w) :
  CB 57 (i64 (i:Nat)::[At0 bb,At0 ba]).toArray w (s64 (zdh rb.to (ra.to i))):=by
 refine zD 10 (i64 (i:Nat)::[At0 bb,At0 ba]) Tryz.func57 ?_;refine⟨i,rfl,hi,_,zbR fa hi,cmo (zrx fb hb (ha i hi) h48 hT) ?_⟩;rintro e Y ⟨rfl,hbY⟩;exact⟨rfl,hbY⟩
theorem zmh (ha:zI ra.to) (hb:zI rb.to) (hT:Tz64M w):CB 18 #[.agg (ze ra).toArray,.agg (ze rb).toArray] w (.tuple #[.agg (ze (zfE ra rb).1).toArray,i64 (zfE ra rb).2]):=by
 refine z6 10 [.agg (ze ra).toArray,.agg (ze rb).toArray] (.c .p .p) Tryz.func18 ?_;obtain⟨L,hL⟩:=nm (w.heap.size);refine⟨Unit,fun _=>⟨[(2,At0 L),(3,At0 (L+1)),(4,At0 (L+2)),(5,i64 0)],[]⟩,fun _ X=>X.heap[L]?=some (.cells (ze ra).toArray 30 (0,0))/\X.heap[L+1]?=some (.cells (ze rb).toArray 30 (0,0))/\X.heap[L+2]?=some (.cells (ze zB).toArray 30 (0,0))/\Bw w X,?_,?_⟩
 ·have s1:=wz w (.cells (ze ra).toArray 30);have s2:=wz (w.alloc (.cells (ze ra).toArray 30)) (.cells (ze rb).toArray 30);have h2:=zA (w.alloc (.cells (ze ra).toArray 30)) (.cells (ze rb).toArray 30);have h3:=zA ((w.alloc (.cells (ze ra).toArray 30)).alloc (.cells (ze rb).toArray 30)) (.cells (ze zB).toArray 30);rw [s1] at s2 h2;rw [s2] at h3;refine⟨(),⟨.cons (by rw [hL];rfl) (.cons (by rw [hL,<- s1];rfl) (.cons (by rw [hL,<- s2];rfl) (.cons rfl .nil))),rfl⟩,?_,?_,?_,?_⟩
  ·rw [hL];exact qy _ (qy _ (zA w _))
  ·rw [hL];exact qy _ h2
  ·rw [hL];exact h3
  ·exact (((zba w _)).alloc (by simp) _).alloc (by simp;omega) _
 rintro _ X ⟨f0,f1,f2,hbX⟩;refine cmo (zoc (row:=fun i=>zdh rb.to (ra.to i)) f0 f1 ha hb (by kernel_rfl) (fun e h1 h2 i Y hi hbY=>?_)) ?_
 ·have h48:=(jp h1).2.1;exact zsf (zb hbY f0) (zb hbY f1) ha hb (by omega) (fun j hj=>(zi2 h1 ha (by omega) j hj).2) ((hT.below hbX).below hbY)
 rintro e Y ⟨rfl,hbY⟩;exact zy (v := .agg (ze (zfE ra rb).1).toArray) k30 (zb hbY f2) rfl rfl (zK _) ⟨ze (zfE ra rb).1,zf _,za (zq (zb hbY f2)),rfl,zl ((zst hbX hbY)) (by omega) _⟩
theorem zqE {ba bb i a b:Nat} (fa:w.heap[ba]?=some (.cells #[s64 a] 27 (0,0))) (fb:w.heap[bb]?=some (.cells #[s64 b] 27 (0,0))) (hi:i<48) :
  CB 145 (i64 (i:Nat)::[At0 ba,At0 bb]).toArray w (s64 (if a.testBit i then b else 0)):=by
 refine zD 11 (i64 (i:Nat)::[At0 ba,At0 bb]) Tryz.func145 ?_;refine⟨_,zc (za fa) (i:=0) rfl,by omega,_,zf3 (k:=i) (by omega),?_⟩;have e1:IntKind.u64.wrap ((BitVec.ofInt IntKind.u64.bits ((a/2^i:Nat):Int)&&&BitVec.ofInt IntKind.u64.bits (1:Int)).toNat:Int)=((a/2^i&&&1:Nat):Int):=by
  show IntKind.u64.wrap ((BitVec.ofInt 64 ((a/2^i:Nat):Int)&&&BitVec.ofInt 64 (1:Int)).toNat:Int)=_;rw [Qh,show (BitVec.ofInt 64 (1:Int)).toNat=1 from rfl,KD,KD,Ks];have e2:(((a/2^i:Nat):Int)%((2^64:Nat):Int)).toNat=(a/2^i)%2^64:=by
   rw [<- Int.natCast_emod,KL]
  rw [e2];generalize a/2^i=m;rw [w64 (by omega)];omega
 refine⟨_,e1,?_⟩;rw [zjq];refine biE (fun h=>?_) fun h=>?_
 ·have h:a.testBit i=false:=by
   cases hc:a.testBit i with
   | false=>rfl
   | true =>
    rw [hc] at h;exact Gy h (by decide)
  exact⟨by rw [h];rfl,Gh _ _⟩
 ·have h:a.testBit i=true:=by
   cases hc:a.testBit i with
   | true=>rfl
   | false =>
    rw [hc] at h;exact Gy h (by decide)
  exact⟨_,zc (za fb) (i:=0) rfl,by rw [h];rfl,Gh _ _⟩
theorem zne {n a b:Nat} (hn:n<=48) (ha:a<2^64) (hb:b<2^64):CB 97 #[i64 n,s64 a,s64 b] w (.agg (ze (zee n a b)).toArray):=by
 refine z6 21 [i64 n,s64 a,s64 b] (.c .p (.s .p (.s .p .p))) Tryz.func97 ?_;obtain⟨L,hL⟩:=nm (w.heap.size);refine⟨Unit,fun _=>⟨[(0,i64 n),(4,At0 L),(5,At0 (L+1)),(6,At0 (L+2))],[]⟩,fun _ X=>X.heap[L]?=some (.cells #[s64 a] 27 (0,0))/\X.heap[L+1]?=some (.cells [s64 b].toArray 27 (0,0))/\X.heap[L+2]?=some (.cells (ze zB).toArray 30 (0,0))/\Bw w X,?_,?_⟩
 ·have s1:=wz w (.cells #[s64 a] 27);have s2:=wz (w.alloc (.cells #[s64 a] 27)) (.cells #[s64 b] 27);have h2:=zA (w.alloc (.cells #[s64 a] 27)) (.cells #[s64 b] 27);have h3:=zA ((w.alloc (.cells #[s64 a] 27)).alloc (.cells #[s64 b] 27)) (.cells (ze zB).toArray 30);rw [s1] at s2 h2;rw [s2] at h3;refine⟨(),⟨.cons rfl (.cons (by rw [hL];rfl) (.cons (by rw [hL,<- s1];rfl) (.cons (by rw [hL,<- s2];rfl) .nil))),rfl⟩,?_,?_,?_,?_⟩
  ·rw [hL];exact qy _ (qy _ (zA w _))
  ·rw [hL];exact qy _ h2
  ·rw [hL];exact h3
  ·exact (((zba w _)).alloc (by simp) _).alloc (by simp;omega) _
 rintro _ X ⟨f0,f1,f2,hbX⟩;refine brN (Uj (by omega)) (brN (Uj (by omega)) (DrawE.ord [4] [0,1,2,3,4] (by kernel_rfl) ⟨_,zc (za (hdr f1)) (i:=0) rfl,cmo zhG ?_⟩));rintro e _ ⟨rfl,rfl⟩;refine⟨Gh _ _,_,jV (a:=b) (b:=zat n) hb (jY _),?_⟩;have hd:Bw X X.drew:=(Gh _ X).drew;refine zu k27 (hdr f1) (o:=0) (v:=s64 (b&&&zat n)) rfl rfl (by show 0<1;decide) rfl fun Y fY gY sY=>?_;have fY:Y.heap[L+1]?=some (.cells #[s64 (b&&&zat n)] 27 (0,0)):=fY;have hbY:Bw w Y:=((zst hbX hd)).trans (zm gY hbX.size (by omega));have f0Y:=(gY.block L (hlt (hdr f0)) (by simp)).trans (hdr f0);have f2Y:=(gY.block (L+2) (hlt (hdr f2)) (by simp)).trans (hdr f2);refine cmo (zjo (w:=Y) (n:=n) (row:=fun x=>if a.testBit x then b&&&zax n else 0) hn (by kernel_rfl) (fun i Z hi hbZ=>zqE (zb hbZ f0Y) (zb hbZ fY) (by omega))) ?_;rintro e Z ⟨rfl,hbZ⟩;have f2Z:=zb hbZ f2Y;exact zy (v := .agg (ze (zee n a b)).toArray) k30 f2Z rfl rfl (zK _) ⟨ze (zee n a b),zf _,za (zq f2Z),rfl,zl ((zst hbY hbZ)) (by omega) _⟩
theorem zvl {ba i s:Nat} (fa:w.heap[ba]?=some (.cells #[s64 s] 27 (0,0))) (hs:s<2^64) (hi:i<48) :
  CB 104 (i64 (i:Nat)::[At0 ba]).toArray w (s64 (s&&&2^i)):=by
 refine zD 8 (i64 (i:Nat)::[At0 ba]) Tryz.func104 ?_;exact DrawE.ord [] [0,1,2,3,4] (by kernel_rfl) ⟨_,zc (za (hdr fa)) (i:=0) rfl,by omega,_,jU (e:=i) (by omega),_,jV hs (zZ (by omega)),rfl,(Gh _ w).drew⟩
theorem zv3 {n s:Nat} (hn:n<=48) (hs:s<2^64):CB 62 #[i64 n,s64 s] w (.agg (ze (idR n s)).toArray):=by
 refine z6 15 [i64 n,s64 s] (.c .p (.s .p .p)) Tryz.func62 ?_;obtain⟨L,hL⟩:=nm (w.heap.size);refine⟨Unit,fun _=>⟨[(0,i64 n),(3,At0 L),(4,At0 (L+1))],[]⟩,fun _ X=>X.heap[L]?=some (.cells #[s64 s] 27 (0,0))/\X.heap[L+1]?=some (.cells (ze zB).toArray 30 (0,0))/\Bw w X,?_,?_⟩
 ·have s1:=wz w (.cells #[s64 s] 27);have h2:=zA (w.alloc (.cells #[s64 s] 27)) (.cells (ze zB).toArray 30);rw [s1] at h2;refine⟨(),⟨.cons rfl (.cons (by rw [hL];rfl) (.cons (by rw [hL,<- s1];rfl) .nil)),rfl⟩,?_,?_,?_⟩
  ·rw [hL];exact qy _ (zA w _)
  ·rw [hL];exact h2
  ·exact ((zba w _)).alloc (by simp) _
 rintro _ X ⟨f0,f1,hbX⟩;refine brN (Uj (by omega)) (brN (Uj (by omega)) (cmo (zjo (w:=X) (n:=n) (row:=fun a=>s&&&2^a) hn (by kernel_rfl) (fun i Z hi hbZ=>zvl (zb hbZ f0) hs (by omega))) ?_));rintro e Z ⟨rfl,hbZ⟩;have f1Z:=zb hbZ f1;exact zy (v := .agg (ze (idR n s)).toArray) k30 f1Z rfl rfl (zK _) ⟨ze (idR n s),zf _,za (zq f1Z),rfl,zl ((zst hbX hbZ)) (by omega) _⟩
theorem zt7 (ha:zI ra.to):CB 65 #[.agg (ze ra).toArray] w (s64 (zkC ra)):=by
 refine zD 24 [.agg (ze ra).toArray] Tryz.func65 ?_;have f0:=zA w (.cells (ze ra).toArray 30);have hb:Bw w (w.alloc (.cells (ze ra).toArray 30)):=zba w _;refine⟨ze ra,zf _,za f0,hlt f0,cmo (je ha) ?_⟩;rintro e X ⟨rfl,hbX⟩;have hbw:=zst hb hbX;have fX:=zb hbX f0;refine biE (fun h=>?_) fun h=>?_
 ·have h:okR ra=false:=by
   have h:(!okR ra)=true:=h;simpa using h
  exact⟨by unfold zkC;rw [h];rfl,hbw⟩
 have h:okR ra=true:=by
  have h:(!okR ra)=false:=h;simpa using h
 obtain⟨p0,p48,_⟩:=jp h;obtain⟨n,hn⟩:∃ n:Nat,ra.n=n:=⟨ra.n.toNat,by omega⟩;refine⟨i64 n,by rw [<- hn];exact zc (za fX) (i:=0) rfl,?_⟩;have e0:zkC ra=(List.range n).foldl (fun s a=>if ra.to a=0 then s else s|||2^a) 0:=by unfold zkC;rw [Gx h,hn];rfl
 refine⟨Nat,fun k=>⟨[(1,.pointer (some ⟨w.heap.size,0,none⟩)),(3,s64 ((List.range k).foldl (fun s a=>if ra.to a=0 then s else s|||2^a) 0)),(9,i64 n),(10,i64 (k:Nat))],[]⟩,fun k Y=>X=Y/\k<=n/\(List.range k).foldl (fun s a=>if ra.to a=0 then s else s|||2^a) 0<2^64,fun k=>n-k,0,
  (cvE rfl rfl),⟨rfl,Ge _,(by decide:0<2^64)⟩,?_⟩
 rintro k _ ⟨rfl,hk,hlt64⟩;refine biE (fun hc=>?_) fun hc=>?_
 ·have hc:(k:Int)<(n:Int):=dT hc;have hkn:k<n:=by omega
  have step:(List.range (k+1)).foldl (fun s a=>if ra.to a=0 then s else s|||2^a) 0=if ra.to k=0 then (List.range k).foldl (fun s a=>if ra.to a=0 then s else s|||2^a) 0 else (List.range k).foldl (fun s a=>if ra.to a=0 then s else s|||2^a) 0|||2^k:=by
   rw [QY,KT];rfl
  refine⟨k,rfl,by omega,?_⟩;refine⟨_,zbR fX (by omega),biE (fun h1=>?_) fun h1=>?_⟩
  ·have h1:¬ ra.to k=0:=fun e=>by
    have h1:(!decide (((ra.to k:Nat):Int)=0))=true:=h1;rw [e] at h1;exact Gy h1 (by decide)
   rw [Gw h1] at step;exact⟨by omega,_,jU (e:=k) (by omega),_,zao hlt64 (zZ (by omega)),nxI (by omega) ⟨k+1,⟨.cons rfl (.cons (by rw [step];rfl) (.cons rfl (.cons rfl .nil))),rfl⟩,⟨rfl,hkn,by rw [step];exact KY hlt64 (zZ (by omega))⟩,zdc (by omega)⟩⟩
  ·have h1:ra.to k=0:=by
    have h1:(!decide (((ra.to k:Nat):Int)=0))=false:=h1;have h2:decide (((ra.to k:Nat):Int)=0)=true:=(by simpa using h1);exact UB (dT h2)
   rw [Gx h1] at step;exact nxI (by omega) ⟨k+1,⟨.cons rfl (.cons (by rw [step];rfl) (.cons rfl (.cons rfl .nil))),rfl⟩,⟨rfl,hkn,by rw [step];exact hlt64⟩,zdc (by omega)⟩
 ·have hc:¬ (k:Int)<(n:Int):=dF hc;obtain rfl:k=n:=by omega
  exact⟨by rw [e0];rfl,hbw⟩
theorem zsl (ha:zI ra.to):CB 25 #[.agg (ze ra).toArray] w (.bool (zho ra)):=by
 refine zD 10 [.agg (ze ra).toArray] Tryz.func25 ?_;have f0:=zA w (.cells (ze ra).toArray 30);have hb:Bw w (w.alloc (.cells (ze ra).toArray 30)):=zba w _;refine⟨ze ra,zf _,za f0,hlt f0,cmo (je ha) ?_⟩;rintro e X ⟨rfl,hbX⟩;have hbw:=zst hb hbX;have fX:=zb hbX f0;refine biE (fun h=>?_) fun h=>?_
 ·have h:okR ra=true:=h;refine⟨ze ra,zf _,za fX,hlt fX,cmo (zt7 ha) ?_⟩;rintro e Y ⟨rfl,hbY⟩;refine⟨rb ?_,(zst hbw hbY)⟩;unfold zho;rw [h,Uz];exact QH.2 Int.ofNat_inj
 ·have h:okR ra=false:=h;exact⟨rb (by unfold zho;rw [h];rfl),hbw⟩
end
theorem zf4 {f:Nat->Nat} (h:zI f) {i v:Nat} (hv:v<2^64):zI (upd f i v):=fun j hj=>by
 by_cases e:j=i
 ·rw [e,qZ];exact hv
 ·rw [zaA _ _ e];exact h j hj
def zsF (a:Nat) (l:List Nat) (f:Nat->Nat):Nat->Nat:=l.foldl (fun f b=>upd f b (f b|||2^a)) f
section
variable {r:RelD} {w:Wd}
theorem zhF (hr:zI r.to) (hT:Tz64M w):Calls PG 21 #[.agg (ze r).toArray] w fun e w'=>e = .returned (.agg (ze (qP r)).toArray)/\Bw w w'/\zI (qP r).to:=by
 refine z6 50 [.agg (ze r).toArray] (.c .p (.s .p (.s .p (.c .p .p)))) Tryz.func21 ?_;obtain⟨L,hL⟩:=nm (w.heap.size);refine⟨Unit,fun _=>⟨[(1,At0 L),(2,At0 (L+1))],[]⟩,fun _ X=>X.heap[L]?=some (.cells (ze r).toArray 30 (0,0))/\X.heap[L+1]?=some (.cells (ze zB).toArray 30 (0,0))/\X.heap.size=L+2/\Bw w X,?_,?_⟩
 ·have s1:=wz w (.cells (ze r).toArray 30);have h2:=zA (w.alloc (.cells (ze r).toArray 30)) (.cells (ze zB).toArray 30);have s2:=wz (w.alloc (.cells (ze r).toArray 30)) (.cells (ze zB).toArray 30);rw [s1] at h2 s2;refine⟨(),⟨.cons (by rw [hL];rfl) (.cons (by rw [hL,<- s1];rfl) .nil),rfl⟩,?_,?_,?_,?_⟩
  ·rw [hL];exact qy _ (zA w _)
  ·rw [hL];exact h2
  ·rw [hL];exact s2
  ·exact ((zba w _)).alloc (by simp) _
 rintro _ X ⟨f0,f1,sX,hbX⟩;refine⟨ze r,zf _,za f0,hlt f0,cmo (je hr) ?_⟩;rintro e Y ⟨rfl,hbY⟩;have hbwY:=zst hbX hbY;have f0Y:=zb hbY f0;have f1Y:=zb hbY f1;refine biE (fun h=>?_) fun h=>?_
 ·have h:okR r=false:=by
   have h:(!okR r)=true:=h;simpa using h
  have e:qP r=zB:=by unfold qP;rw [h];rfl
  rw [e];exact⟨ze zB,rfl,zy (v := .agg (ze zB).toArray) k30 f1Y rfl rfl (zK _) ⟨ze zB,zf _,za (zq f1Y),rfl,zl hbwY (by omega) _,fun i _=>(by decide:0<2^64)⟩⟩
 have h:okR r=true:=by
  have h:(!okR r)=false:=h;simpa using h
 obtain⟨p0,p48,_⟩:=jp h;obtain⟨n,hn⟩:∃ n:Nat,r.n=n:=⟨r.n.toNat,by omega⟩;have hn48:n<=48:=by omega
 have e0:qP r=⟨n,zan r.to n⟩:=by unfold qP;rw [Gx h,hn];rfl
 rw [e0];have hnY:Y.cell? ⟨L,0+0,none⟩=some (i64 n):=by rw [<- hn];exact zc (za f0Y) (i:=0) rfl
 refine⟨i64 n,hnY,ze ⟨n,fun _=>0⟩,rfl,?_⟩;have sY:=hbY.size;refine zk (X:=Y) (v := .agg (ze ⟨n,fun _=>0⟩).toArray) k30 rfl rfl (zK _) fun Z hbZ fZ sZ=>?_;obtain⟨M,hM⟩:=nm (Y.heap.size);rw [<- hM] at fZ sZ;have pM:some (Value.pointer (some ⟨Y.heap.size,0,none⟩))=some (At0 M):=by rw [hM]
 have hbwZ:=zst hbwY hbZ;refine⟨Unit,fun _=>⟨[(1,At0 L),(2,At0 (L+1)),(3,At0 M)],[]⟩,fun _ V=>V.heap[M]?=some (.cells (ze ⟨n,zan r.to n⟩).toArray 30 (0,0))/\V.heap[L+1]?=some (.cells (ze zB).toArray 30 (0,0))/\Bw w V/\zI (zan r.to n),?_,?_⟩
 ·refine⟨i64 n,by rw [<- hn];exact zc (za (zb hbZ f0Y)) (i:=0) rfl,?_⟩;refine⟨Nat,fun k=>⟨[(1,At0 L),(2,At0 (L+1)),(3,At0 M),(16,i64 n),(17,i64 (k:Nat))],[]⟩,
   fun k V=>k<=n/\V.heap[M]?=some (.cells (ze ⟨n,zan r.to k⟩).toArray 30 (0,0))/\zI (zan r.to k)/\Below M Z V,fun k=>n-k,0,
   ⟨.cons rfl (.cons rfl (.cons pM (.cons rfl (.cons rfl .nil)))),rfl⟩,⟨Ge _,fZ,fun i _=>(by decide:0<2^64),Gh _ _⟩,?_⟩
  rintro k V ⟨hk,fV,hwV,hbV⟩;have sV:=hbV.size;refine biE (fun hc=>?_) fun hc=>?_
  ·have hc:(k:Int)<(n:Int):=dT hc;have hkn:k<n:=by omega
   have step:zan r.to (k+1)=zsF k (els (r.to k)) (zan r.to k):=by
    unfold zan;rw [QY,KT];rfl
   have h48:=zi2 h hr (a:=k) (by omega);have f0V:V.heap[L]?=some (.cells (ze r).toArray 30 (0,0)):=(hbV.block L (by omega)).trans (zb hbZ f0Y);have hTV:Tz64M V:=hT.below (hbwZ.trans (hbV.mono (by omega)));refine⟨k,rfl,by omega,?_⟩;refine⟨_,zbR f0V (by omega),cmo (zaM (hr k (by omega)) hTV) ?_⟩;rintro e U ⟨rfl,hbU⟩;refine⟨(Nat->Nat)×Nat,fun q=>⟨[(1,At0 L),(2,At0 (L+1)),(3,At0 M),(4,i64 (k:Nat)),(5,s64 q.2),(6,i64 ((els q.2).headD 0:Nat)),(7,.bool (!(els q.2).isEmpty)),(16,i64 n),(17,i64 (k:Nat))],[]⟩,
    fun q T=>(zan r.to (k+1)=zsF k (els q.2) q.1/\zI q.1/\q.2<2^64/\∀ b∈els q.2,b<48)/\T.heap[M]?=some (.cells (ze ⟨n,q.1⟩).toArray 30 (0,0))/\Below M Z T,fun q=>q.2,(zan r.to k,r.to k),
    (cvE rfl rfl),⟨⟨step,hwV,hr k (by omega),fun b hb=>(h48 b hb).2⟩,zb hbU fV,hbV.trans (hbU.mono (by omega))⟩,?_⟩
   rintro⟨g,q⟩ T ⟨⟨he,hg,hq,hb48⟩,fT,hbT⟩;dsimp only at he hg hq hb48 fT ⊢;have sT:=hbT.size;refine biE (fun hc=>?_) fun hc=>?_
   ·have h0:=zeZ hq hc;obtain⟨e1,e2,_,e3⟩:=ju h0 hq;have hd:=(zbD h0 hq).1;have hc48:ctz q<48:=hb48 _ (by rw [e1];exact Kz);rw [hd];refine DrawE.ord [9] [0,1,2,3,4,5,6,7,8,9] (by kernel_rfl) ⟨ctz q,rfl,hc48,_,zbR (hdr fT) hc48,by omega,_,jU (e:=k) (by omega),_,zao (hg _ hc48) (zZ (by omega)),ctz q,rfl,hc48,zu k27 (hdr fT) (o:=0+1+ctz q*1) (v:=s64 (g (ctz q)|||2^k)) rfl rfl (by rw [zf];omega) rfl fun S fS gS sS=>?_⟩;rw [UX,Gd,zex _ hc48] at fS;have hdT:Bw T T.drew:=(Gh _ T).drew;have hbS:Below M Z S:=(hbT.trans (hdT.mono (show M<=T.heap.size by omega))).trans (zm gS (show M<=T.heap.size by omega) (Gc _));refine⟨((q-1:Nat):Int),(w64 (a:=(q:Int)-1) (by omega)).trans (by omega),((qB q:Nat):Int),jV (a:=q) (b:=q-1) hq (by omega),cmo (zaM (s:=qB q) (by omega) (hT.below (hbwZ.trans (hbS.mono (by omega))))) ?_⟩;rintro e R ⟨rfl,hbR⟩;have sS2:=hbS.size;refine⟨(upd g (ctz q) (g (ctz q)|||2^k),qB q),(cvE rfl rfl),⟨⟨?_,zf4 hg (KY (hg _ hc48) (zZ (by omega))),by show qB q<_;omega,fun b hb=>hb48 b (by rw [e1];exact JW _ hb)⟩,zb hbR fS,hbS.trans (hbR.mono (by omega))⟩,e2⟩;rw [he,e1];rfl
   ·have hc:(els q).isEmpty=true:=(by simpa using hc);have:=zgn hq hc;subst this;rw [zbF] at he;have he:zan r.to (k+1)=g:=he;exact nxI (by omega) ⟨k+1,(cvE rfl rfl),⟨hkn,by rw [he];exact fT,by rw [he];exact hg,hbT⟩,zdc (by omega)⟩
  ·have hc:¬ (k:Int)<(n:Int):=dF hc;obtain rfl:k=n:=by omega
   exact⟨(),(cvE rfl rfl),fV,(hbV.block (L+1) (by omega)).trans (zb hbZ f1Y),hbwZ.trans (hbV.mono (by omega)),hwV⟩
 clear fZ sZ pM hbwZ hbZ Z;rintro _ V ⟨fM,f1V,hbV,hw⟩;exact⟨ze ⟨n,zan r.to n⟩,zf _,za fM,hlt fM,zy (v := .agg (ze ⟨n,zan r.to n⟩).toArray) k30 f1V rfl rfl (zK _) ⟨ze ⟨n,zan r.to n⟩,zf _,za (zq f1V),rfl,zl hbV (by omega) _,hw⟩⟩
theorem zn5 {p:Nat->Bool} {x:Nat} {l:List Nat}:(x::l).find? p=if p x then some x else l.find? p:=by
 rw [List.find?_cons]
 cases p x <;> rfl
theorem ztp {b left:Nat} (f:w.heap[b]?=some (.cells (ze r).toArray 30 (0,0))) (hr:zI r.to) (hs:left<2^64) (h48:∀ i∈els left,i<48) (hT:Tz64M w) :
  CB 165 #[At0 b,s64 left] w (.tuple #[i64 ((zdO r.to left).getD 0:Nat),.bool (zdO r.to left).isSome]):=by
 refine zD 35 [At0 b,s64 left] Tryz.func165 ?_;refine cmo (zaM hs hT) ?_;rintro e X ⟨rfl,hbX⟩;refine⟨Nat,fun q=>⟨[(0,At0 b),(1,s64 left),(6,s64 q),(7,i64 ((els q).headD 0:Nat)),(8,.bool (!(els q).isEmpty))],[]⟩,
  fun q Y=>zdO r.to left=(els q).find? (fun a=>decide (r.to a&&&left=0))/\(q<2^64/\∀ i∈els q,i<48)/\Bw w Y,fun q=>q,left,
  (cvE rfl rfl),⟨rfl,⟨hs,h48⟩,hbX⟩,?_⟩
 clear hbX X;rintro q X ⟨he,⟨hq,h48⟩,hbX⟩;refine biE (fun hc=>?_) fun hc=>?_
 ·have h0:=zeZ hq hc;obtain⟨e1,e2,_,e3⟩:=ju h0 hq;have hd:=(zbD h0 hq).1;have hc48:ctz q<48:=h48 _ (by rw [e1];exact Kz);have fX:=zb hbX f;refine⟨ctz q,Gq Nat.cast hd.symm,hc48,_,zbR fX hc48,_,jV (hr _ hc48) hs,?_⟩;rw [e1,zn5] at he;refine biE (fun h=>?_) fun h=>?_
  ·have h:r.to (ctz q)&&&left=0:=UB (dT h);rw [Ut h] at he;have he:zdO r.to left=some (ctz q):=he;exact⟨by rw [he,<- hd];rfl,hbX⟩
  ·have h:¬ r.to (ctz q)&&&left=0:=fun e=>by
    have h:¬ (((r.to (ctz q)&&&left:Nat):Int)=0):=dF h;exact h (by rw [e];rfl)
   rw [Uj h] at he;refine⟨((q-1:Nat):Int),(w64 (a:=(q:Int)-1) (by omega)).trans (by omega),((qB q:Nat):Int),jV (a:=q) (b:=q-1) hq (by omega),cmo (zaM (s:=qB q) (by omega) (hT.below hbX)) ?_⟩;rintro e Y ⟨rfl,hbY⟩;exact⟨qB q,(cvE rfl rfl),⟨he,⟨by omega,fun i hi=>h48 i (by rw [e1];exact JW _ hi)⟩,(zst hbX hbY)⟩,e2⟩
 ·have hc:(els q).isEmpty=true:=by simpa using hc
  have:=zgn hq hc;subst this;rw [zbF] at he;have he:zdO r.to left=none:=he;exact⟨by rw [he];rfl,hbX⟩
end
theorem zhq {s a:Nat} (hs:s<2^64) (ha:a∈els s):els (jx s (2^a))=(els s).filter (fun i => !decide (i=a)):=by
 have ha64:=ztz ha;unfold els;rw [List.filter_filter];apply KR;intro i hi;rw [zfr (zZ ha64) (Uq.1 hi),Kn,Bool.and_comm];congr 2;exact QH.2 ⟨fun h=>h.symm,fun h=>h.symm⟩
theorem zcG {s a:Nat} (hs:s<2^64) (ha:a∈els s):(els (jx s (2^a))).length<(els s).length:=by
 rw [zhq hs ha];exact List.length_filter_lt_length_iff_exists.2 ⟨a,ha,by simp⟩
theorem zpA {s a:Nat} (hs:s<2^64) (ha:a∈els s):jx s (2^a)<s:=by
 have h1:jx s (2^a)<=s:=Ua;have h2:jx s (2^a)≠s:=fun e=>by
  have:=zcG hs ha;rw [e] at this;omega
 omega
theorem zjj {n:Nat} (h:n<=64):els (zat n)=List.range n:=by
 have e:∀ i∈List.range 64,(zat n).testBit i=decide (i<n):=fun i hi=>by
  rw [zhC (by omega) (by omega) (Uq.1 hi)];exact QH.2 (by omega)
 unfold els;rw [KR e];obtain⟨m,hm⟩:∃ m,64=n+m:=⟨64-n,by omega⟩;rw [hm,List.range_add,Kv];have f1:(List.range n).filter (fun i=>decide (i<n))=List.range n:=by
  rw [List.filter_eq_self];intro i hi;simpa using hi
 have f2:((List.range m).map (n + ·)).filter (fun i=>decide (i<n))=[]:=by
  rw [JB];intro i hi;obtain⟨j,_,rfl⟩:=UO.1 hi;simp
 rw [f1,f2,QM]
theorem zpP {before:Nat->Nat} {left a:Nat} (h:zdO before left=some a):a∈els left:=List.mem_of_find?_eq_some h
section
variable {r:RelD} {w:Wd}
theorem zvg (hr:zI r.to) (hT:Tz64M w):Calls PG 113 #[.agg (ze r).toArray] w fun e w' =>
  (∃ p c,e = .returned (.tuple #[.slice p ((zfa r).getD []).length c,.bool (zfa r).isSome])/\OwnS zC 3 w.heap.size w' p c ((zfa r).getD []))/\Bw w w':=by
 refine z6 38 [.agg (ze r).toArray] (.c .p (.s .p (.c .p (.c .p (.s .p .p))))) Tryz.func113 ?_;obtain⟨L,hL⟩:=nm (w.heap.size);refine⟨Unit,fun _=>⟨[(1,At0 L)],[]⟩,fun _ X=>X.heap[L]?=some (.cells (ze r).toArray 30 (0,0))/\X.heap.size=L+1/\Bw w X,⟨(),⟨.cons (by rw [hL];rfl) .nil,rfl⟩,by rw [hL];exact zA w _,by rw [hL];exact wz _ _,(zba w _)⟩,?_⟩;rintro _ X ⟨f0,sX,hbX⟩;refine⟨ze r,zf _,za f0,hlt f0,cmo (je hr) ?_⟩;rintro e Y ⟨rfl,hbY⟩;have hbwY:=zst hbX hbY;have f0Y:=zb hbY f0;refine biE (fun h=>?_) fun h=>?_
 ·have h:okR r=false:=by
   have h:(!okR r)=true:=h;simpa using h
  have e:zfa r=none:=by unfold zfa;rw [h];rfl
  rw [e];exact⟨⟨none,0,rfl,OwnS.nil⟩,hbwY⟩
 have h:okR r=true:=by
  have h:(!okR r)=false:=h;simpa using h
 obtain⟨p0,p48,_⟩:=jp h;obtain⟨n,hn⟩:∃ n:Nat,r.n=n:=⟨r.n.toNat,by omega⟩;have hn48:n<=48:=by omega
 have sY:=hbY.size;refine⟨Nat,fun M=>⟨[(1,At0 L),(4,At0 M)],[]⟩,fun M Z=>Z.heap[M]?=some (.cells (ze (qP r)).toArray 30 (0,0))/\L<M/\Z.heap[L]?=some (.cells (ze r).toArray 30 (0,0))/\zI (qP r).to/\Bw w Z,?_,?_⟩
 ·refine⟨ze r,zf _,za f0Y,hlt f0Y,cmo (zhF hr (hT.below hbwY)) ?_⟩;rintro e Z ⟨rfl,hbZ,hw⟩;refine zk (X:=Z) (v := .agg (ze (qP r)).toArray) k30 rfl rfl (zK _) fun V hbV fV sV=>?_;have sZ:=hbZ.size;exact⟨Z.heap.size,(cvE rfl rfl),fV,by omega,zb hbV (zb hbZ f0Y),hw,((zst hbwY hbZ)).trans (hbV.mono (by omega))⟩
 clear f0 sX hbX hbY hbwY f0Y sY Y X;rintro M X ⟨fM,hLM,f0,hw,hbX⟩;refine⟨Unit,fun _=>⟨[(1,At0 L),(4,At0 M),(5,s64 (zat n))],[]⟩,fun _ Y=>X=Y,?_,?_⟩
 ·refine⟨i64 n,by rw [<- hn];exact zc (za f0) (i:=0) rfl,cmo zhG ?_⟩;rintro e _ ⟨rfl,rfl⟩;exact⟨(),(cvE rfl rfl),rfl⟩
 rintro _ _ rfl;refine⟨i64 n,by rw [<- hn];exact zc (za f0) (i:=0) rfl,zda (E:=zC) Tryz.underlying128 k3 rfl rfl rfl n (by show 8*n<=_;omega) (by unfold maxLen;omega) fun Z oZ hbZ sZ=>?_⟩;have hbwZ:=zst hbX hbZ;have wX:=hbX.size;have eT:zfa r=zoD (qP r).to 64 (zat n) []:=by unfold zfa;rw [Gx h,ze5,hn]
 have hMX:=hlt fM;refine⟨Nat×List Nat×Nat×OA×Nat,fun q=>⟨[(1,At0 L),(4,At0 M),(5,s64 q.1),(6,.slice q.2.2.2.1 q.2.1.length q.2.2.2.2)],[]⟩,
  fun q Y=>(zfa r=zoD (qP r).to q.2.2.1 q.1 q.2.1/\(els q.1).length<=q.2.2.1/\q.2.2.1+q.2.1.length=64/\q.1<2^64/\∀ i∈els q.1,i<48)/\OwnS zC 3 X.heap.size Y q.2.2.2.1 q.2.2.2.2 q.2.1/\Bw X Y,fun q=>q.1,(zat n,[],64,some ⟨X.heap.size,0,none⟩,n),
  (cvE rfl rfl),⟨⟨eT,zeY _,rfl,jY _,fun i hi=>by
   rw [show els (zat n)=List.range n from zjj (by omega)] at hi;have:=Uq.1 hi;omega⟩,oZ,hbZ⟩,?_⟩
 rintro⟨q,l,m,p,c⟩ Y ⟨⟨he,hm,hml,hq,h48⟩,ho,hbY⟩;dsimp only at he hm hml hq h48 ho ⊢;have sY:=hbY.size;refine biE (fun hc=>?_) fun hc=>?_
 ·have hc:(!decide ((q:Int)=0))=true:=hc;have h0:q≠0:=fun e=>by
   subst e;exact Gy hc (by decide)
  obtain⟨e1,_,_,_⟩:=ju h0 hq;have hm1:1<=(els q).length:=by rw [e1];simp
  obtain⟨m,rfl⟩:∃ m',m=m'+1:=⟨m-1,by omega⟩;have fMY:=zb hbY fM;have step:zfa r=match zdO (qP r).to q with | none=>none | some a=>zoD (qP r).to m (za7 q (2^a)) (l++[a]):=by
   rw [he];show (if q=0 then some l else _)=_;rw [Gw h0]
   cases zdO (qP r).to q <;> rfl
  refine cmo (ztp fMY hw hq h48 (hT.below (hbX.trans (hbY.mono wX)))) ?_;rintro e V ⟨rfl,hbV⟩;have hbXV:=hbY.trans (hbV.mono sY)
  cases hf:zdO (qP r).to q with
  | none =>
   rw [hf] at step;refine brT ?_;have e:zfa r=none:=step;rw [e];exact⟨⟨none,0,rfl,OwnS.nil⟩,hbX.trans (hbXV.mono wX)⟩
  | some a =>
   rw [hf] at step;refine brF ?_;have ha:=zpP hf;have ha48:=h48 a ha;refine⟨⟨by decide,by decide,rfl⟩,zC.enc a,rfl,?_⟩;have hba:Bw V (V.alloc (.cells (zC.enc a).toArray 3)):=zba _ _;have hYa:Bw Y (V.alloc (.cells (zC.enc a).toArray 3)):=zst hbV hba;have sa:(V.alloc (.cells (zC.enc a).toArray 3)).heap.size=V.heap.size+1:=wz _ _;have sV:=hbV.size;refine ji (E:=zC) (T:=3) (B:=X.heap.size) (l:=l) (news:=[a]) (cap:=c) (m:=1) Tryz.underlying128 k3 rfl rfl rfl (ho.below hYa) rfl (qF zC a) (by omega) (by omega) (by show (l.length+1)*8<=_;omega) ?_;intro p2 c2 U oU gU hbU hat;refine⟨by omega,_,jU (e:=a) (by omega),_,zcd hq (zZ (by omega)),?_⟩;have hlen:=zcG hq ha;refine⟨(jx q (2^a),l++[a],m,p2,c2),(cvE rfl rfl),⟨⟨step,by show (els (jx q (2^a))).length<=m;omega,by simp only [lap,Qt,QR];omega,zg4 hq,fun i hi=>?_⟩,oU,?_⟩,zpA hq ha⟩
   ·rw [zhq hq ha] at hi;exact h48 i (QV.1 hi).1
   ·exact (hbY.trans (hYa.mono sY)).trans hbU
 ·have hc:(!decide ((q:Int)=0))=false:=hc;have h0:q=0:=by
   have h1:decide ((q:Int)=0)=true:=by simpa using hc
   exact UB (dT h1)
  subst h0;have e:zfa r=some l:=by
   rw [he]
   cases m <;> rfl
  rw [e];exact⟨⟨p,c,rfl,OwnS.lower ho wX⟩,hbX.trans (hbY.mono wX)⟩
theorem ziJ (hr:zI r.to) (hT:Tz64M w):CB 68 #[.agg (ze r).toArray] w (.bool (zjt r)):=by
 refine zD 11 [.agg (ze r).toArray] Tryz.func68 ?_;have f0:=zA w (.cells (ze r).toArray 30);have hb:Bw w (w.alloc (.cells (ze r).toArray 30)):=zba w _;refine⟨ze r,zf _,za f0,hlt f0,cmo (zvg hr (hT.below hb)) ?_⟩;rintro e X ⟨⟨p,c,rfl,_⟩,hbX⟩;exact⟨rfl,(zst hb hbX)⟩
end
end Go.Proofs.YtnadlhpkpnfmbaaGreatDoor
namespace Go.Vc
open Go.RowKit
theorem KeepsG.more {F G:Nat->Prop} {A B:Wd} {g:Nat} (h:KeepsG G F A B) (hg:G g):KeepsG G (fun k=>F k\/k=g) A B :=
 ⟨h.os,h.tape,h.output,h.size,h.same,fun k hk=>hk.elim (h.fp k) fun e => .inl (by rw [e];exact hg)⟩
theorem zsc {α:Type} {E:Enc α} {P:Program} {w:Wd} {t T ty B g cap m c:Nat} {a:Addr} {l news:List α} {iT:TI} (hu:P.underlying t=some (.slice T)) (hT:TIok P T iT) (hs:iT.size=E.sz)
  (ho:OwnS E T B w (some ⟨g,0,none⟩) cap l) (hm:news.length=m) (hn:zo w a (news.flatMap E.enc)) (hroom:l.length+m<=cap) {K:Value->Wd->Prop}
  (k:∀ w',OwnS E T B w' (some ⟨g,0,none⟩) cap (l++news)->w.grownBy w' (some g)->K (.slice (some ⟨g,0,none⟩) (l++news).length cap) w') :
  SatR ((Builtin.append_ #[t,t] ty #[.slice (some ⟨g,0,none⟩) l.length cap,.slice (some a) m c]).run P w) K:=by
 obtain⟨⟨inf,hi,hsz,_,_⟩,_⟩:=hT;obtain⟨w',hr,ho',hg⟩:=run_append_fits (P:=P) w B t ty T inf E.sz hu hi (hsz.trans hs) g l.length cap (l.flatMap E.enc) ho a m c (news.flatMap E.enc) (by rw [qC,hm]) hn (zhi news) hroom;refine SatR.mk hr ?_;have hl:l.length+m=(l++news).length:=by simp [hm]
 have hf:l.flatMap E.enc++news.flatMap E.enc=(l++news).flatMap E.enc:=by rw [Kf]
 rw [hl,hf] at ho';rw [hl];exact k w' ho' hg
theorem OwnS.pref {α:Type} {E:Enc α} {T B cap g:Nat} {w:Wd} {l m:List α} (h:OwnS E T B w (some ⟨g,0,none⟩) cap (l++m)):OwnS E T B w (some ⟨g,0,none⟩) cap l:=by
 rcases h.inv with ⟨h,_⟩ | ⟨g',cur,hg,hB,hc,hl,hm,hs,ht⟩
 ·cases h
 ·simp only [KZ,Uv,Gp] at hg;subst hg;unfold OwnS World.ownsRow;refine⟨by rw [qC],.inr ⟨g,cap,cur,rfl,hB,hc,by rw [lap] at hl;omega,hm,hs,?_⟩⟩;have:=Gq (List.take (l.length*E.sz)) ht;rw [List.take_take,Kf,QZ (qC l)] at this;rw [<- this];congr 1;rw [lap,Gb];omega
theorem zx {α:Type} {E:Enc α} {T B c:Nat} {Y:Wd} {q:OA} {l:List α} (h:OwnS E T B Y q c l) {a:Addr} (ha:q=some a):B<=a.block/\a.block<Y.heap.size/\∃ cur,Y.heap[a.block]?=some (.cells cur T (0,0)):=by
 rcases h.inv with ⟨h1,_⟩ | ⟨g,cur,h1,h2,h3,_⟩
 ·rw [h1] at ha;cases ha
 ·rw [h1] at ha;cases ha;exact⟨h2,hlt h3,cur,h3⟩
structure Gath {α:Type} (E:Enc α) (T TS B n0 L:Nat) (W:Wd) (NIn:(Nat->Prop)->Wd->α->Prop) (xs:List α) (F:Nat->Prop) (Y:Wd):Prop where
 size:n0<=Y.heap.size
 inL:F L
 lt:∀ k,F k->k<Y.heap.size
 row:∃ (p:OA) (c:Nat),Y.heap[L]?=some (.cells [.slice p xs.length c].toArray TS (0,0))/\OwnS E T B Y p c xs/\∀ a,p=some a->F a.block
 nest:∀ x∈xs,NIn F Y x
 old:Below B W Y
def ziG {α:Type} (T TS:Nat) (NIn:(Nat->Prop)->Wd->α->Prop):Prop :=
 ∀ (F G:Nat->Prop) (Y Z:Wd) (x:α),NIn F Y x->(∀ k cur T',F k->Y.heap[k]?=some (.cells cur T' (0,0))->T'≠T->T'≠TS->Z.heap[k]?=Y.heap[k]?)->(∀ k,F k->G k)->NIn G Z x
theorem Gath.iter {α σ:Type} {E:Enc α} {T TS B n0 L:Nat} {W:Wd} {NIn:(Nat->Prop)->Wd->α->Prop} {f:σ->List α->Prop} (hN:ziG T TS NIn) (hB:B<=n0) :
  JG n0 (fun _=>False) (fun (s:σ) F Y=>∃ xs,f s xs/\Gath E T TS B n0 L W NIn xs F Y):=by
 refine⟨?_,?_⟩
 ·rintro s F A C ⟨xs,hf,h⟩ hs;have sf:∀ k,F k->k<A.heap.size->C.heap[k]?=A.heap[k]?:=fun k hk hl=>hs.same k hl (.inr hk);obtain⟨p,c,h1,h2,h3⟩:=h.row;exact⟨xs,hf,UT h.size hs.size,h.inL,fun k hk=>nL (h.lt k hk) hs.size,⟨p,c,(sf L h.inL (h.lt L h.inL)).trans h1,h2.same fun a ha=>sf _ (h3 a ha) (h.lt _ (h3 a ha)),h3⟩,
   fun x hx=>hN F F A C x (h.nest x hx) (fun k _ _ hk _ _ _=>sf k hk (h.lt k hk)) fun k h=>h,h.old.trans ⟨hs.os,hs.tape,hs.output,hs.size,fun k hk=>hs.same k (nL (nL hk hB) h.size) (.inl ⟨by omega,fun h=>h⟩)⟩⟩
 ·rintro s F A k ⟨xs,_,h⟩ hk;exact⟨h.lt k hk,fun h=>h⟩
theorem Gath.stepX {α:Type} {E:Enc α} {P:Program} {T TS B n0 L ty cap1:Nat} {W Y2 Y3:Wd} {NIn:(Nat->Prop)->Wd->α->Prop} {xs:List α} {F:Nat->Prop} {iT iS:TI} {z:List Value} (hN:ziG T TS NIn) (hne:T≠TS)
  (hu:P.underlying TS=some (.slice T)) (hT:TIok P T iT) (hz:iT.zero=some z) (hs:iT.size=E.sz) (hzl:z.length=E.sz) (hS:TIok P TS iS) (hS1:iS.size=1)
  (h:Gath E T TS B n0 L W NIn xs F Y2) (hB:B<=n0) (hL:B<=L) (hb3:Bw Y2 Y3) (nx:α) (hl:xs.length+1<=4611686018427387904) (hby:(xs.length+1)*iT.bytes<=140737488355328)
  (zA:∀ (G:Nat->Prop) (Z:Wd),(∀ k,Y2.heap.size<=k->k<Y3.heap.size->Z.heap[k]?=Y3.heap[k]?)->(∀ k,Y2.heap.size<=k->k<Y3.heap.size->G k)->(∀ k cur T',F k->Y2.heap[k]?=some (.cells cur T' (0,0))->T'≠T->T'≠TS->Z.heap[k]?=Y2.heap[k]?)->(∀ k,F k->G k)->NIn G Z nx) :
  ∀ p c,Y2.heap[L]?=some (.cells [.slice p xs.length c].toArray TS (0,0)) ->
  ∃ v Y5,(Builtin.append_ #[TS,TS] ty #[.slice p xs.length c,.slice (some ⟨Y3.heap.size,0,none⟩) 1 cap1]).run P (Y3.alloc (.cells (E.enc nx).toArray T)) = .ok v Y5 /\
   ∃ Z,(storeVar TS ⟨L,0,none⟩ v).run P Y5 = .ok () Z/\∃ F',Gath E T TS B n0 L W NIn (xs++[nx]) F' Z/\KeepsG F F' Y2 Z/\∀ k,F k->F' k:=by
 intro p c h4;obtain⟨p',c',h4',h5,h6⟩:=h.row;rw [h4] at h4';simp at h4';obtain⟨rfl,rfl⟩:=h4';have h1:=h.size;have h2:=h.inL;have h3:=h.lt;have hba:Bw Y3 (Y3.alloc (.cells (E.enc nx).toArray T)):=zba _ _;have sa:(Y3.alloc (.cells (E.enc nx).toArray T)).heap.size=Y3.heap.size+1:=wz _ _;have s3:Y2.heap.size<=Y3.heap.size:=hb3.size;have hb2:Bw Y2 (Y3.alloc (.cells (E.enc nx).toArray T)):=hb3.trans (hba.mono s3);have hap:SatR ((Builtin.append_ #[TS,TS] ty #[.slice p xs.length c,.slice (some ⟨Y3.heap.size,0,none⟩) 1 cap1]).run P (Y3.alloc (.cells (E.enc nx).toArray T))) fun v Y5=>∃ p2 c2,v = .slice p2 (xs++[nx]).length c2/\OwnS E T B Y5 p2 c2 (xs++[nx])/\(Y3.alloc (.cells (E.enc nx).toArray T)).grownBy Y5 (Value.slice p xs.length c).ownBlock/\∀ a,p2=some a->p=some a\/a.block=(Y3.alloc (.cells (E.enc nx).toArray T)).heap.size :=
  ji (E:=E) (T:=T) (B:=B) (l:=xs) (news:=[nx]) (cap:=c) (m:=1) hu hT hz hs hzl (h5.below hb2) rfl (by
   have:=ziC (w:=Y3) (cs:=(E.enc nx).toArray) (t:=T);simpa using this) (by omega) (by omega) hby fun p2 c2 Y5 o5 g5 hb5 hat=>⟨p2,c2,rfl,o5,g5,hat⟩
 obtain⟨v,Y5,hrun,p2,c2,rfl,o5,g5,hat⟩:=hap;have pb:∀ {k:Nat},(Value.slice p xs.length c).ownBlock=some k->∃ a,p=some a/\a.block=k:=fun {k} e=>by
  cases hp:p with
  | none=>rw [hp] at e;simp [Value.ownBlock] at e
  | some a =>
   rw [hp] at e;simp only [Value.ownBlock,KZ] at e;exact⟨a,rfl,e⟩
 have h4':Y5.heap[L]?=some (.cells [.slice p xs.length c].toArray TS (0,0)):=by
  refine (g5.block L (hlt (zb hb2 h4)) fun e=>?_).trans (zb hb2 h4);obtain⟨a,hp,e⟩:=pb e.symm;obtain⟨_,_,cur,hcur⟩:=zx h5 hp;rw [e,h4] at hcur;simp at hcur;exact hne hcur.2.symm
 have hst:SatR ((storeVar TS ⟨L,0,none⟩ (.slice p2 (xs++[nx]).length c2)).run P Y5) fun _ Z=>Z.heap[L]?=some (.cells [.slice p2 (xs++[nx]).length c2].toArray TS (0,0))/\Y5.grownBy Z (some L)/\Z.heap.size=Y5.heap.size :=
  zu hS h4' (o:=0) (v := .slice p2 (xs++[nx]).length c2) rfl hS1 (by show 0<1;decide) rfl fun Z fZ gZ sZ=>⟨fZ,gZ,sZ⟩
 obtain⟨u,Z,hrun2,fZ,gZ,sZ⟩:=hst;have s5:=g5.size;refine⟨_,Y5,hrun,Z,hrun2,fun k=>F k\/(Y2.heap.size<=k/\k<Z.heap.size),?_⟩;have wr:∀ k,k<Y2.heap.size->k≠L->(∀ a,p=some a->k≠a.block)->Z.heap[k]?=Y2.heap[k]?:=fun k hk hne hnp=>by
  refine (gZ.block k (by omega) (by simpa using hne)).trans ((g5.block k (by omega) fun e=>?_).trans (hb2.block k hk));obtain⟨a,hp,e⟩:=pb e.symm;exact hnp a hp e.symm
 have new:∀ k,Y2.heap.size<=k->k<Y3.heap.size->Z.heap[k]?=Y3.heap[k]?:=fun k hk1 hk2=>by
  have hL2:=h3 L h2;refine (gZ.block k (by omega) (by simp;omega)).trans ((g5.block k (by omega) fun e=>?_).trans (hba.block k hk2));obtain⟨a,hp,e⟩:=pb e.symm;have:=h3 _ (h6 a hp);omega
 have ty':∀ k cur T',F k->Y2.heap[k]?=some (.cells cur T' (0,0))->T'≠T->T'≠TS->Z.heap[k]?=Y2.heap[k]?:=fun k cur T' hk hc t1 t2=>by
  refine wr k (h3 k hk) (fun e=>?_) fun a ha e=>?_
  ·rw [e,h4] at hc;simp at hc;exact t2 hc.2.symm
  ·obtain⟨_,_,cur',hcur'⟩:=zx h5 ha;rw [<- e,hc] at hcur';simp at hcur';exact t1 hcur'.2
 refine⟨⟨by omega,.inl h2,fun k hk=>?_,⟨p2,c2,fZ,o5.kept gZ fun g hg e=>?_,fun a ha=>?_⟩,fun y hy=>?_,?_⟩,⟨gZ.os.trans (g5.os.trans hb2.os),gZ.tape.trans (g5.tape.trans hb2.tape),gZ.output.trans (g5.output.trans hb2.output),by omega,fun k hk hf=>wr k hk (fun e=>hf (by rw [e];exact h2)) (fun a ha e=>hf (by rw [e];exact h6 a ha)),fun k hk=>hk.imp id fun h=>h.1⟩,fun k hk => .inl hk⟩
 ·rcases hk with hk | hk
  ·have:=h3 k hk;omega
  ·exact hk.2
 ·obtain⟨_,_,cur,hcur⟩:=zx o5 hg;simp only [KZ] at e;have hcur:Y5.heap[g]?=_:=hcur;rw [<- e,h4'] at hcur;simp at hcur;exact hne hcur.2.symm
 ·rcases hat a ha with h | h
  ·exact .inl (h6 a h)
  ·have:=(zx o5 ha).2.1;exact .inr ⟨by omega,by omega⟩
 ·rcases QU.1 hy with hy | hy
  ·exact hN F _ Y2 Z y (h.nest y hy) ty' fun k hk => .inl hk
  ·simp only [KA] at hy;subst hy;exact zA _ Z new (fun k hk1 hk2 => .inr ⟨hk1,by omega⟩) ty' fun k hk => .inl hk
 ·refine h.old.trans ⟨gZ.os.trans (g5.os.trans hb2.os),gZ.tape.trans (g5.tape.trans hb2.tape),gZ.output.trans (g5.output.trans hb2.output),by omega,fun k hk=>wr k (by omega) (by omega) fun a ha=>?_⟩;have:=(zx h5 ha).1;omega
theorem Gath.step {α:Type} {E:Enc α} {P:Program} {T TS B n0 L ty cap1:Nat} {W Y2 Y3:Wd} {NIn:(Nat->Prop)->Wd->α->Prop} {xs:List α} {F:Nat->Prop} {iT iS:TI} {z:List Value} (hN:ziG T TS NIn) (hne:T≠TS)
  (hu:P.underlying TS=some (.slice T)) (hT:TIok P T iT) (hz:iT.zero=some z) (hs:iT.size=E.sz) (hzl:z.length=E.sz) (hS:TIok P TS iS) (hS1:iS.size=1)
  (h:Gath E T TS B n0 L W NIn xs F Y2) (hB:B<=n0) (hL:B<=L) (hb3:Bw Y2 Y3) (nx:α) (hl:xs.length+1<=4611686018427387904) (hby:(xs.length+1)*iT.bytes<=140737488355328)
  (zA:∀ (G:Nat->Prop) (Z:Wd),(∀ k,Y2.heap.size<=k->k<Y3.heap.size->Z.heap[k]?=Y3.heap[k]?)->(∀ k,Y2.heap.size<=k->k<Y3.heap.size->G k)->NIn G Z nx) :
  ∀ p c,Y2.heap[L]?=some (.cells [.slice p xs.length c].toArray TS (0,0)) ->
  ∃ v Y5,(Builtin.append_ #[TS,TS] ty #[.slice p xs.length c,.slice (some ⟨Y3.heap.size,0,none⟩) 1 cap1]).run P (Y3.alloc (.cells (E.enc nx).toArray T)) = .ok v Y5 /\
   ∃ Z,(storeVar TS ⟨L,0,none⟩ v).run P Y5 = .ok () Z/\∃ F',Gath E T TS B n0 L W NIn (xs++[nx]) F' Z/\KeepsG F F' Y2 Z/\∀ k,F k->F' k :=
 h.stepX hN hne hu hT hz hs hzl hS hS1 hB hL hb3 nx hl hby fun G Z h1 h2 _ _=>zA G Z h1 h2
end Go.Vc
namespace Go.Proofs.YtnadlhpkpnfmbaaGreatDoor
open Go.Vc Go.RowKit Go.Sei
abbrev qj (X : Wd) (b : Nat) (r : RelD) : Prop := X.heap[b]? = some (.cells (ze r).toArray 30 (0, 0))
def StO (pre : List (List Nat)) (vs : List Value) (W : Wd) : Prop := ∃ l q c, pre.getLast? = some l ∧ vs = [.slice q l.length c] ∧ SlR zC W q l ∧ (q = none → c = 0) ∧ ∀ a, q = some a → ∃ cur, W.heap[a.block]? = some (.cells cur 3 (0, 0))
section
variable {yl n0 n bB : Nat} {J Jx : List (List Nat) → (Nat → Prop) → Wd → Prop} {xs : List (List Nat)} {r : RelD}
theorem zpU (hJ : JG n0 (fun _ => False) J) (hn0 : ∀ pre F X, J pre F X → n0 ≤ X.heap.size) (hy : ∀ pre x vs F W1, J pre F W1 → StO (pre ++ [x]) vs W1 → (pre ++ [x]) <+: xs → YieldR PG yl vs.toArray W1 fun v W2 =>
      (v = .bool true ∧ ∃ F', J (pre ++ [x]) F' W2 ∧ KeepsG F F' W1 W2) ∨ (v = .bool false ∧ ∃ F', Jx (pre ++ [x]) F' W2)) (hr : zI r.to) (hn : n ≤ 48) (ht0 : 4 < n0) :
    ∀ (m left : Nat) (l : List Nat) (g : Nat) (pre : List (List Nat)) (F : Nat → Prop) (X : Wd), (els left).length ≤ m → left < 2 ^ 64 → (∀ i ∈ els left, i < 48) → l.length + (els left).length ≤ n → OwnS zC 3 n0 X (some ⟨g, 0, none⟩) n l → ¬ F g → J pre F X → qj X bB r → ¬ F bB → n0 ≤ bB → bB ≠ g → Tz64M X → ¬ F 4 → (pre ++ zco r.to m left l) <+: xs →
      Calls PG 269 #[At0 bB, s64 left, .slice (some ⟨g, 0, none⟩) l.length n, .func (.yield yl) #[] #[]] X fun e Y =>
        (e = .returned (.bool true) ∧ ∃ F', J (pre ++ zco r.to m left l) F' Y ∧ KeepsG (fun k => F k ∨ k = g) F' X Y ∧ OwnS zC 3 n0 Y (some ⟨g, 0, none⟩) n l ∧ ¬ F' g) ∨ (e = .returned (.bool false) ∧ ∃ pre' F', pre' <+: xs ∧ Jx pre' F' Y) := by
  intro m
  induction m with
  | zero =>
    intro left l g pre F X hm hlt64 h48 hln ho hFg hj hR hFb hbn hbg hT hFt hpre
    have h0 : left = 0 := by
      apply Jn
      intro h0
      rw [(ju h0 hlt64).1] at hm
      simp at hm
    subst h0
    refine qM (S := sg 56) (zbi _) (args := [At0 bB, s64 0, .slice (some ⟨g, 0, none⟩) l.length n, .func (.yield yl) #[] #[]]) Tryz.func269 rfl rfl (JS rfl) rfl ?_
    refine brT ?_
    have hs : zco r.to 0 0 l = [l] := rfl
    rw [hs] at hpre ⊢
    refine YieldR.mono (hy pre l [.slice (some ⟨g, 0, none⟩) l.length n] F X hj ⟨l, _, n, by simp, rfl, ho.row, fun h => (by cases h), fun a ha => (zx ho ha).2.2⟩ hpre) ?_
    rintro v Z (⟨rfl, F', hJZ, hKZ⟩ | ⟨rfl, F', hJZ⟩)
    · have hgl : g < X.heap.size := (zx ho rfl).2.1
      exact .inl ⟨rfl, F', hJZ, hKZ.weak fun k h => .inl h, ho.same fun a ha => by cases ha; exact hKZ.same g hgl hFg, fun h => by
        rcases hKZ.fp g h with h | h
        · exact hFg h
        · omega⟩
    · exact .inr ⟨rfl, _, F', hpre, hJZ⟩
  | succ m ih =>
    intro left l g pre F X hm hlt64 h48 hln ho hFg hj hR hFb hbn hbg hT hFt hpre
    refine qM (S := sg 56) (zbi _) (args := [At0 bB, s64 left, .slice (some ⟨g, 0, none⟩) l.length n, .func (.yield yl) #[] #[]]) Tryz.func269 rfl rfl (JS rfl) rfl ?_
    have hgl : g < X.heap.size := (zx ho rfl).2.1
    have hgn : n0 ≤ g := (zx ho rfl).1
    refine Gm (fun h => ?_) (fun h => ?_)
    · have h : left = 0 := UB (Qd h)
      subst h
      have hs : zco r.to (m + 1) 0 l = [l] := rfl
      rw [hs] at hpre ⊢
      refine YieldR.mono (hy pre l [.slice (some ⟨g, 0, none⟩) l.length n] F X hj ⟨l, _, n, by simp, rfl, ho.row, fun h => (by cases h), fun a ha => (zx ho ha).2.2⟩ hpre) ?_
      rintro v Z (⟨rfl, F', hJZ, hKZ⟩ | ⟨rfl, F', hJZ⟩)
      · exact .inl ⟨rfl, F', hJZ, hKZ.weak fun k h => .inl h, ho.same fun a ha => by cases ha; exact hKZ.same g hgl hFg, fun h => by
        rcases hKZ.fp g h with h | h
        · exact hFg h
        · omega⟩
      · exact .inr ⟨rfl, _, F', hpre, hJZ⟩
    have h : left ≠ 0 := fun e => (KI h) (by rw [e]; rfl)
    obtain ⟨G, hG⟩ : ∃ G : Nat → List (List Nat), G = fun a => if r.to a &&& left = 0 then zco r.to m (za7 left (2 ^ a)) (l ++ [a]) else [] := ⟨_, rfl⟩
    have hs : zco r.to (m + 1) left l = (els left).flatMap G := by
      rw [hG]
      show (if left = 0 then [l] else _) = _
      rw [Gw h]
    rw [hs] at hpre ⊢
    refine Gi (zaM hlt64 hT) ?_
    rintro e X1 ⟨rfl, hb1⟩
    refine ⟨Nat × List Nat × (Nat → Prop), fun s => ⟨[(0, At0 bB), (1, s64 left), (2, .slice (some ⟨g, 0, none⟩) l.length n), (3, .func (.yield yl) #[] #[]), (9, s64 s.1), (10, i64 ((els s.1).headD 0 : Nat)), (11, .bool (!(els s.1).isEmpty))], []⟩,
      fun s Z => (els left = s.2.1 ++ els s.1 ∧ s.1 < 2 ^ 64) ∧ J (pre ++ s.2.1.flatMap G) s.2.2 Z ∧ OwnS zC 3 n0 Z (some ⟨g, 0, none⟩) n l ∧ ¬ s.2.2 g ∧ qj Z bB r ∧ ¬ s.2.2 bB ∧ Tz64M Z ∧ ¬ s.2.2 4 ∧ KeepsG (fun k => F k ∨ k = g) s.2.2 X Z, fun s => s.1, (left, [], F),
      ⟨.cons rfl (.cons rfl (.cons rfl (.cons rfl (.cons rfl (.cons rfl (.cons rfl .nil)))))), rfl⟩, ⟨⟨rfl, hlt64⟩, by show J (pre ++ []) F X1; rw [QM]; exact hJ.step _ _ _ _ hj (.below hb1), ho.below hb1, hFg, zb hb1 hR, hFb, hT.below hb1, hFt, KeepsG.below hb1 fun k h => .inl (.inl h)⟩, ?_⟩
    rintro ⟨q, don, F1⟩ Z ⟨⟨he, hq⟩, hjZ, hoZ, hgZ, hRZ, hbZ, hTZ, htZ, kZ⟩
    dsimp only at he hq hjZ hgZ hbZ htZ kZ ⊢
    have hZn := hn0 _ _ _ hjZ
    refine Gm (fun hc => ?_) (fun hc => ?_)
    · have h0 := zeZ hq hc
      obtain ⟨e1, e2, _, e3⟩ := ju h0 hq
      have hd := (zbD h0 hq).1
      have hmem : ctz q ∈ els left := by rw [he, e1]; simp
      have hc48 : ctz q < 48 := h48 _ hmem
      rw [e1] at he
      have hpa : ∀ t, (don ++ [ctz q]).flatMap t = don.flatMap t ++ t (ctz q) := fun t : Nat → List (List Nat) => by
        rw [Kf, KS, Qq, QM]
      have next : ∀ {Y : Wd} {F2 : Nat → Prop}, J (pre ++ (don ++ [ctz q]).flatMap G) F2 Y → OwnS zC 3 n0 Y (some ⟨g, 0, none⟩) n l → ¬ F2 g → qj Y bB r → ¬ F2 bB → Tz64M Y → ¬ F2 4 → KeepsG (fun k => F k ∨ k = g) F2 X Y →
          ∀ Y2, Below Y.heap.size Y Y2 → ((els left = (don ++ [ctz q]) ++ els (qB q) ∧ qB q < 2 ^ 64) ∧ J (pre ++ (don ++ [ctz q]).flatMap G) F2 Y2 ∧ OwnS zC 3 n0 Y2 (some ⟨g, 0, none⟩) n l ∧ ¬ F2 g ∧ qj Y2 bB r ∧ ¬ F2 bB ∧ Tz64M Y2 ∧ ¬ F2 4 ∧ KeepsG (fun k => F k ∨ k = g) F2 X Y2) :=
        fun {Y F2} a1 a2 a3 a4 a5 a6 a7 a8 Y2 hb => ⟨⟨by rw [he]; simp, by omega⟩, hJ.step _ _ _ _ a1 (.below hb), a2.below hb, a3, zb hb a4, a5, a6.below hb, a7, a8.trans (KeepsG.below hb fun k h => .inl h)⟩
      refine DrawE.ord [18, 20] [0, 1, 2, 3, 4, 5, 6, 7, 8, 9, 10, 11, 12, 13, 14, 15, 16, 19, 17, 18, 20, 21, 22] (by kernel_rfl) ?_
      have hdZ : Below Z.heap.size Z Z.drew := (Gh _ _).drew
      refine ⟨ctz q, Gq Nat.cast hd.symm, hc48, ?_⟩
      refine ⟨_, zbR (hdr hRZ) hc48, ?_⟩
      refine ⟨_, jV (hr _ hc48) hlt64, ?_⟩
      refine Gm (fun hb => ?_) (fun hb => ?_)
      · have hb : r.to (ctz q) &&& left = 0 := UB (Qd hb)
        have hGc : G (ctz q) = zco r.to m (za7 left (2 ^ ctz q)) (l ++ [ctz q]) := by rw [hG]; exact Gx hb
        refine ⟨by omega, ((2 ^ ctz q : Nat) : Int), by rw [hd]; exact jU (e := ctz q) (by omega), ?_⟩
        refine ⟨_, zcd hlt64 (zZ (by omega)), ?_⟩
        refine ⟨⟨by decide, by decide, rfl⟩, zC.enc (ctz q), by rw [hd]; rfl, ?_⟩
        have hba : Below Z.drew.heap.size Z.drew (Z.drew.alloc (.cells (zC.enc (ctz q)).toArray 3)) := (Gh _ _).alloc (Gc _) _
        refine ⟨hba, ?_⟩
        have hbA : Below Z.heap.size Z (Z.drew.alloc (.cells (zC.enc (ctz q)).toArray 3)) := hdZ.trans hba
        have hll := zcG hlt64 hmem
        refine zsc (E := zC) (l := l) (news := [ctz q]) (m := 1) Tryz.underlying128 (jl.get 3 _ rfl) rfl (hoZ.below hbA) rfl (qF zC (ctz q)) (by
          have : 1 ≤ (els left).length := by rw [he]; simp; omega
          omega) ?_
        intro Y oY gY
        have hjY := hJ.step _ _ _ _ (hJ.step _ _ _ _ hjZ (.below hbA)) (StepG.grown gY (.inl hgn) hgZ)
        have sA : (Z.drew.alloc (.cells (zC.enc (ctz q)).toArray 3)).heap.size = Z.heap.size + 1 := QG _ _
        have hRY : qj Y bB r := (gY.block bB (hlt (zb hbA hRZ)) (by simpa using hbg)).trans (zb hbA hRZ)
        have htl := zaC hTZ
        have hTY : Tz64M Y := j7 (hTZ.below hbA) (gY.block _ (by omega) (by
          intro e
          have : 4 = g := by simpa using e
          omega))
        have hpre2 : ((pre ++ don.flatMap G) ++ zco r.to m (za7 left (2 ^ ctz q)) (l ++ [ctz q])) <+: xs := by
          refine List.IsPrefix.trans ?_ hpre
          rw [he, ← hGc, Kf, KS]
          exact ⟨(els (qB q)).flatMap G, by simp only [KO]⟩
        refine Gi (ih (jx left (2 ^ ctz q)) (l ++ [ctz q]) g (pre ++ don.flatMap G) F1 Y (by omega) (zg4 hlt64) (fun i hi => by
          rw [zhq hlt64 hmem] at hi
          exact h48 i (QV.1 hi).1) (by simp only [List.length_append, Qt, QR]; omega) oY hgZ hjY hRY hbZ hbn hbg hTY htZ hpre2) ?_
        rintro e V (⟨rfl, F2, hjV, kV, oV, hgV⟩ | ⟨rfl, pre', F2, hp', hjx⟩)
        · refine brF ?_
          have kZY : KeepsG (fun k => F1 k ∨ k = g) (fun k => F1 k ∨ k = g) Z Y := (KeepsG.below hbA fun k h => .inl h).trans (KeepsG.grown gY (.inr rfl))
          have kW : KeepsG (fun k => F k ∨ k = g) F2 X V := ((kZ.more (.inr rfl)).trans kZY).trans kV
          have sY := gY.size
          have kYV := kV.size
          have hbV : ¬ F2 bB := fun h => by
            have := hlt hRY
            rcases kV.fp bB h with (h | h) | h
            · exact hbZ h
            · exact hbg h
            · omega
          have htV : ¬ F2 4 := fun h => by
            rcases kV.fp _ h with (h | h) | h
            · exact htZ h
            · omega
            · omega
          have hRV : qj V bB r := (kV.same bB (hlt hRY) (fun h => h.elim hbZ hbg)).trans hRY
          have hTV : Tz64M V := j7 hTY (kV.same _ (by omega) (fun h => h.elim htZ fun e => by omega))
          refine ⟨((q - 1 : Nat) : Int), (w64 (a := (q : Int) - 1) (by omega)).trans (by omega), ?_⟩
          refine ⟨((qB q : Nat) : Int), jV (a := q) (b := q - 1) hq (by omega), ?_⟩
          refine Gi (zaM (s := qB q) (by omega) hTV) ?_
          rintro e U ⟨rfl, hbU⟩
          exact ⟨(qB q, don ++ [ctz q], F2), ⟨.cons rfl (.cons rfl (.cons rfl (.cons rfl (.cons rfl (.cons rfl (.cons rfl .nil)))))), rfl⟩, next (by rw [hpa, hGc, ← KO]; exact hjV) oV.pref hgV hRV hbV hTV htV kW U hbU, e2⟩
        · refine brT ?_
          exact .inr ⟨rfl, pre', F2, hp', hjx⟩
      · have hb : ¬ r.to (ctz q) &&& left = 0 := fun e => (KI hb) (by rw [e]; rfl)
        have hGc : G (ctz q) = [] := by rw [hG]; exact Gw hb
        refine brF ?_
        refine ⟨((q - 1 : Nat) : Int), (w64 (a := (q : Int) - 1) (by omega)).trans (by omega), ?_⟩
        refine ⟨((qB q : Nat) : Int), jV (a := q) (b := q - 1) hq (by omega), ?_⟩
        refine Gi (zaM (s := qB q) (by omega) (hTZ.below hdZ)) ?_
        rintro e Y ⟨rfl, hbY⟩
        exact ⟨(qB q, don ++ [ctz q], F1), ⟨.cons rfl (.cons rfl (.cons rfl (.cons rfl (.cons rfl (.cons rfl (.cons rfl .nil)))))), rfl⟩, next (by rw [hpa, hGc, QM]; exact hjZ) hoZ hgZ hRZ hbZ hTZ htZ kZ Y (hdZ.trans hbY), e2⟩
    · have hc : (els q).isEmpty = true := by simpa using hc
      have := zgn hq hc
      subst this
      rw [zbF, QM] at he
      rw [he]
      exact .inl ⟨rfl, F1, hjZ, kZ, hoZ, hgZ⟩
end
def evE:Enc Ev:=⟨fun e=>[i64 e.th,u8 e.k,u8 e.l,u8 e.v,u8 e.m,u8 e.i,u8 e.p],7,fun _=>rfl,by decide,fun a u hu=>by
 simp only [UF,Qw,Gs] at hu;rcases hu with rfl | rfl | rfl | rfl | rfl | rfl | rfl <;> rfl⟩
def seg (n:Nat) (f:Nat->Value):List Value:=(List.range n).map f
def zd9 (f:Nat->Ev):List Value:=((List.range 24).map f).flatMap evE.enc
def qQ (R:RunD):List Value:=i64 R.pc::(seg 8 (fun i=>u8 (R.regs i))++(seg 8 (fun i=>s32 (R.deps i))++([s32 R.ctl,i64 R.many]++(zd9 R.ev ++
 (seg 24 (fun i=>s32 (R.data i))++(seg 24 (fun i=>s32 (R.ctrl i))++seg 24 (fun i=>s32 (R.att i))))))))
theorem zG (n:Nat) (f:Nat->Value):(seg n f).length=n:=by unfold seg;rw [QQ,KV]
theorem zcF (f:Nat->Ev):(zd9 f).length=168:=by
 unfold zd9;rw [qC,QQ,KV];rfl
theorem zc0 {n:Nat} (f:Nat->Value) {i:Nat} (h:i<n):(seg n f)[i]?=some (f i):=by
 unfold seg;rw [KU,Kg h];rfl
theorem zmv {n:Nat} (f g:Nat->Value) {i:Nat} (h:i<n) (hg:g i=g i) (hs:∀ j,j≠i->g j=f j):(seg n f).set i (g i)=seg n g:=by
 apply KQ;intro j;by_cases hj:j<n
 ·rw [zc0 g hj];by_cases e:i=j
  ·subst e;rw [JC (by rw [zG];exact h)]
  ·rw [JV e,zc0 f hj,hs j (fun h=>e h.symm)]
 ·rw [JJ (by rw [QS,zG];omega),JJ (by rw [zG];omega)]
theorem q8 {A B:List Value} {n i:Nat} (h:A.length=n):(A++B)[n+i]?=B[i]?:=by
 rw [Jl (by omega),h,Jw]
theorem zgl {B:List Value} {n i:Nat} {f:Nat->Value} (h:i<n):(seg n f++B)[i]?=some (f i):=by
 rw [Jp (by rw [zG];exact h),zc0 f h]
theorem jB {A B:List Value} {n i:Nat} (h:A.length=n) {v:Value}:(A++B).set (n+i) v=A++B.set i v:=by
 rw [JP _ _ (by omega),h,Jw]
theorem zep {B:List Value} {n i:Nat} {f:Nat->Value} (g:Nat->Value) (h:i<n) (hs:∀ j,j≠i->g j=f j):(seg n f++B).set i (g i)=seg n g++B:=by
 rw [List.set_append_left _ _ (by rw [zG];exact h),zmv f g h rfl hs]
theorem zaF (R:RunD):(qQ R).length=259:=by
 unfold qQ;simp only [Qt,lap,zG,zcF,QR]
section
variable (R:RunD)
theorem zqZ {i:Nat} (h:i<8):(qQ R)[1+i]?=some (u8 (R.regs i)):=by
 unfold qQ;rw [UP,Ju,zgl h]
theorem zq0 {i:Nat} (h:i<8):(qQ R)[9+i]?=some (s32 (R.deps i)):=by
 unfold qQ;rw [show 9+i=(8+i)+1 by omega,Ju,q8 (zG _ _),zgl h]
theorem zgA:∃ A,A.length=16/\qQ R=i64 R.pc::(A++([s32 R.ctl,i64 R.many]++(zd9 R.ev++(seg 24 (fun i=>s32 (R.data i))++(seg 24 (fun i=>s32 (R.ctrl i))++seg 24 (fun i=>s32 (R.att i))))))) :=
 ⟨seg 8 (fun i=>u8 (R.regs i))++seg 8 (fun i=>s32 (R.deps i)),by rw [lap,zG,zG],by unfold qQ;rw [KO]⟩
theorem zq1:(qQ R)[17]?=some (s32 R.ctl):=by
 obtain⟨A,hA,e⟩:=zgA R;rw [e];exact (q8 (i:=0) hA).trans rfl
theorem zbz:(qQ R)[18]?=some (i64 R.many):=by
 obtain⟨A,hA,e⟩:=zgA R;rw [e];exact (q8 (i:=1) hA).trans rfl
theorem zo0 {i:Nat} (h:i<24):(qQ R)[187+i]?=some (s32 (R.data i)):=by
 obtain⟨A,hA,e⟩:=zgA R;rw [e,show 187+i=(16+(2+(168+i)))+1 by omega,Ju,q8 hA,q8 (A:=[s32 R.ctl,i64 R.many]) (n:=2) rfl,q8 (zcF _),zgl h]
theorem zo1 {i:Nat} (h:i<24):(qQ R)[211+i]?=some (s32 (R.ctrl i)):=by
 obtain⟨A,hA,e⟩:=zgA R;rw [e,show 211+i=(16+(2+(168+(24+i))))+1 by omega,Ju,q8 hA,q8 (A:=[s32 R.ctl,i64 R.many]) (n:=2) rfl,q8 (zcF _),q8 (zG _ _),zgl h]
theorem zq2 {i:Nat} (h:i<24):(qQ R)[235+i]?=some (s32 (R.att i)):=by
 obtain⟨A,hA,e⟩:=zgA R;rw [e,show 235+i=(16+(2+(168+(24+(24+i)))))+1 by omega,Ju,q8 hA,q8 (A:=[s32 R.ctl,i64 R.many]) (n:=2) rfl,q8 (zcF _),q8 (zG _ _),q8 (zG _ _),zc0 _ h]
theorem zlg (n:Nat):(qQ R).set 0 (i64 n)=qQ { R with pc:=n }:=rfl
theorem zjO {i:Nat} (h:i<8) (v:UInt8):(qQ R).set (1+i) (u8 v)=qQ { R with regs:=upd R.regs i v }:=by
 unfold qQ;rw [UP,KC];have:=zep (B:=seg 8 (fun i=>s32 (R.deps i))++([s32 R.ctl,i64 R.many]++(zd9 R.ev++(seg 24 (fun i=>s32 (R.data i))++(seg 24 (fun i=>s32 (R.ctrl i))++seg 24 (fun i=>s32 (R.att i))))))) (f:=fun i=>u8 (R.regs i)) (fun j=>u8 (upd R.regs i v j)) h (fun j hj=>by rw [zaA _ _ hj]);rw [qZ] at this;rw [this]
theorem zjP {i:Nat} (h:i<8) (v:Nat):(qQ R).set (9+i) (s32 v)=qQ { R with deps:=upd R.deps i v }:=by
 unfold qQ;rw [show 9+i=(8+i)+1 by omega,KC,jB (zG _ _)];have:=zep (B:=[s32 R.ctl,i64 R.many]++(zd9 R.ev++(seg 24 (fun i=>s32 (R.data i))++(seg 24 (fun i=>s32 (R.ctrl i))++seg 24 (fun i=>s32 (R.att i)))))) (f:=fun i=>s32 (R.deps i)) (fun j=>s32 (upd R.deps i v j)) h (fun j hj=>by rw [zaA _ _ hj]);rw [qZ] at this;rw [this]
theorem ziO (v:Nat):(qQ R).set 18 (i64 v)=qQ { R with many:=v }:=by
 unfold qQ;show i64 R.pc::(seg 8 (fun i=>u8 (R.regs i))++_).set (8+(8+1)) (i64 v)=_;rw [jB (zG _ _),jB (zG _ _)];rfl
theorem ziP {i:Nat} (h:i<24) (v:Nat):(qQ R).set (187+i) (s32 v)=qQ { R with data:=upd R.data i v }:=by
 unfold qQ;rw [show 187+i=(8+(8+(2+(168+i))))+1 by omega,KC,jB (zG _ _),jB (zG _ _),jB (A:=[s32 R.ctl,i64 R.many]) (n:=2) rfl,jB (zcF _)];have:=zep (B:=seg 24 (fun i=>s32 (R.ctrl i))++seg 24 (fun i=>s32 (R.att i))) (f:=fun i=>s32 (R.data i)) (fun j=>s32 (upd R.data i v j)) h (fun j hj=>by rw [zaA _ _ hj]);rw [qZ] at this;rw [this]
theorem ziQ {i:Nat} (h:i<24) (v:Nat):(qQ R).set (211+i) (s32 v)=qQ { R with ctrl:=upd R.ctrl i v }:=by
 unfold qQ;rw [show 211+i=(8+(8+(2+(168+(24+i)))))+1 by omega,KC,jB (zG _ _),jB (zG _ _),jB (A:=[s32 R.ctl,i64 R.many]) (n:=2) rfl,jB (zcF _),jB (zG _ _)];have:=zep (B:=seg 24 (fun i=>s32 (R.att i))) (f:=fun i=>s32 (R.ctrl i)) (fun j=>s32 (upd R.ctrl i v j)) h (fun j hj=>by rw [zaA _ _ hj]);rw [qZ] at this;rw [this]
theorem zrj {α:Type} (f:Nat->α) {n i:Nat} (h:i<n) (v:α):((List.range n).map f).set i v=(List.range n).map (upd f i v):=by
 apply KQ;intro j;by_cases hj:j<n
 ·rw [KU,Kg hj];by_cases e:i=j
  ·subst e;rw [JC (by simpa using h)];show _=some (upd f i v i);rw [qZ]
  ·rw [JV e,KU,Kg hj];show some (f j)=some (upd f i v j);rw [zaA _ _ (fun h=>e h.symm)]
 ·rw [JJ (by simp;omega),JJ (by simp;omega)]
theorem zlh {i:Nat} (h:i<24) (v:Ev):(qQ R).take (19+i*7)++evE.enc v++(qQ R).drop (19+i*7+7)=qQ { R with ev:=upd R.ev i v }:=by
 obtain⟨A,hA,e⟩:∃ A:List Value,A.length=19/\∀ ev,qQ { R with ev:=ev }=A++(zd9 ev++(seg 24 (fun i=>s32 (R.data i))++(seg 24 (fun i=>s32 (R.ctrl i))++seg 24 (fun i=>s32 (R.att i))))) :=
  ⟨i64 R.pc::(seg 8 (fun i=>u8 (R.regs i))++(seg 8 (fun i=>s32 (R.deps i))++[s32 R.ctl,i64 R.many])),by
   simp only [Qt,lap,zG,QR],fun ev=>by
   unfold qQ;simp only [Qm,KO,QW]⟩
 have e1:qQ R=_:=e R.ev;rw [e1,e,<- hA,List.take_length_add_append,UH,Jj];have:=zkE (E:=evE) ((List.range 24).map R.ev) (i:=i) (by simpa using h) v (seg 24 (fun i=>s32 (R.data i))++(seg 24 (fun i=>s32 (R.ctrl i))++seg 24 (fun i=>s32 (R.att i))));rw [zrj _ h] at this;unfold zd9;rw [KO,KO,<- this,KO];rfl
end
theorem zp3 (f:Nat->Ev) {i:Nat} (h:i<24):((zd9 f).drop (i*7)).take 7=evE.enc (f i):=by
 unfold zd9;have:=zeW (E:=evE) ((List.range 24).map f) i (by simpa using h);rw [Qr,Ky] at this;exact this
theorem zmw {R:RunD} {w:Wd} {b:Nat} {t:TypeId} (f:w.heap[b]?=some (.cells (qQ R).toArray t (0,0))):zo w ⟨b,19,none⟩ (zd9 R.ev):=by
 have h:=za f;unfold qQ at h;have h1:=zM (n:=19) (m:=168) h;have e:((i64 R.pc::(seg 8 (fun i=>u8 (R.regs i))++(seg 8 (fun i=>s32 (R.deps i))++([s32 R.ctl,i64 R.many]++(zd9 R.ev++(seg 24 (fun i=>s32 (R.data i))++(seg 24 (fun i=>s32 (R.ctrl i))++seg 24 (fun i=>s32 (R.att i))))))))).drop 19).take 168=zd9 R.ev:=by
  show ((seg 8 (fun i=>u8 (R.regs i))++_).drop (8+(8+2))).take 168=_;have d:∀ {A B:List Value} {n i:Nat},A.length=n->(A++B).drop (n+i)=B.drop i:=fun {A B n i} h=>by rw [<- h,Jj]
  rw [d (zG _ _),d (zG _ _)];show (zd9 R.ev++_).take 168=_;rw [QZ (zcF _)]
 rw [<- e];exact h1
def bs (l:List UInt8):ByteArray:=⟨l.toArray⟩
def zn (l:List UInt8):Value := .string (bs l)
theorem zm7 (l:List UInt8):(bs l).data.toList=l:=rfl
theorem ztS {a b:List UInt8} (h:bs a=bs b):a=b:=by
 have:=Gq (fun x:ByteArray=>x.data.toList) h;exact this
theorem zE (x y:Operand) (a b:List UInt8) (w:Wd):(do eqGuard .eql 9 x y (zn a) (zn b);binOp .eql 9 (zn a) (zn b)).run PG w = .ok (.bool (decide (a=b))) w:=by
 have h1:(eqGuard .eql 9 x y (zn a) (zn b)).run PG w = .ok () w:=rfl;rw [UY,h1,Qa];show (Op.stringOp .eql (bs a) (bs b)).run PG w=_;simp only [Op.stringOp,UZ,Kd,zm7];have hd:(a == b)=decide (a=b):=by by_cases h:a=b <;> simp [h]
 rw [hd]
theorem zdu (x y:Operand) (a b:List UInt8) (w:Wd):(do eqGuard .neq 9 x y (zn a) (zn b);binOp .neq 9 (zn a) (zn b)).run PG w = .ok (.bool (!decide (a=b))) w:=by
 have h1:(eqGuard .neq 9 x y (zn a) (zn b)).run PG w = .ok () w:=rfl;rw [UY,h1,Qa];show (Op.stringOp .neq (bs a) (bs b)).run PG w=_;simp only [Op.stringOp,UZ,Kd,zm7];have hd:(a == b)=decide (a=b):=by by_cases h:a=b <;> simp [h]
 rw [hd]
theorem ziM (l:List UInt8):strOfNums (l.map fun b=>(b.toNat:Int))=bs l:=by
 unfold strOfNums bs;congr 2;rw [UL]
 conv=>rhs;rw [<- List.map_id l]
 refine Kj fun b _=>?_;simp
theorem zqb {w:Wd} {p:OA} {cap:Nat} {l:List UInt8} (h:SlR zO w p l) (w2:Wd) (hb:Bw w w2) :
  (convert 72 9 (.slice p l.length cap)).run PG w2 = .ok (zn l) w2:=by
 have h2:=h.below hb
 cases p with
 | none =>
  have hl:l=[]:=h2.none;subst hl;exact run_convert_bytes_nil (P:=PG) (w:=w2) 72 5 Tryz.underlying72 Tryz.underlying5 0 cap 9 Tryz.underlying9
 | some a =>
  cases l with
  | nil =>
   obtain⟨b,o,f⟩:=a;have:=run_convert_bytes_string w2 72 9 5 (some ⟨b,o,f⟩) 0 cap Tryz.underlying72 Tryz.underlying5 Tryz.underlying9;rw [show ([]:List UInt8).length=0 from rfl,this];rfl
  | cons x r =>
   obtain⟨b,o,hp,hbk,hcl⟩:=h2.at (i:=0) (by simp);obtain rfl:=Ug hp;have:=run_convert_bytes_arg (P:=PG) w2 72 5 Tryz.underlying72 Tryz.underlying5 b o (x::r).length cap ((x::r).map fun b=>(b.toNat:Int)) (by simp) (fun i hi=>by
    have h3:w2.cell? ⟨b,o+i*1,none⟩=some (u8 ((x::r)[i]'hi)):=zef (hcl i hi);rw [Gd] at h3;have h4:((x::r).map fun b=>(b.toNat:Int)).getD i 0=(((x::r)[i]'hi).toNat:Int):=by
     rw [gDe,KU,gE hi];rfl
    rw [h3,h4];rfl) 9 Tryz.underlying9
   rw [this,ziM];rfl
def zlG:Enc (List UInt8):=⟨fun l=>[zn l],1,fun _=>rfl,by decide,fun a u hu=>by
 simp only [UF,Qw,Gs] at hu;subst hu;rfl⟩
def qr:Enc InsD:=⟨fun x=>[u8 x.op,u8 x.dst,u8 x.loc,.bool x.ar,u8 x.an,.bool x.br,u8 x.bn,u8 x.fn,u8 x.mode,u8 x.skip],10,fun _=>rfl,by decide,fun a u hu=>by
 simp only [UF,Qw,Gs] at hu;rcases hu with rfl | rfl | rfl | rfl | rfl | rfl | rfl | rfl | rfl | rfl <;> rfl⟩
abbrev zse:=List InsD×OA×Nat
def zoJ (x:zse):Value := .slice x.2.1 x.1.length x.2.2
def zsQ:Enc zse:=⟨fun x=>[zoJ x],1,fun _=>rfl,by decide,fun a u hu=>by
 simp only [UF,Qw,Gs] at hu;subst hu;rfl⟩
def zbe (c:Cnd) (p:OA) (cap:Nat):List Value:=[u8 c.kind,u8 c.thread,u8 c.n,u8 c.val,.slice p c.kids.length cap]
inductive KidsV (B:Nat) (w:Wd):OA->List Cnd->Prop
 | mk (p:OA) (kids:List Cnd) (hn:kids.length*32<=140737488351232) (b o:Nat) (hp:kids.length=0\/p=some ⟨b,o,none⟩) (q:Nat->OA) (c:Nat->Nat)
   (hk:∀ i (h:i<kids.length),b<B/\zo w ⟨b,o+i*5,none⟩ (zbe kids[i] (q i) (c i)))
   (ht:∀ i (h:i<kids.length),KidsV B w (q i) kids[i].kids):KidsV B w p kids
theorem KidsV.inv {B:Nat} {w:Wd} {p:OA} {kids:List Cnd} (h:KidsV B w p kids):kids.length*32<=140737488351232/\∃ b o,(kids.length=0\/p=some ⟨b,o,none⟩) /\
  ∀ i (h:i<kids.length),∃ q c,b<B/\zo w ⟨b,o+i*5,none⟩ (zbe kids[i] q c)/\KidsV B w q kids[i].kids:=by
 cases h with
 | mk _ _ hn b o hp q c hk ht=>exact⟨hn,b,o,hp,fun i hi=>⟨q i,c i,(hk i hi).1,(hk i hi).2,ht i hi⟩⟩
theorem KidsV.kept {B:Nat} {w w2:Wd} {p:OA} {kids:List Cnd} (h:KidsV B w p kids) (hb:Below B w w2):KidsV B w2 p kids:=by
 induction h with
 | mk p kids hn b o hp q c hk ht ih=>exact .mk p kids hn b o hp q c (fun i hi=>⟨(hk i hi).1,qT hb (hk i hi).1 (hk i hi).2⟩) ih
theorem KidsV.wider {B B':Nat} {w:Wd} {p:OA} {kids:List Cnd} (h:KidsV B w p kids) (hb:B<=B'):KidsV B' w p kids:=by
 induction h with
 | mk p kids hn b o hp q c hk ht ih=>exact .mk p kids hn b o hp q c (fun i hi=>⟨nL (hk i hi).1 hb,(hk i hi).2⟩) ih
def ThrsV (B:Nat) (w:Wd) (p:OA) (l:List (List InsD)):Prop:=∃ xs:List zse,xs.map (·.1)=l/\RowB zsQ B w p xs/\∀ x∈xs,RowB qr B w x.2.1 x.1
theorem ThrsV.below {B:Nat} {w w2:Wd} {p:OA} {l:List (List InsD)} (h:ThrsV B w p l) (hb:Below B w w2):ThrsV B w2 p l:=by
 obtain⟨xs,h1,h2,h3⟩:=h;exact⟨xs,h1,h2.below hb,fun x hx=>(h3 x hx).below hb⟩
theorem ThrsV.mono {B B':Nat} {w:Wd} {p:OA} {l:List (List InsD)} (h:ThrsV B w p l) (hb:B<=B'):ThrsV B' w p l:=by
 obtain⟨xs,h1,h2,h3⟩:=h;exact⟨xs,h1,h2.mono hb,fun x hx=>(h3 x hx).mono hb⟩
def j0 (p:Prg) (p1:OA) (c1:Nat) (p2:OA) (c2:Nat) (p3:OA) (c3:Nat) (p4:OA) (c4:Nat):List Value :=
 [zn p.name,.slice p1 p.locs.length c1,.slice p2 p.init.length c2,.slice p3 p.threads.length c3,u8 p.ask,u8 p.cond.kind,u8 p.cond.thread,u8 p.cond.n,u8 p.cond.val,.slice p4 p.cond.kids.length c4]
structure PrgLen (p:Prg):Prop where
 name:p.name.length<=140737488351232
 locs:p.locs.length<=140737488351232
 loc:∀ s∈p.locs,s.length<=140737488351232
 init:p.init.length<=140737488351232
 threads:p.threads.length<=140737488351232
 thread:∀ l∈p.threads,l.length<=140737488351232
structure PrgV (B:Nat) (w:Wd) (vs:List Value) (p:Prg):Prop where
 len:PrgLen p
 h:∃ p1 c1 p2 c2 p3 c3 p4 c4,vs=j0 p p1 c1 p2 c2 p3 c3 p4 c4/\RowB zlG B w p1 p.locs/\RowB zO B w p2 p.init/\ThrsV B w p3 p.threads/\KidsV B w p4 p.cond.kids/\p.locs.length<=c1
theorem PrgV.below {B:Nat} {w w2:Wd} {vs:List Value} {p:Prg} (h:PrgV B w vs p) (hb:Below B w w2):PrgV B w2 vs p:=by
 obtain⟨p1,c1,p2,c2,p3,c3,p4,c4,h0,h1,h2,h3,h4,h5⟩:=h.h;exact⟨h.len,p1,c1,p2,c2,p3,c3,p4,c4,h0,h1.below hb,h2.below hb,h3.below hb,h4.kept hb,h5⟩
theorem PrgV.mono {B B':Nat} {w:Wd} {vs:List Value} {p:Prg} (h:PrgV B w vs p) (hb:B<=B'):PrgV B' w vs p:=by
 obtain⟨p1,c1,p2,c2,p3,c3,p4,c4,h0,h1,h2,h3,h4,h5⟩:=h.h;exact⟨h.len,p1,c1,p2,c2,p3,c3,p4,c4,h0,h1.mono hb,h2.mono hb,h3.mono hb,h4.wider hb,h5⟩
theorem PrgV.size {B:Nat} {w:Wd} {vs:List Value} {p:Prg} (h:PrgV B w vs p):vs.length=10:=by
 obtain⟨p1,c1,p2,c2,p3,c3,p4,c4,rfl,_⟩:=h.h;rfl
theorem w8N (u:Nat):IntKind.u8.wrap (u:Int)=((UInt8.ofNat u).toNat:Int):=by
 rw [KH];unfold IntKind.wrap;simp only [IntKind.bits,IntKind.signed,Ul,Kt,Gr];omega
abbrev zau (X:Wd) (b:Nat) (R:RunD):Prop:=X.heap[b]?=some (.cells (qQ R).toArray 291 (0,0))
abbrev AtR (b:Nat):Value:=At0 b
section
variable {R:RunD} {b:Nat} {w:Wd}
theorem zlX {k l v m:UInt8} {d:Nat} (f:zau w b R) (hm:R.many<24):Calls PG 297 #[AtR b,u8 k,u8 l,u8 v,u8 m,s32 d] w fun e w' =>
  e = .returned (i64 R.many)/\zau w' b (zbZ R k l v m d)/\w.grownBy w' (some b)/\w'.heap.size=w.heap.size:=by
 refine zD 58 [AtR b,u8 k,u8 l,u8 v,u8 m,s32 d] Tryz.func297 ?_;refine⟨_,zc (za f) (i:=18) (zbz R),?_⟩;refine DrawE.ord [17] [0,1,2,3,4,5,6,7,8,9,10,11,12,13,14,15,16,17] (by kernel_rfl) ?_;refine⟨_,zc (za (hdr f)) (i:=0) rfl,?_⟩;refine⟨_,w8N _,?_⟩;refine⟨_,w8N _,?_⟩;obtain⟨ev,hev⟩:∃ ev:Ev,ev=⟨0,k,l,v,m,UInt8.ofNat R.pc,UInt8.ofNat R.many⟩:=⟨_,rfl⟩;refine⟨evE.enc ev,by rw [hev];rfl,?_⟩;refine⟨R.many,rfl,hm,?_⟩;refine jj zd3 (hdr f) (o:=0+19+R.many*7) (v := .agg (evE.enc ev).toArray) rfl (by
  show 0+19+R.many*7+7<=(qQ R).length;rw [zaF];omega) rfl fun Y fY gY sY=>?_
 have fY:zau Y b { R with ev:=upd R.ev R.many ev }:=by
  show Y.heap[b]?=some (.cells (qQ { R with ev:=upd R.ev R.many ev }).toArray 291 (0,0));rw [<- zlh R hm ev,fY,UX];rfl
 refine⟨R.many,rfl,hm,?_⟩;refine zu ztk fY (o:=0+187+R.many*1) (v:=s32 d) rfl rfl (by rw [zaF];omega) rfl fun Z fZ gZ sZ=>?_;rw [UX,Gd,ziP _ hm] at fZ;refine DrawE.ord [9] [0,1,2,3,4,5,6,7,8,9] (by kernel_rfl) ?_;refine⟨_,zc (za (hdr fZ)) (i:=17) (zq1 _),?_⟩;refine⟨R.many,rfl,hm,?_⟩;refine zu ztk (hdr fZ) (o:=0+211+R.many*1) (v:=s32 R.ctl) rfl rfl (by rw [zaF];omega) rfl fun U fU gU sU=>?_;rw [UX,Gd,ziQ _ hm] at fU;refine⟨_,zc (za fU) (i:=18) (zbz _),?_⟩;refine⟨((R.many+1:Nat):Int),(zi (by show _<=((R.many:Nat):Int)+1/\((R.many:Nat):Int)+1<=_;omega)).trans rfl,?_⟩;refine zu k3 fU (o:=0+18) (v:=i64 (R.many+1:Nat)) rfl rfl (by rw [zaF];decide) rfl fun V fV gV sV=>?_;rw [UX,ziO] at fV;have gd:w.grownBy w.drew (some b):=⟨rfl,rfl,rfl,Gc _,fun _ _ _=>rfl⟩;have gd2:Z.grownBy Z.drew (some b):=⟨rfl,rfl,rfl,Gc _,fun _ _ _=>rfl⟩;refine⟨rfl,?_,zg (zg (zg (zg gd gY) gZ) (zg gd2 gU)) gV,?_⟩
 ·unfold zbZ;rw [<- hev];exact fV
 ·rw [sV,sU];show Z.heap.size=_;rw [sZ,sY];rfl
theorem zup {d v:UInt8} {s:Nat} (f:zau w b R) (hd:d.toNat<8):Calls PG 298 #[AtR b,u8 d,u8 v,s32 s] w fun e w' =>
  e = .returned (.tuple #[])/\zau w' b (zoT R d v s)/\w.grownBy w' (some b)/\w'.heap.size=w.heap.size:=by
 refine zD 20 [AtR b,u8 d,u8 v,s32 s] Tryz.func298 ?_;refine⟨d.toNat,rfl,hd,?_⟩;refine zu k5 f (o:=0+1+d.toNat*1) (v:=u8 v) rfl rfl (by rw [zaF];omega) rfl fun Y fY gY sY=>?_;rw [UX,Gd,zjO _ hd] at fY;refine⟨d.toNat,rfl,hd,?_⟩;refine zu ztk fY (o:=0+9+d.toNat*1) (v:=s32 s) rfl rfl (by rw [zaF];omega) rfl fun Z fZ gZ sZ=>?_;rw [UX,Gd,zjP _ hd] at fZ;exact⟨rfl,fZ,zg gY gZ,sZ.trans sY⟩
theorem zqL {r:Bool} {n:UInt8} (f:zau w b R) (hn:r=true->n.toNat<8):Calls PG 299 #[AtR b,.agg #[.bool r,u8 n]] w fun e w' =>
  e = .returned (.tuple #[u8 (za0 r n R).1,s32 (za0 r n R).2])/\Bw w w':=by
 refine zD 24 [AtR b,.agg #[.bool r,u8 n]] Tryz.func299 ?_;have f0:=zA w (.cells #[.bool r,u8 n] 94);have hb:Bw w (w.alloc (.cells #[.bool r,u8 n] 94)):=zba w _;refine⟨_,zc (za f0) (i:=0) rfl,?_⟩;refine biE (fun h=>?_) fun h=>?_
 ·have hn8:=hn h;have fr:=zb hb f;refine DrawE.ord [] [0,1,2,3,4,5,6,7,8,9,10,11,12,13,14,15] (by kernel_rfl) ?_;refine⟨_,zc (za (hdr f0)) (i:=1) rfl,?_⟩;refine⟨n.toNat,rfl,hn8,?_⟩;refine⟨_,by rw [Gd,UH];exact zc (za (hdr fr)) (zqZ R hn8),?_⟩;refine⟨_,zc (za (hdr f0)) (i:=1) rfl,?_⟩;refine⟨n.toNat,rfl,hn8,?_⟩;refine⟨_,by rw [Gd,UH];exact zc (za (hdr fr)) (zq0 R hn8),?_⟩;refine⟨?_,hb.trans ((Gh _ _).drew)⟩;unfold za0;rw [Gx h];rfl
 ·refine⟨_,zc (za f0) (i:=1) rfl,?_⟩;refine⟨?_,hb⟩;unfold za0;rw [Gw (by rw [h];exact Ku)];rfl
end
abbrev zkv (x:InsD):Value := .agg (qr.enc x).toArray
section
variable {R:RunD} {b:Nat} {w:Wd}
theorem zny {x:InsD} {v:UInt8} (f:zau w b R) (hm:R.many<24) (hd:x.dst.toNat<8):Calls PG 286 #[AtR b,zkv x,u8 v] w fun e w' =>
  e = .returned (.tuple #[])/\zau w' b (zsv R x v)/\w.grownBy w' (some b):=by
 refine zD 21 [AtR b,zkv x,u8 v] Tryz.func286 ?_;have f0:=zA w (.cells (qr.enc x).toArray 96);have hb:Bw w (w.alloc (.cells (qr.enc x).toArray 96)):=zba w _;have fr:=zb hb f;have hne:w.heap.size≠b:=fun e=>by have:=hlt f;omega
 refine⟨_,zc (za f0) (i:=2) rfl,_,zc (za f0) (i:=8) rfl,cmo (zlX (k:=1) (l:=x.loc) (v:=v) (m:=x.mode) (d:=0) fr hm) ?_⟩;rintro e Y ⟨rfl,fY,gY,sY⟩;have f0Y:=(gY.block w.heap.size (hlt f0) (by simpa using hne)).trans f0;refine DrawE.ord [6] [0,1,2,3,4,5,6] (by kernel_rfl) ⟨_,zc (za (hdr f0Y)) (i:=1) rfl,by omega,_,zqK (e:=R.many) (by omega),cmo (zup (d:=x.dst) (v:=v) (s:=2^R.many) (hdr fY) hd) ?_⟩;rintro e Z ⟨rfl,fZ,gZ,sZ⟩;have gd:Y.grownBy Y.drew (some b):=⟨rfl,rfl,rfl,Gc _,fun _ _ _=>rfl⟩;exact⟨rfl,fZ,zg (zh hb) (zg gY (zg gd gZ))⟩
theorem zlj {x:InsD} {v:UInt8} (f:zau w b R) (hm:R.many<24) (ha:x.ar=true->x.an.toNat<8):Calls PG 287 #[AtR b,zkv x,u8 v] w fun e w' =>
  e = .returned (.tuple #[])/\zau w' b (zoO R x)/\w.grownBy w' (some b):=by
 refine zD 23 [AtR b,zkv x,u8 v] Tryz.func287 ?_;have f0:=zA w (.cells (qr.enc x).toArray 96);have hb:Bw w (w.alloc (.cells (qr.enc x).toArray 96)):=zba w _;have fr:=zb hb f;refine⟨[.bool x.ar,u8 x.an],rfl,qz (o:=3) (n:=2) f0,hlt f0,cmo (zqL fr ha) ?_⟩;rintro e Y ⟨rfl,hbY⟩;have f0Y:=zb hbY f0;have fY:=zb hbY fr;refine⟨_,zc (za f0Y) (i:=2) rfl,_,zc (za f0Y) (i:=8) rfl,cmo (zlX (k:=2) (l:=x.loc) (v:=(za0 x.ar x.an R).1) (m:=x.mode) (d:=(za0 x.ar x.an R).2) fY hm) ?_⟩;rintro e Z ⟨rfl,fZ,gZ,sZ⟩;exact⟨rfl,fZ,zg (zh hb) (zg (zh hbY) gZ)⟩
theorem zlk {x:InsD} {v:UInt8} (f:zau w b R) (hm:R.many<24):Calls PG 292 #[AtR b,zkv x,u8 v] w fun e w' =>
  e = .returned (.tuple #[])/\zau w' b (zpT R x)/\w.grownBy w' (some b):=by
 refine zD 10 [AtR b,zkv x,u8 v] Tryz.func292 ?_;have f0:=zA w (.cells (qr.enc x).toArray 96);have hb:Bw w (w.alloc (.cells (qr.enc x).toArray 96)):=zba w _;have fr:=zb hb f;refine⟨_,zc (za f0) (i:=8) rfl,cmo (zlX (k:=3) (l:=0) (v:=0) (m:=x.mode) (d:=0) fr hm) ?_⟩;rintro e Z ⟨rfl,fZ,gZ,sZ⟩;exact⟨rfl,fZ,zg (zh hb) gZ⟩
end
def zdI (x:InsD):Prop:=(x.op=1/\x.dst.toNat<8)\/(x.op=2/\(x.ar=true->x.an.toNat<8))\/x.op=7
def fnV (g:Nat):Value := .func (.func g) #[] #[]
def zrP:List Value:=[.nilFunc,fnV 286,fnV 287,fnV 288,fnV 289,fnV 290,fnV 291,fnV 292,fnV 293]
theorem zn7 {w:Wd}:CB 279 #[] w (.agg zrP.toArray):=by
 refine zD 2 [] Tryz.func279 ?_;have f0:=zA w (.cells (List.replicate 9 Value.nilFunc).toArray 367);have hb:Bw w (w.alloc (.cells (List.replicate 9 Value.nilFunc).toArray 367)):=zba w _;exact⟨zrP,rfl,zy (v := .agg zrP.toArray) zvN f0 rfl rfl rfl ⟨zrP,rfl,za (zq f0),rfl,zl hb (Gc _) _⟩⟩
section
variable {R:RunD} {b:Nat} {w:Wd}
theorem ziy {x:InsD} {v:UInt8} (f:zau w b R) (hm:R.many<24) (hp:R.pc<=1000) (hx:zdI x):Calls PG 266 #[AtR b,zkv x,u8 v] w fun e w' =>
  e = .returned (.tuple #[])/\zau w' b (qk R x v)/\w.grownBy w' (some b):=by
 refine zD 21 [AtR b,zkv x,u8 v] Tryz.func266 ?_;have f0:=zA w (.cells (qr.enc x).toArray 96);obtain⟨W1,hW1⟩:=nm ((w.alloc (.cells (qr.enc x).toArray 96)).drew);have hb:Bw w W1:=by rw [hW1];exact ((zba w _)).drew
 have fr:zau W1 b R:=zb hb f;have f0:W1.heap[w.heap.size]?=some (.cells (qr.enc x).toArray 96 (0,0)):=by rw [hW1];exact f0
 have hW1':(w.alloc (.cells (Value.agg (qr.enc x).toArray).cells 96)).drew=W1:=hW1.symm;refine DrawE.ord [7] [1,2,4,5,6,0,3,7] (by kernel_rfl) ?_;rw [hW1'];refine⟨_,zc (za f0) (i:=0) rfl,qr.enc x,rfl,za f0,hlt f0,cmo zn7 ?_⟩;rintro e Y ⟨rfl,hbY⟩;refine⟨hbY,?_⟩;have fY:=zb hbY fr;have gY:w.grownBy Y (some b):=zg (zh hb) (zh hbY);have fin:∀ {S:RunD} {Z:Wd},zau Z b S->Y.grownBy Z (some b)->S.pc=R.pc->qk R x v={ S with pc:=S.pc+1 }->∃ u,Z.cell? ⟨b,0+0,none⟩=some u/\zr8 PG .add 3 (.tmp 17) (.const (i64 1)) u (i64 1) (fun v18=>SatR ((storeVar 3 ⟨b,0+0,none⟩ v18).run PG Z) fun _ w'=>(Ending.returned (.tuple #[])=Ending.returned (.tuple #[]))/\zau w' b (qk R x v)/\w.grownBy w' (some b)):=by
  intro S Z fZ gZ hpc he;refine⟨_,zc (za fZ) (i:=0) rfl,((S.pc+1:Nat):Int),(zi (by show _<=((S.pc:Nat):Int)+1/\((S.pc:Nat):Int)+1<=_;omega)).trans rfl,zu k3 fZ (o:=0+0) (v:=i64 (S.pc+1:Nat)) rfl rfl (by rw [zaF];decide) rfl fun V fV gV sV=>?_⟩;rw [UX,zlg] at fV;rw [he];exact⟨rfl,fV,zg gY (zg gZ gV)⟩
 rcases hx with ⟨h1,h2⟩ | ⟨h1,h2⟩ | h1
 ·refine⟨1,by rw [h1];rfl,by decide,?_⟩;refine za5 (v:=fnV 286) rfl (cmo (zny fY hm h2) ?_);rintro e Z ⟨rfl,fZ,gZ⟩;exact fin fZ gZ rfl (by unfold qk zn8;rw [Gx h1])
 ·refine⟨2,by rw [h1];rfl,by decide,?_⟩;refine za5 (v:=fnV 287) rfl (cmo (zlj fY hm h2) ?_);rintro e Z ⟨rfl,fZ,gZ⟩;exact fin fZ gZ rfl (by unfold qk zn8;rw [Gw (by rw [h1];decide),Gx h1])
 ·refine⟨7,by rw [h1];rfl,by decide,?_⟩;refine za5 (v:=fnV 292) rfl (cmo (zlk fY hm) ?_);rintro e Z ⟨rfl,fZ,gZ⟩;exact fin fZ gZ rfl (by unfold qk zn8;rw [Gw (by rw [h1];decide),Gw (by rw [h1];decide),Gw (by rw [h1];decide),Gw (by rw [h1];decide),Gw (by rw [h1];decide),Gw (by rw [h1];decide),Gx h1])
end
theorem zjh {R:RunD} {x:InsD} {v:UInt8} (hx:zdI x):(qk R x v).pc=R.pc+1/\(qk R x v).many=R.many+1:=by
 unfold qk zn8;rcases hx with ⟨h,_⟩ | ⟨h,_⟩ | h
 ·rw [Gx h];exact⟨rfl,rfl⟩
 ·rw [Gw (by rw [h];decide),Gx h];exact⟨rfl,rfl⟩
 ·rw [Gw (by rw [h];decide),Gw (by rw [h];decide),Gw (by rw [h];decide),Gw (by rw [h];decide),Gw (by rw [h];decide),Gw (by rw [h];decide),Gx h];exact⟨rfl,rfl⟩
theorem znr {α:Type} {E:Enc α} {w X:Wd} {q:OA} {l:List α} {b:Nat} (h:SlR E w q l) (hq:∀ a,q=some a->a.block≠b) (g:w.grownBy X (some b)):SlR E X q l:=by
 rcases h with h | ⟨b',o,h1,h2,h3⟩
 ·exact .inl h
 ·refine .inr ⟨b',o,h1,nL h2 g.size,fun i hi=>zJ (g.block b' h2 (fun e=>hq _ h1 (by cases e;rfl))) (h3 i hi)⟩
theorem zpN {l:List InsD} {R:RunD} (h:l[R.pc]?=none):∀ n,goR l n R=R
 | 0=>rfl
 | n+1=>by unfold goR;rw [h]
theorem zrA {l:List InsD} {R:RunD} {x:InsD} (h:l[R.pc]?=some x) (hr:zdX x=true):∀ n,goR l n R=R
 | 0=>rfl
 | n+1=>by unfold goR;rw [h];simp only [hr,Gu]
theorem zrz {l:List InsD} {R:RunD} {x:InsD} (h:l[R.pc]?=some x) (hr:zdX x=false) (n:Nat):goR l (n+1) R=goR l n (qk R x 0):=by
 show (match l[R.pc]? with | none=>R | some x=>if zdX x then R else goR l n (qk R x 0))=_;rw [h];simp only [hr,Kt,Gr]
theorem zo8 {x:InsD} (hx:zdI x):(x.op=1/\zdX x=true)\/((x.op=2\/x.op=7)/\zdX x=false):=by
 unfold zdX;rcases hx with ⟨h,_⟩ | ⟨h,_⟩ | h
 ·exact .inl ⟨h,by rw [h];rfl⟩
 ·exact .inr ⟨.inl h,by rw [h];rfl⟩
 ·exact .inr ⟨.inr h,by rw [h];rfl⟩
section
variable {R:RunD} {b:Nat} {w:Wd} {l:List InsD} {q:OA} {cap:Nat}
theorem zib (f:zau w b R) (hl:SlR qr w q l) (hq:∀ a,q=some a->a.block≠b) (h12:l.length<=12) (hx:∀ x∈l,zdI x) (hm:R.many<=R.pc) (hp:R.pc<=l.length) :
  Calls PG 265 #[AtR b,.slice q l.length cap] w fun e w'=>e = .returned (.bool (l[(goR l l.length R).pc]?).isSome)/\zau w' b (goR l l.length R)/\w.grownBy w' (some b)/\(goR l l.length R).many<=(goR l l.length R).pc/\(goR l l.length R).pc<=l.length/\R.pc<=(goR l l.length R).pc:=by
 refine zD 34 [AtR b,.slice q l.length cap] Tryz.func265 ?_;refine⟨RunD×Nat,fun s=>⟨[(0,AtR b),(1,.slice q l.length cap)],[]⟩,
  fun s X=>(goR l l.length R=goR l s.2 s.1/\l.length<=s.2+s.1.pc/\s.1.many<=s.1.pc/\s.1.pc<=l.length/\R.pc<=s.1.pc)/\zau X b s.1/\w.grownBy X (some b),fun s=>l.length-s.1.pc,(R,l.length),
  (cvE rfl rfl),⟨⟨rfl,by omega,hm,hp,Gc _⟩,f,jF w _⟩,?_⟩
 rintro⟨S,n⟩ X ⟨⟨he,hn,hm,hp,hpp⟩,fX,gX⟩;dsimp only at he hn hm hp hpp fX ⊢;refine⟨_,zc (za fX) (i:=0) rfl,?_⟩;refine biE (fun hc=>?_) fun hc=>?_
 ·have hc:(S.pc:Int)<(l.length:Int):=dT hc;have hi:S.pc<l.length:=by omega
  obtain⟨n,rfl⟩:∃ n',n=n'+1:=⟨n-1,by omega⟩;obtain⟨bq,oq,rfl,hlq,hat⟩:=(znr hl hq gX).at hi;have hg:l[S.pc]?=some l[S.pc]:=gE hi;have hxi:=hx _ (gM hi);refine⟨_,zc (za fX) (i:=0) rfl,?_⟩;refine⟨S.pc,rfl,hi,?_⟩;refine⟨_,zc (hat S.pc hi) (i:=0) rfl,?_⟩;rcases zo8 hxi with ⟨ho,hr⟩ | ⟨ho,hr⟩
  ·have e1:goR l l.length R=S:=he.trans (zrA hg hr _);refine brE (by rw [ho];rfl) ?_;refine brE (by rw [ho];rfl) ?_;rw [e1,hg];exact⟨rfl,fX,gX,hm,hp,hpp⟩
  ·have no:∀ k:UInt8,k=1\/k=4\/k=5\/k=6->decide (((l[S.pc].op).toNat:Int)=(k.toNat:Int))=false:=fun k hk=>by
    apply Uj;intro e;have:=qV.1 e;rw [this] at ho;rcases hk with rfl | rfl | rfl | rfl <;> rcases ho with ho | ho <;> exact Gy ho (by decide)
   refine brN (no 1 (.inl rfl)) ?_;refine brN (no 4 (.inr (.inl rfl))) ?_;refine brN (no 5 (.inr (.inr (.inl rfl)))) ?_;refine brN (no 6 (.inr (.inr (.inr rfl)))) ?_;refine⟨_,zc (za fX) (i:=0) rfl,?_⟩;refine⟨S.pc,rfl,hi,?_⟩;refine⟨qr.enc l[S.pc],rfl,hat S.pc hi,hlq,?_⟩;refine cmo (ziy (v:=0) fX (by omega) (by omega) hxi) ?_;rintro e Y ⟨rfl,fY,gY⟩;obtain⟨x1,x2⟩:=zjh (R:=S) (v:=0) hxi;exact⟨(qk S l[S.pc] 0,n),(cvE rfl rfl),⟨⟨he.trans (zrz hg hr n),by rw [x1];omega,by rw [x1,x2];omega,by rw [x1];omega,by rw [x1];omega⟩,fY,zg gX gY⟩,by rw [x1];omega⟩
 ·have hc:¬ (S.pc:Int)<(l.length:Int):=dF hc;have hg:l[S.pc]?=none:=JJ (by omega);have e1:goR l l.length R=S:=he.trans (zpN hg _);rw [e1,hg];exact⟨rfl,fX,gX,hm,hp,hpp⟩
end
theorem zbo {n : Nat} {f : Nat → Value} (h : ∀ i, (f i).oneCell' = true) : (seg n f).all Value.oneCell' = true := by
  unfold seg
  rw [Qk]
  intro u hu
  obtain ⟨i, _, rfl⟩ := UO.1 hu
  exact h i
theorem znf : (zmm).toArray.size = 259 := by kernel_rfl
theorem zo2 (R : RunD) : (qQ R).all Value.oneCell' = true := by
  unfold qQ
  rw [UC, QL, QL, QL, QL, QL, QL, zbo fun _ => rfl, zbo fun _ => rfl, zbo fun _ => rfl, zbo fun _ => rfl, zbo fun _ => rfl]
  have : (zd9 R.ev).all Value.oneCell' = true := Qk.2 fun u hu => zhi (E := evE) _ u hu
  rw [this]; rfl
theorem qN {α : Type} {E : Enc α} {w X : Wd} {q : OA} {l : List α} (h : SlR E w q l) (hs : ∀ a, q = some a → X.heap[a.block]? = w.heap[a.block]?) : SlR E X q l := by
  rcases h with h | ⟨b', o, h1, h2, h3⟩
  · exact .inl h
  · have h4 := hs _ h1
    have h4 : X.heap[b']? = w.heap[b']? := h4
    refine .inr ⟨b', o, h1, ?_, fun i hi => zJ h4 (h3 i hi)⟩
    have h5 : w.heap[b']? = some w.heap[b'] := Jm h2
    rw [h5] at h4
    exact hlt h4
structure RowF {α : Type} (E : Enc α) (n0 : Nat) (F : Nat → Prop) (X : Wd) (q : OA) (l : List α) : Prop where
  row : SlR E X q l
  out : ∀ a, q = some a → a.block < n0 ∧ ¬ F a.block
theorem RowF.keep {α : Type} {E : Enc α} {n0 : Nat} {F F' G : Nat → Prop} {X Y : Wd} {q : OA} {l : List α} (h : RowF E n0 F X q l) (hn : n0 ≤ X.heap.size) (k : KeepsG G F' X Y) (hG : ∀ k, k < n0 → G k → F k) : RowF E n0 F' Y q l := by
  refine ⟨qN h.row fun a ha => ?_, fun a ha => ⟨(h.out a ha).1, fun hf => ?_⟩⟩
  · have := h.out a ha
    exact k.same _ (by omega) fun hg => this.2 (hG _ this.1 hg)
  · have := h.out a ha
    rcases k.fp _ hf with h2 | h2
    · exact this.2 (hG _ this.1 h2)
    · omega
def StR (pre : List RunD) (vs : List Value) (W : Wd) : Prop := ∃ R b, pre.getLast? = some R ∧ vs = [AtR b] ∧ zau W b R
section
variable {yl n0 cap cd : Nat} {J Jx : List RunD → (Nat → Prop) → Wd → Prop} {xs : List RunD} {l : List InsD} {dom : List UInt8} {q p : OA}
theorem zoP (hJ : JG n0 (fun _ => False) J) (hn0 : ∀ pre F X, J pre F X → n0 ≤ X.heap.size) (hy : ∀ pre x vs F W1, J pre F W1 → StR (pre ++ [x]) vs W1 → (pre ++ [x]) <+: xs → YieldR PG yl vs.toArray W1 fun v W2 =>
      (v = .bool true ∧ ∃ F', J (pre ++ [x]) F' W2 ∧ KeepsG F F' W1 W2) ∨ (v = .bool false ∧ ∃ F', Jx (pre ++ [x]) F' W2)) (h12 : l.length ≤ 12) (hx : ∀ x ∈ l, zdI x) (hd : dom.length ≤ 1000) :
    ∀ (n : Nat) (S : RunD) (b : Nat) (pre : List RunD) (F : Nat → Prop) (X : Wd), l.length ≤ n + S.pc → S.many ≤ S.pc → S.pc ≤ l.length → zau X b S → n0 ≤ b → ¬ F b → J pre F X → RowF qr n0 F X q l → RowF zO n0 F X p dom → (pre ++ qa l dom n S) <+: xs →
      Calls PG 229 #[AtR b, .slice q l.length cap, .slice p dom.length cd, .func (.yield yl) #[] #[]] X fun e Y =>
        (e = .returned (.bool true) ∧ ∃ F', J (pre ++ qa l dom n S) F' Y ∧ KeepsG (fun k => F k ∨ k = b) F' X Y) ∨ (e = .returned (.bool false) ∧ ∃ pre' F', pre' <+: xs ∧ Jx pre' F' Y) := by
  intro n
  induction n with
  | zero =>
    intro S b pre F X hn hm hp fX hb hFb hj hq hdm hpre
    refine qM (S := sg 41) (zbi _) (args := [AtR b, .slice q l.length cap, .slice p dom.length cd, .func (.yield yl) #[] #[]]) Tryz.func229 rfl rfl (JS rfl) rfl ?_
    have hpc : S.pc = l.length := by omega
    have hg : l[S.pc]? = none := JJ (by omega)
    have e1 : goR l l.length S = S := zpN hg _
    refine Gi (zib fX hq.row (fun a ha => by have := (hq.out a ha).1; omega) h12 hx hm hp) ?_
    rintro e Y ⟨rfl, fY, gY, _⟩
    rw [e1] at fY ⊢
    rw [hg]
    refine brT ?_
    have hjY := hJ.step _ _ _ _ hj (StepG.grown gY (.inl hb) hFb)
    have hs : qa l dom 0 S = [S] := by show [goR l l.length S] = _; rw [e1]
    rw [hs] at hpre ⊢
    refine YieldR.mono (hy pre S [AtR b] F Y hjY ⟨S, b, by simp, rfl, fY⟩ hpre) ?_
    rintro v Z (⟨rfl, F', hJZ, hKZ⟩ | ⟨rfl, F', hJZ⟩)
    · exact .inl ⟨rfl, F', hJZ, (KeepsG.grown (F := fun k => F k ∨ k = b) gY (.inr rfl)).trans (hKZ.weak fun k h => .inl h)⟩
    · exact .inr ⟨rfl, _, F', hpre, hJZ⟩
  | succ n ih =>
    intro S b pre F X hn hm hp fX hb hFb hj hq hdm hpre
    refine qM (S := sg 41) (zbi _) (args := [AtR b, .slice q l.length cap, .slice p dom.length cd, .func (.yield yl) #[] #[]]) Tryz.func229 rfl rfl (JS rfl) rfl ?_
    obtain ⟨T, hT⟩ : ∃ T, T = goR l l.length S := ⟨_, rfl⟩
    refine Gi (zib fX hq.row (fun a ha => by have := (hq.out a ha).1; omega) h12 hx hm hp) ?_
    rintro e Y ⟨rfl, fY, gY, tm, tp, tpp⟩
    rw [← hT] at fY tm tp tpp ⊢
    have hjY := hJ.step _ _ _ _ hj (StepG.grown gY (.inl hb) hFb)
    have hXn := hn0 _ _ _ hj
    have kY : KeepsG (fun k => F k ∨ k = b) F X Y := ⟨gY.os, gY.tape, gY.output, gY.size, fun k hk hf => gY.block k hk (fun e => hf (.inr (by cases e; rfl))), fun k h => .inl (.inl h)⟩
    have hqY := hq.keep hXn kY (fun k hk h => h.resolve_right (by omega))
    have hdY := hdm.keep hXn kY (fun k hk h => h.resolve_right (by omega))
    cases hg : l[T.pc]? with
    | none =>
      refine brT ?_
      have hs : qa l dom (n + 1) S = [T] := by
        show (match l[(goR l l.length S).pc]? with | none => [goR l l.length S] | some x => _) = _
        rw [← hT, hg]
      rw [hs] at hpre ⊢
      refine YieldR.mono (hy pre T [AtR b] F Y hjY ⟨T, b, by simp, rfl, fY⟩ hpre) ?_
      rintro v Z (⟨rfl, F', hJZ, hKZ⟩ | ⟨rfl, F', hJZ⟩)
      · exact .inl ⟨rfl, F', hJZ, kY.trans hKZ⟩
      · exact .inr ⟨rfl, _, F', hpre, hJZ⟩
    | some x =>
      have hi : T.pc < l.length := (Jq.1 hg).1
      have hxe : l[T.pc] = x := by rw [Jt hi] at hg; exact Ug hg
      have hxi : zdI x := by rw [← hxe]; exact hx _ (List.getElem_mem hi)
      refine brF ?_
      have hs : qa l dom (n + 1) S = dom.flatMap fun v => qa l dom n (qk T x v) := by
        show (match l[(goR l l.length S).pc]? with | none => [goR l l.length S] | some x => _) = _
        rw [← hT, hg]
      rw [hs] at hpre ⊢
      refine ⟨Nat × (Nat → Prop), fun s => ⟨[(0, AtR b), (1, .slice q l.length cap), (2, .slice p dom.length cd), (3, .func (.yield yl) #[] #[]), (19, .slice p dom.length cd), (20, i64 dom.length), (21, i64 (s.1 : Nat))], []⟩,
        fun s Z => s.1 ≤ dom.length ∧ J (pre ++ (dom.take s.1).flatMap fun v => qa l dom n (qk T x v)) s.2 Z ∧ zau Z b T ∧ ¬ s.2 b ∧ RowF qr n0 s.2 Z q l ∧ RowF zO n0 s.2 Z p dom ∧ KeepsG (fun k => F k ∨ k = b) s.2 X Z, fun s => dom.length - s.1, (0, F),
        ⟨.cons rfl (.cons rfl (.cons rfl (.cons rfl (.cons rfl (.cons rfl (.cons rfl .nil)))))), rfl⟩, ⟨Ge _, by rw [Ur]; show J (pre ++ []) F Y; rw [QM]; exact hjY, fY, hFb, hqY, hdY, kY⟩, ?_⟩
      clear fY gY hjY hqY hdY kY
      rintro ⟨k, G⟩ Z ⟨hk, hjZ, fZ, hGb, hqZ, hdZ, kZ⟩
      dsimp only at hk hjZ hGb hqZ hdZ kZ ⊢
      have hZn := hn0 _ _ _ hjZ
      refine Gm (fun hc => ?_) (fun hc => ?_)
      · have hc : (k : Int) < (dom.length : Int) := Qd hc
        have hkd : k < dom.length := by omega
        obtain ⟨bp, op, hpe, hlp, hatp⟩ := hdZ.row.at hkd
        have hqr := hqZ
        obtain ⟨bq, oq, hqe, hlq, hatq⟩ := hqZ.row.at hi
        have ep : some (Value.slice p dom.length cd) = some (Value.slice (some ⟨bp, op, none⟩) dom.length cd) := by rw [hpe]
        subst hpe
        refine ⟨k, rfl, hkd, ?_⟩
        refine ⟨u8 dom[k], by have := zc (hatp k hkd) (i := 0) (v := u8 dom[k]) rfl; exact this, ?_⟩
        refine ⟨qQ T, zaF _, za fZ, hlt fZ, ?_⟩
        refine zk (X := Z) (v := .agg (qQ T).toArray) (jl.get 291 _ rfl) (zaF _) znf (zo2 _) fun V hbV fV sV => ?_
        subst hqe
        have fV : zau V Z.heap.size T := fV
        refine ⟨_, zc (za fV) (i := 0) rfl, ?_⟩
        refine ⟨T.pc, rfl, hi, ?_⟩
        refine ⟨qr.enc x, rfl, by rw [← hxe]; exact zw hbV (hatq T.pc hi), KF hlq hbV.size, ?_⟩
        refine Gi (ziy (v := dom[k]) fV (by omega) (by omega) hxi) ?_
        rintro e U ⟨rfl, fU, gU⟩
        obtain ⟨x1, x2⟩ := zjh (R := T) (v := dom[k]) hxi
        have hGn : ¬ G Z.heap.size := fun h => by have := (hJ.lt _ _ _ _ hjZ h).1; omega
        have hjU := hJ.step _ _ _ _ (hJ.step _ _ _ _ hjZ (StepG.below hbV)) (StepG.grown gU (.inl hZn) hGn)
        have hbU : Below Z.heap.size Z U := hbV.trans (zm gU hbV.size (Gc _))
        have kU : KeepsG G G Z U := KeepsG.below hbU fun k h => .inl h
        have hqU := hqr.keep hZn kU (fun k _ h => h)
        have hdU := hdZ.keep hZn kU (fun k _ h => h)
        have hdk : dom.flatMap (fun v => qa l dom n (qk T x v)) = (dom.take k).flatMap (fun v => qa l dom n (qk T x v)) ++ (qa l dom n (qk T x dom[k]) ++ (dom.drop (k + 1)).flatMap fun v => qa l dom n (qk T x v)) := by
          have e : dom = dom.take k ++ dom[k] :: dom.drop (k + 1) := by rw [JD, JQ]
          have e2 : (dom.take k ++ dom[k] :: dom.drop (k + 1)).flatMap (fun v => qa l dom n (qk T x v)) = (dom.take k).flatMap (fun v => qa l dom n (qk T x v)) ++ (qa l dom n (qk T x dom[k]) ++ (dom.drop (k + 1)).flatMap fun v => qa l dom n (qk T x v)) := by
            rw [Kf, KS]
          rw [← e] at e2
          exact e2
        have hpk : ((pre ++ (dom.take k).flatMap fun v => qa l dom n (qk T x v)) ++ qa l dom n (qk T x dom[k])) <+: xs := by
          refine List.IsPrefix.trans ?_ hpre
          rw [hdk]
          exact ⟨(dom.drop (k + 1)).flatMap fun v => qa l dom n (qk T x v), by simp only [KO]⟩
        have htk : (dom.take (k + 1)).flatMap (fun v => qa l dom n (qk T x v)) = (dom.take k).flatMap (fun v => qa l dom n (qk T x v)) ++ qa l dom n (qk T x dom[k]) := by
          rw [Jd hkd, Kf, KS, Qq, QM]
        refine Gi (ih (qk T x dom[k]) Z.heap.size (pre ++ (dom.take k).flatMap fun v => qa l dom n (qk T x v)) G U (by rw [x1]; omega) (by rw [x1, x2]; omega) (by rw [x1]; omega) fU hZn hGn hjU hqU hdU hpk) ?_
        rintro e V' (⟨rfl, F', hjV, kV⟩ | ⟨rfl, pre', F', hp', hjx⟩)
        · refine brF ?_
          have kW : KeepsG G F' Z V' := ⟨kV.os.trans kU.os, kV.tape.trans kU.tape, kV.output.trans kU.output, UT kU.size kV.size, fun i hi hf => (kV.same i (KF hi kU.size) (fun h => by
            rcases h with h | h
            · exact hf h
            · omega)).trans (kU.same i hi hf), fun i h => by
            have := kU.size
            rcases kV.fp i h with (h2 | h2) | h2
            · exact .inl h2
            · exact .inr (by omega)
            · exact .inr (by omega)⟩
          have hbZ := hlt fZ
          refine ⟨((k + 1 : Nat) : Int), (zi (by omega)).trans (by omega), ?_⟩
          refine ⟨(k + 1, F'), ⟨.cons rfl (.cons rfl (.cons rfl (.cons rfl (.cons rfl (.cons rfl (.cons rfl .nil)))))), rfl⟩, ⟨hkd, ?_, (kW.same b hbZ hGb).trans fZ, fun h => ?_, hqr.keep hZn kW (fun _ _ h => h), hdZ.keep hZn kW (fun _ _ h => h), kZ.trans kW⟩, by show dom.length - (k + 1) < dom.length - k; omega⟩
          · show J (pre ++ (dom.take (k + 1)).flatMap fun v => qa l dom n (qk T x v)) F' V'
            rw [htk, ← KO]
            exact hjV
          · rcases kW.fp b h with h2 | h2
            · exact hGb h2
            · omega
        · refine brT ?_
          exact .inr ⟨rfl, pre', F', hp', hjx⟩
      · have hc : ¬ (k : Int) < (dom.length : Int) := KI hc
        obtain rfl : k = dom.length := by omega
        rw [Qx] at hjZ
        exact .inl ⟨rfl, G, hjZ, kZ⟩
theorem zlV {bi bd : Nat} {W0 : Wd} (hl : SlR qr W0 q l) (hp : SlR zO W0 p dom) (fi : W0.heap[bi]? = some (.cells #[.slice q l.length cap] 97 (0, 0))) (fd : W0.heap[bd]? = some (.cells #[.slice p dom.length cd] 72 (0, 0))) (hql : ∀ a, q = some a → a.block < W0.heap.size) (hpl : ∀ a, p = some a → a.block < W0.heap.size) (h12 : l.length ≤ 12) (hx : ∀ x ∈ l, zdI x) (hd : dom.length ≤ 1000) :
    ziH PG 228 [AtR bi, AtR bd] (zaf l dom) W0 (fun k => (k = bi ∨ k = bd) ∨ (∃ a, q = some a ∧ k = a.block) ∨ ∃ a, p = some a ∧ k = a.block) (fun _ => False) StR := by
  intro yl F0 J Jx W hsz hrd hrf hJ hJx hy h0
  refine qM (S := sg 9) (zbi _) (args := [.func (.yield yl) #[] #[], AtR bi, AtR bd]) Tryz.func228 rfl rfl (JS rfl) rfl ?_
  obtain ⟨X, hX⟩ : ∃ X, X = W.alloc (.cells (qQ znz).toArray 291) := ⟨_, rfl⟩
  have hbX : Below W.heap.size W X := by rw [hX]; exact (Gh _ W).alloc (Gc _) _
  have fX : zau X W.heap.size znz := by rw [hX]; exact zA W _
  have ez : zmm = qQ znz := by kernel_rfl
  have hX' : W.alloc (.cells (zmm).toArray 291) = X := by rw [hX, ez]
  have fiW := (hrd bi (.inl (.inl (.inl rfl)))).trans fi
  have fdW := (hrd bd (.inl (.inl (.inr rfl)))).trans fd
  have hjX := hJ.step _ _ _ _ h0 (StepG.below hbX)
  have hF : ¬ F0 W.heap.size := fun h => by have := (hJ.lt _ _ _ _ h0 h).1; omega
  have hlX : RowF qr W.heap.size F0 X q l := ⟨qN hl fun a ha => (hbX.block _ (by have := hql a ha; omega)).trans (hrd _ (.inl (.inr (.inl ⟨a, ha, rfl⟩)))), fun a ha => ⟨by have := hql a ha; omega, hrf _ (.inr (.inl ⟨a, ha, rfl⟩))⟩⟩
  have hpX : RowF zO W.heap.size F0 X p dom := ⟨qN hp fun a ha => (hbX.block _ (by have := hpl a ha; omega)).trans (hrd _ (.inl (.inr (.inr ⟨a, ha, rfl⟩)))), fun a ha => ⟨by have := hpl a ha; omega, hrf _ (.inr (.inr ⟨a, ha, rfl⟩))⟩⟩
  refine ⟨_, by rw [hX']; exact zc (za (zb hbX fiW)) (i := 0) rfl, ?_⟩
  refine ⟨_, by rw [hX']; exact zc (za (zb hbX fdW)) (i := 0) rfl, ?_⟩
  rw [hX']
  have hJn : JG W.heap.size (fun _ => False) (fun pre F Z => J pre F Z ∧ W.heap.size ≤ Z.heap.size) := ⟨fun s F A B ⟨h, hn⟩ hs => ⟨hJ.step _ _ _ _ h hs, UT hn hs.size⟩, fun s F A k ⟨h, _⟩ hk => hJ.lt _ _ _ _ h hk⟩
  refine Gi (zoP (xs := zaf l dom) (Jx := Jx) hJn (fun _ _ _ h => h.2) (fun pre x vs F W1 ⟨hj, hn⟩ hst hpre => YieldR.mono (hy pre x vs F W1 hj hst hpre) fun v W2 h => ?_) h12 hx hd l.length znz W.heap.size [] F0 X (Gc _) (Gc _) (Ge _) fX (Gc _) hF ⟨hjX, hbX.size⟩ hlX hpX (List.prefix_refl _)) ?_
  · rcases h with ⟨rfl, F', h1, h2⟩ | h
    · exact .inl ⟨rfl, F', ⟨h1, UT hn h2.size⟩, h2⟩
    · exact .inr h
  · rintro e Y (⟨rfl, F', ⟨hj, _⟩, _⟩ | ⟨rfl, pre', F', h1, h2⟩)
    · exact ⟨⟨_, rfl⟩, .inl ⟨F', hj⟩⟩
    · exact ⟨⟨_, rfl⟩, .inr ⟨pre', F', h1, h2⟩⟩
theorem zji {w : Wd} : Calls PG 195 #[.slice q l.length cap, .slice p dom.length cd] w fun e w' => e = .returned (.func (.func 228) #[] #[AtR w.heap.size, AtR (w.heap.size + 1)]) ∧ w'.heap[w.heap.size]? = some (.cells #[.slice q l.length cap] 97 (0, 0)) ∧ w'.heap[w.heap.size + 1]? = some (.cells #[.slice p dom.length cd] 72 (0, 0)) ∧ w'.heap.size = w.heap.size + 2 ∧ Below w.heap.size w w' := by
  refine qM (S := sg 6) (zbi _) (args := [.slice q l.length cap, .slice p dom.length cd]) Tryz.func195 rfl rfl (JS rfl) rfl ?_
  have s1 := QG w (.cells #[.slice q l.length cap] 97)
  have h2 := zA (w.alloc (.cells #[.slice q l.length cap] 97)) (.cells #[.slice p dom.length cd] 72)
  have s2 := QG (w.alloc (.cells #[.slice q l.length cap] 97)) (.cells #[.slice p dom.length cd] 72)
  rw [s1] at h2 s2
  refine ⟨?_, qy _ (zA w _), h2, s2, ((Gh _ w).alloc (Gc _) _).alloc (by simp) _⟩
  rw [← s1]; rfl
end
theorem ztx {P:Program} {t e:TypeId} (hu:P.underlying t=some (.slice e)) (d:Nat) (a:OA) (n c:Nat) (w:Wd):(Op.equalIn (d+1) t (.slice a n c) (.slice none 0 0)).run P w = .ok a.isNone w:=by
 cases a <;> simp [Op.equalIn,Uu hu]
theorem zpu {n m:Nat} (h:n<256) (hm:Nat.ble 256 m=true):n<m:=nL h (JS hm)
theorem zsT {s:ByteArray} {n:Nat} {K:UInt8->Prop} (h:n<s.size) (k:∀ u,K u):∃ u,s.data.toList[n]?=some u/\K u:=by
 have h:n<s.data.toList.length:=by simpa using h
 exact⟨_,gE h,k _⟩
theorem zty {P:Program} {t e:TypeId} (hu:P.underlying t=some (.slice e)) (x y:Operand) (a:OA) (n c:Nat) (w:Wd):(do eqGuard .eql t x y (.slice a n c) (.slice none 0 0);binOp .eql t (.slice a n c) (.slice none 0 0):Sem Value).run P w = .ok (.bool a.isNone) w:=by
 have h:(Op.equal t (.slice a n c) (.slice none 0 0)).run P w = .ok a.isNone w:=by
  exact ztx hu 9999 a n c w
 have h1:(eqGuard .eql t x y (.slice a n c) (.slice none 0 0)).run P w = .ok () w:=by
  simp only [eqGuard,Ux,Kt,Gr,UZ]
 rw [UY,h1];simp only [Qa,binOp,UY,h,UZ]
theorem zgJ {α:Type} {E:Enc α} {T:TypeId} {w:Wd}:OwnS E T w.heap.size (w.alloc (.cells #[] T)) (some ⟨w.heap.size,0,none⟩) 0 []:=by
 unfold OwnS World.ownsRow;exact⟨by simp,.inr ⟨w.heap.size,0,#[],rfl,Gc _,zA w _,Gc _,Ge _,by simp,by simp⟩⟩
theorem zk4 {p:OA} {cap:Nat} {l:List UInt8} {w:Wd} (hl:SlR zO w p l) (hn:l.length<=1000000) (hc:p=none->cap=0) :
  Calls PG 136 #[.slice p l.length cap] w fun e w'=>(∃ q c,e = .returned (.slice q l.length c)/\OwnS zO 5 w.heap.size w' q c l)/\Bw w w':=by
 refine zD 8 [.slice p l.length cap] Tryz.func136 ?_;refine⟨_,fun w=>zty Tryz.underlying72 _ _ p l.length cap w,?_⟩
 cases p with
 | none =>
  refine brT ?_;have e:=hl.none;subst e;exact⟨⟨none,0,rfl,OwnS.nil⟩,Gh _ _⟩
 | some a =>
  refine brF ⟨⟨by decide,by decide,rfl⟩,[],rfl,?_⟩;have hb0:Bw w (w.alloc (.cells #[] 5)):=zba w _;refine zgp (E:=zO) (T:=5) (B:=w.heap.size) (l:=[]) (news:=l) (cap:=0) Tryz.underlying72 k5 rfl rfl rfl zgJ rfl (hl.below hb0) (fun h=>by cases h) hb0.size (by simp;omega) (by simp;omega) ?_;intro p' cap' w' ho hg hbw;exact⟨⟨p',cap',rfl,ho⟩,hb0.trans hbw⟩
theorem ztg {x:UInt8} {w:Wd}:Calls PG 278 #[u8 x] w fun e w'=>e = .returned (.bool false)/\w=w':=by
 refine zD 6 [u8 x] Tryz.func278 ?_;refine⟨rb ?_,rfl⟩;rw [Ut rfl];rfl
theorem zrp {x y:UInt8} {w:Wd}:Calls PG 260 #[u8 x,u8 y] w fun e w'=>e = .returned (.bool (decide ((x.toNat:Int)<(y.toNat:Int))))/\w=w':=by
 refine zD 17 [u8 x,u8 y] Tryz.func260 ?_;refine cmo ztg ?_;rintro e _ ⟨rfl,rfl⟩;exact brF (brF ⟨rfl,rfl⟩)
def zdV:List UInt8->Bool
 | []=>true
 | [_]=>true
 | x::y::r=>decide (x.toNat<=y.toNat)&&zdV (y::r)
theorem zms:∀ (l:List UInt8),zdV l=true->∀ (k:Nat) (h:k+1<l.length),(l[k]).toNat<=(l[k+1]).toNat
 | [],_,k,h=>by simp at h
 | [x],_,k,h=>by simp at h
 | x::y::r,hs,k,h=>by
  unfold zdV at hs;rw [bAT,dE] at hs
  cases k with
  | zero=>exact hs.1
  | succ k=>exact zms (y::r) hs.2 k (by simpa using h)
section
variable {b o cap:Nat} {l:List UInt8} {w:Wd}
theorem zlK (hl:SlR zO w (some ⟨b,o,none⟩) l) (h12:l.length<=12) (hs:zdV l=true) :
  CB 254 #[.slice (some ⟨b,o,none⟩) l.length cap,i64 0,i64 l.length] w (.tuple #[]):=by
 refine zD 49 [.slice (some ⟨b,o,none⟩) l.length cap,i64 0,i64 l.length] Tryz.func254 ?_;refine⟨1,by decide,?_⟩;refine⟨Nat,fun k=>⟨[(0,.slice (some ⟨b,o,none⟩) l.length cap),(1,i64 0),(2,i64 l.length),(6,i64 (k+1:Nat))],[]⟩,fun k X=>Bw w X,fun k=>l.length-k,0,
  (cvE rfl rfl),Gh _ _,?_⟩
 rintro k X hb;refine biE (fun hc=>?_) fun hc=>?_
 ·have hc:((k+1:Nat):Int)<(l.length:Int):=dT hc;have hk:k+1<l.length:=by omega
  refine⟨Unit,fun _=>⟨[(0,.slice (some ⟨b,o,none⟩) l.length cap),(1,i64 0),(2,i64 l.length),(6,i64 (k+1:Nat)),(7,i64 (k+1:Nat))],[]⟩,fun _ Y=>Bw w Y,fun _=>0,(),(cvE rfl rfl),hb,?_⟩;rintro _ Y hbY;have hbD:Bw w Y.drew:=hbY.drew;refine DrawE.ord [] [0,1,2,3,4,5,6,7,8,9,10,11,12,13,14] (by kernel_rfl) (brE (Ut (by omega)) ?_);obtain⟨b',o',hp,hlt',hat⟩:=(hl.below hbD).at hk;simp only [KZ,Uv,Gp] at hp;obtain⟨rfl,rfl⟩:=hp;refine⟨k+1,rfl,hk,u8 l[k+1],by have:=zc (hat (k+1) hk) (i:=0) (v:=u8 l[k+1]) rfl;exact this,(k:Nat),(zi (by omega)).trans (by omega),k,rfl,by omega,?_⟩;refine⟨u8 l[k],by have:=zc (hat k (by omega)) (i:=0) (v:=u8 l[k]) rfl;exact this,cmo zrp ?_⟩;rintro e _ ⟨rfl,rfl⟩;refine⟨Gh _ _,?_⟩;have hle:=zms l hs k hk;exact brN (Uj (by omega)) ⟨((k+1+1:Nat):Int),(zi (by omega)).trans (by omega),k+1,(cvE rfl rfl),hbD,zdc (by omega)⟩
 ·exact⟨rfl,hb⟩
theorem zs6 {m:Int} (hl:SlR zO w (some ⟨b,o,none⟩) l) (h12:l.length<=12) (hs:zdV l=true) :
  CB 226 #[.slice (some ⟨b,o,none⟩) l.length cap,i64 0,i64 l.length,i64 m] w (.tuple #[]):=by
 refine zD 134 [.slice (some ⟨b,o,none⟩) l.length cap,i64 0,i64 l.length,i64 m] Tryz.func226 ?_;refine⟨Unit,fun _=>⟨[(0,.slice (some ⟨b,o,none⟩) l.length cap),(1,i64 0),(2,i64 l.length),(3,i64 m)],[]⟩,fun _ X=>w=X,fun _=>0,(),(cvE rfl rfl),rfl,?_⟩;rintro _ _ rfl;refine⟨(l.length:Nat),(zi (by omega)).trans (by omega),brE (Ut (by omega)) (cmo (zlK hl h12 hs) ?_)⟩;rintro e X ⟨rfl,hb⟩;exact⟨rfl,hb⟩
theorem zsj {n:Nat} (h:n<256):Calls PG 264 #[.int .u64 (n:Nat)] w fun e w'=>(∃ m:Int,e = .returned (i64 m))/\w=w':=by
 refine zD 25 [.int .u64 (n:Nat)] Tryz.func264 ?_;exact brN (Uj (by omega)) (brN (Uj (by omega)) (brN (Uj (by omega)) ⟨(n:Nat),zf1 (by omega),n,rfl,zpu h (by kernel_rfl),zsT (zpu h (by kernel_rfl)) fun u=>⟨_,rfl,_,rfl,⟨_,rfl⟩,rfl⟩⟩))
theorem zol {n:Nat} (h:n<256):Calls PG 227 #[.int .u64 (n:Nat)] w fun e w'=>(∃ m:Int,e = .returned (i64 m))/\w=w':=by
 refine zD 8 [.int .u64 (n:Nat)] Tryz.func227 ?_;refine brF (cmo (zsj h) ?_);rintro e _ ⟨⟨m,rfl⟩,rfl⟩;exact⟨⟨m,rfl⟩,rfl⟩
theorem zsg (hl:SlR zO w (some ⟨b,o,none⟩) l) (h12:l.length<=12) (hs:zdV l=true) :
  CB 193 #[.slice (some ⟨b,o,none⟩) l.length cap] w (.tuple #[]):=by
 refine zD 11 [.slice (some ⟨b,o,none⟩) l.length cap] Tryz.func193 ?_;refine⟨(l.length:Nat),zei (by omega),cmo (zol (by omega)) ?_⟩;rintro e _ ⟨⟨m,rfl⟩,rfl⟩;refine cmo (zs6 hl h12 hs) ?_;rintro e X ⟨rfl,hb⟩;exact⟨rfl,hb⟩
end
end Go.Proofs.YtnadlhpkpnfmbaaGreatDoor
