/- Contracts of functions, and plain facts, for the law that the last text of this claim proves. -/
import Derived.Test.YtkpaomeeknegpaaGreatDoorQ1
import Derived.Lib.AppendZerosOnto
import Derived.Laws.OwnMore
import Derived.Laws.BytesArg
import Derived.Laws.Strings
set_option linter.unusedSimpArgs false
set_option linter.unusedVariables false
namespace Go.Vc
open Go.RowKit
theorem OwnS.lower {α : Type} {E : Enc α} {T B B' cap : Nat} {w : Wd} {p : OA} {l : List α} (h : OwnS E T B w p cap l) (hB : B' ≤ B) : OwnS E T B' w p cap l := by
  obtain ⟨h1, h2⟩ := h
  refine ⟨h1, ?_⟩
  rcases h2 with h2 | ⟨g, cap', cur, h2, hb, qI⟩
  · exact .inl h2
  · exact .inr ⟨g, cap', cur, h2, UL hB hb, qI⟩
theorem zoC {P : Program} {w : Wd} {t T ty : TypeId} {iT : TI} {z : Value} (hu : P.underlying t = some (.slice T)) (hT : TIok P T iT) (hz : iT.zero = some [z]) (h1 : z.oneCell' = true) {b o n c : Nat} (hn : 0 < n) {cs : Array Value} {u : TypeId} (hg : w.heap[b]? = some (.cells cs u (0, 0))) (ho : o + n ≤ cs.size) {K : Value → Wd → Prop}
    (k : ∀ w', w'.heap[b]? = some (.cells (cs.toList.take o ++ List.replicate n z ++ cs.toList.drop (o + n)).toArray u (0, 0)) → w.grownBy w' (some b) → w'.heap.size = w.heap.size → K (.tuple #[]) w') :
    SatR ((Builtin.clear_ #[t] ty #[.slice (some ⟨b, o, none⟩) n c]).run P w) K := by
  obtain ⟨⟨inf, hi, _, _, hzz⟩, _⟩ := hT
  obtain ⟨zv, hzv, hzc⟩ := hzz _ hz
  have hv : ∀ w, (zeroValue T).run P w = .ok zv w := fun w => by simp [zeroValue, typeInfo, hi, hzv]
  have hzc2 : zv.cells = #[z] := by rw [← hzc]
  have hrep : (Builtin.zeroCells zv.cells n).toList = List.replicate n z := by
    rw [hzc2]
    simp [Builtin.zeroCells]
    apply List.ext_getElem
    · simp
    · intro i h1 h2
      simp [Nat.mod_one]
  have hst := Qc P b o u (List.replicate n z) 0 cs w hg (by simpa using ho) (fun v hv' => by rw [Ju hv']; exact h1)
  refine SatR.mk (v := .tuple #[]) (w' := w.setRow b (cs.toList.take o ++ List.replicate n z ++ cs.toList.drop (o + n)).toArray) ?_ (k _ (zn hg) (jI w b _) (by simp))
  obtain ⟨m, rfl⟩ : ∃ m, n = m + 1 := ⟨n - 1, by omega⟩
  have hrep' : Builtin.zeroCells zv.cells (m + 1) = (List.replicate (m + 1) z).toArray := by rw [← hrep]
  simp only [UK, JM] at hst
  simp [Builtin.clear_, Ur hu, hv, hrep', hst]
theorem zdw {α : Type} {E : Enc α} {P : Program} {w : Wd} {t T : TypeId} {iT : TI} {z : List Value} {kl kc : IntKind} (hu : P.underlying t = some (.slice T)) (hT : TIok P T iT) (hz : iT.zero = some z) (hzl : z.length = iT.size) (hs : iT.size = E.sz) (n : Nat) (h1 : iT.bytes * n ≤ 281474976710656) (h63 : n ≤ maxLen) {K : Value → Wd → Prop}
    (k : ∀ w', OwnS E T w.heap.size w' (some ⟨w.heap.size, 0, none⟩) n [] → Below w.heap.size w w' → w'.heap.size = w.heap.size + 1 → K (.slice (some ⟨w.heap.size, 0, none⟩) 0 n) w') :
    SatR ((Instr.makeSlice t (.int kl 0) (.int kc (n : Int))).run P w) K := by
  obtain ⟨⟨inf, hi, hsz, hby, hzz⟩, _⟩ := hT
  obtain ⟨zv, hzv, hzc⟩ := hzz z hz
  have h63' : (n : Int) ≤ 9223372036854775807 := by unfold maxLen at h63; omega
  have hb' : (inf.bytes : Int) * (n : Int) ≤ 281474976710656 := by
    have h : ((inf.bytes * n : Nat) : Int) ≤ 281474976710656 := by rw [hby]; omega
    rwa [QG] at h
  have hr := run_make (P := P) w t T inf zv hu hi hzv kl kc 0 n (by omega) (by omega) hb' h63'
  simp only [KK, Int.toNat_zero] at hr
  have hcs : zv.cells.size = inf.size := by rw [hsz, ← hzl, ← hzc]; simp
  have hp : 0 < zv.cells.size := by rw [hcs, hsz, hs]; exact E.pos
  have hm : (madeCells zv.cells (n * inf.size)).size = n * E.sz := by
    have := Gi List.length (ziP (z := zv) hp n)
    rw [zgP, hcs] at this
    rw [← hs, ← hsz]
    simpa [hcs] using this
  refine SatR.mk hr (k _ ?_ ((Ga _ _).alloc (UV _) _) (by simp))
  exact World.ownsRow_made w _ n (UV _) h63 hm
structure StepG (n0 : Nat) (Ow F : Nat → Prop) (A B : Wd) : Prop where
  os : B.os = A.os
  tape : B.tape = A.tape
  output : B.output = A.output
  size : A.heap.size ≤ B.heap.size
  same : ∀ k, k < A.heap.size → ((k < n0 ∧ ¬ Ow k) ∨ F k) → B.heap[k]? = A.heap[k]?
theorem StepG.mono {n0 n1 : Nat} {Ow F : Nat → Prop} {A B : Wd} (h : StepG n0 Ow F A B) (hn : n1 ≤ n0) : StepG n1 Ow F A B :=
  ⟨h.os, h.tape, h.output, h.size, fun k hk hf => h.same k hk (hf.imp (fun h => ⟨KF h.1 hn, h.2⟩) id)⟩
theorem StepG.below {n0 : Nat} {Ow F : Nat → Prop} {A B : Wd} (h : Below A.heap.size A B) : StepG n0 Ow F A B :=
  ⟨h.os, h.tape, h.output, h.size, fun k hk _ => h.block k hk⟩
theorem StepG.trans {n0 : Nat} {Ow F : Nat → Prop} {A B C : Wd} (h : StepG n0 Ow F A B) (k : StepG n0 Ow F B C) : StepG n0 Ow F A C :=
  ⟨k.os.trans h.os, k.tape.trans h.tape, k.output.trans h.output, UL h.size k.size, fun i hi hf => (k.same i (KF hi h.size) hf).trans (h.same i hi hf)⟩
theorem StepG.put {n0 : Nat} {Ow F : Nat → Prop} {A : Wd} {l : Nat} (h : n0 ≤ l) (hf : ¬ F l) (o : Obj) : StepG n0 Ow F A (A.putObj l o) :=
  ⟨rfl, rfl, rfl, by simp [World.putObj], fun k _ hk => zj (fun e => by subst e; rcases hk with hk | hk; omega; exact hf hk)⟩
theorem StepG.grown {n0 : Nat} {Ow F : Nat → Prop} {A B : Wd} {l : Nat} (h : A.grownBy B (some l)) (hl : n0 ≤ l ∨ Ow l) (hf : ¬ F l) : StepG n0 Ow F A B :=
  ⟨h.os, h.tape, h.output, h.size, fun k hk hf2 => h.block k hk (fun e => by
    have e : k = l := by simpa using e
    subst e
    rcases hf2 with h2 | h2
    · rcases hl with hl | hl
      · omega
      · exact h2.2 hl
    · exact hf h2)⟩
structure JG {σ : Type} (n0 : Nat) (Ow : Nat → Prop) (J : σ → (Nat → Prop) → Wd → Prop) : Prop where
  step : ∀ s F A B, J s F A → StepG n0 Ow F A B → J s F B
  lt : ∀ s F A k, J s F A → F k → k < A.heap.size ∧ ¬ Ow k
theorem JG.mono {σ : Type} {n0 n1 : Nat} {Ow : Nat → Prop} {J : σ → (Nat → Prop) → Wd → Prop} (h : JG n0 Ow J) (hn : n0 ≤ n1) : JG n1 Ow J :=
  ⟨fun s F A B hj hs => h.step s F A B hj (hs.mono hn), h.lt⟩
structure KeepsG (F F' : Nat → Prop) (A B : Wd) : Prop where
  os : B.os = A.os
  tape : B.tape = A.tape
  output : B.output = A.output
  size : A.heap.size ≤ B.heap.size
  same : ∀ k, k < A.heap.size → ¬ F k → B.heap[k]? = A.heap[k]?
  fp : ∀ k, F' k → F k ∨ A.heap.size ≤ k
theorem KeepsG.refl (F : Nat → Prop) (A : Wd) : KeepsG F F A A := ⟨rfl, rfl, rfl, UV _, fun _ _ _ => rfl, fun _ h => .inl h⟩
theorem KeepsG.trans {F F' F'' : Nat → Prop} {A B C : Wd} (h : KeepsG F F' A B) (k : KeepsG F' F'' B C) : KeepsG F F'' A C :=
  ⟨k.os.trans h.os, k.tape.trans h.tape, k.output.trans h.output, UL h.size k.size,
   fun i hi hf => (k.same i (KF hi h.size) (fun hb => by rcases h.fp i hb with h1 | h1; exact hf h1; omega)).trans (h.same i hi hf),
   fun i hi => by
     rcases k.fp i hi with h1 | h1
     · exact h.fp i h1
     · exact .inr (UL h.size h1)⟩
theorem KeepsG.weak {F F' G : Nat → Prop} {A B : Wd} (h : KeepsG F F' A B) (hF : ∀ k, F k → G k) : KeepsG G F' A B :=
  ⟨h.os, h.tape, h.output, h.size, fun k hk hg => h.same k hk fun hf => hg (hF k hf), fun k hk => (h.fp k hk).imp (hF k) id⟩
theorem KeepsG.below {F F' : Nat → Prop} {A B : Wd} (h : Below A.heap.size A B) (hf : ∀ k, F' k → F k ∨ A.heap.size ≤ k) : KeepsG F F' A B :=
  ⟨h.os, h.tape, h.output, h.size, fun k hk _ => h.block k hk, hf⟩
theorem KeepsG.grown {F : Nat → Prop} {A B : Wd} {g : Nat} (h : A.grownBy B (some g)) (hg : F g) : KeepsG F F A B :=
  ⟨h.os, h.tape, h.output, h.size, fun k hk hf => h.block k hk (fun e => hf (by cases e; exact hg)), fun k h => .inl h⟩
def zjb {α : Type} (P : Program) (g : Nat) (lb : List Value) (xs : List α) (W0 : Wd) (Rd Ow : Nat → Prop) (St : List α → List Value → Wd → Prop) : Prop :=
  ∀ (l : Nat) (F0 : Nat → Prop) (J Jx : List α → (Nat → Prop) → Wd → Prop) (W : Wd), W0.heap.size ≤ W.heap.size → (∀ k, Rd k ∨ Ow k → W.heap[k]? = W0.heap[k]?) → (∀ k, Rd k → ¬ F0 k) →
    JG W.heap.size Ow J → JG W.heap.size Ow Jx →
    (∀ pre x vs F W1, J pre F W1 → St (pre ++ [x]) vs W1 → (pre ++ [x]) <+: xs → YieldR P l vs.toArray W1 fun v W2 =>
      (v = .bool true ∧ ∃ F', J (pre ++ [x]) F' W2 ∧ KeepsG F F' W1 W2) ∨ (v = .bool false ∧ ∃ F', Jx (pre ++ [x]) F' W2)) →
    J [] F0 W →
    Calls P g (.func (.yield l) #[] #[] :: lb).toArray W fun e W' => (∃ v, e = .returned v) ∧ ((∃ F', J xs F' W') ∨ ∃ pre F', pre <+: xs ∧ Jx pre F' W')
def zsV {α : Type} (F : Nat → Prop) (J : List α → (Nat → Prop) → Wd → Prop) (Jx : Exit → List α → (Nat → Prop) → Wd → Prop) (xs : List α) (A : Wd) : Exit → Env → Wd → Prop
  | .normal, _, B => ∃ F', J xs F' B ∧ KeepsG F F' A B
  | .ret, _, B => ∃ F', Jx .ret xs F' B ∧ KeepsG F F' A B
  | .exit id, _, B => ∃ F', Jx (.exit id) xs F' B ∧ KeepsG F F' A B
  | _, _, _ => False
theorem zdq {α : Type} {S : Sig} (hS : SigOk S) (hr : S.r = none) {f : Operand} {ps : Array Tmp} {assign body : Code} {E : Env} {w : Wd} {Q : Exit → Env → Wd → Prop}
    {gf : Nat} {lb : Array Value} (hg : opd E f = some (.func (.func gf) #[] lb)) (hok : jY S gf = true)
    {xs : List α} {W0 : Wd} {Rd Ow : Nat → Prop} {St : List α → List Value → Wd → Prop} (hI : zjb S.P gf lb.toList xs W0 Rd Ow St) (hW0 : W0.heap.size ≤ w.heap.size) (hRd : ∀ k, Rd k ∨ Ow k → k < W0.heap.size ∧ w.heap[k]? = W0.heap[k]?)
    (hps : ∀ pre vs W, St pre vs W → vs.length = ps.size) (hpn : ∀ p ∈ ps.toList, p < S.n)
    (F0 : Nat → Prop) (J : List α → (Nat → Prop) → Wd → Prop) (Jx : Exit → List α → (Nat → Prop) → Wd → Prop) (hRF : ∀ k, Rd k → ¬ F0 k)
    (hJ : JG w.heap.size Ow J) (hJx : ∀ ex, JG w.heap.size Ow (Jx ex)) (h0 : J [] F0 w)
    (hround : ∀ (l : Nat) (pre : List α) (x : α) (vs : List Value) (F : Nat → Prop) (W : Wd), w.heap.size ≤ l → (pre ++ [x]) <+: xs → J pre F W → St (pre ++ [x]) vs W → ¬ F l → (∃ lo, W.heap[l]? = some (.loop lo)) →
      wpE (sr S l) assign ⟨zgY ps.toList vs E.vs, []⟩ W fun ex E1 W1 => ex = .normal ∧ ∃ F1, KeepsG F F1 W W1 ∧ J pre F1 W1 ∧
        ∀ o W2, W2 = W1.putObj l o → J pre F1 W2 → wpE (sr S l) body E1 W2 (zsV F1 J Jx (pre ++ [x]) W2))
    (hdone : ∀ D F W, w.heap.size ≤ D → ¬ F D → J xs F W → W.heap[D]? = some (.deferred (some [])) → Q .normal ⟨E.vs, { target := .collected D, args := #[] } :: E.ds⟩ W)
    (hstop : ∀ D ex pre F W, w.heap.size ≤ D → ¬ F D → pre <+: xs → Jx ex pre F W → W.heap[D]? = some (.deferred (some [])) → Q ex ⟨E.vs, { target := .collected D, args := #[] } :: E.ds⟩ W) :
    zj3 S f ps assign body E w Q := by
  intro a ha
  have hcall : ∀ args w, (callFunc gf args).run S.P w = .ok (.enter gf args) w := by
    simp only [jY, Qg, Gc, Gd] at hok
    exact fun args w => hS.call gf hok.1.1 hok.1.2 hok.2 args w
  refine wpIn_rangeFunc ?_
  intro fn hfn
  have hro : (FR S.r).round = none := hr
  rw [hro]
  obtain ⟨rec, hrec⟩ : ∃ rec : LoopState → Option Code → Loop, rec = fun st pe => { state := st, pending := pe, fn, tmps := a.tmps, params := ps, assign, body, defers := w.heap.size } := ⟨_, rfl⟩
  obtain ⟨W1, hW1⟩ : ∃ W1, (w.alloc (.deferred (some []))).alloc (.loop (rec .ready none)) = W1 := ⟨_, rfl⟩
  have hK0 := zw w (.deferred (some []))
  have hK1 : W1.heap[w.heap.size]? = some (.deferred (some [])) := by rw [← hW1]; exact qM _ hK0
  have hL1 : W1.heap[w.heap.size + 1]? = some (.loop (rec .ready none)) := by
    rw [← hW1]; have := zw (w.alloc (.deferred (some []))) (.loop (rec .ready none)); rwa [QD] at this
  have hs1 : W1.heap.size = w.heap.size + 2 := by rw [← hW1]; simp
  have hst1 : Below w.heap.size w W1 := by
    rw [← hW1]; exact ((Ga _ w).alloc (UV _) _).alloc (by simp) _
  have hJ1 := hJ.step _ _ _ _ h0 (.below hst1)
  have hOl : ∀ k, w.heap.size ≤ k → ¬ Ow k := fun k hk ho => by have := (hRd k (.inr ho)).1; omega
  have hFl : ∀ k, F0 k → k < w.heap.size := fun k hk => (hJ.lt _ _ _ k h0 hk).1
  refine ⟨w.heap.size + 1, [{ target := .collected w.heap.size, args := #[] }], W1, { target := .fn (.func gf) lb, args := #[.func (.yield (w.heap.size + 1)) #[] #[]] }, W1, gf,
    #[.func (.yield (w.heap.size + 1)) #[] #[]] ++ lb, W1, ?_, ?_, fun _ _ => trivial, ?_, fun h => by simp [FR] at h, ?_⟩
  · rw [← hW1, hrec]; exact Kq _ _ _ _ _
  · have hg' := ha.eval hg
    simp only [resolve, hg']
    simp [go_sem]
  · simp [invoke, go_sem, hcall]
  · have hargs : #[Value.func (.yield (w.heap.size + 1)) #[] #[]] ++ lb = (Value.func (.yield (w.heap.size + 1)) #[] #[] :: lb.toList).toArray := by rw [← Qd]; simp
    rw [hargs]
    have book : ∀ {σ : Type} {K : σ → (Nat → Prop) → Wd → Prop} (lo : Loop), JG w.heap.size Ow K → JG W1.heap.size Ow (fun s F W => K s F W ∧ W.heap[w.heap.size + 1]? = some (.loop lo) ∧ W.heap[w.heap.size]? = some (.deferred (some [])) ∧ ¬ F (w.heap.size + 1) ∧ ¬ F w.heap.size) := by
      intro σ K lo hK
      refine ⟨fun s F A B ⟨hk, hl, hd, hf1, hf2⟩ hs => ?_, fun s F A k ⟨hk, _⟩ hf => hK.lt s F A k hk hf⟩
      exact ⟨hK.step s F A B hk (hs.mono (by omega)), (hs.same _ (hlt hl) (.inl ⟨by omega, hOl _ (by omega)⟩)).trans hl, (hs.same _ (hlt hd) (.inl ⟨by omega, hOl _ (by omega)⟩)).trans hd, hf1, hf2⟩
    have hcalls := hI (w.heap.size + 1) F0 (fun pre F W => J pre F W ∧ W.heap[w.heap.size + 1]? = some (.loop (rec .ready none)) ∧ W.heap[w.heap.size]? = some (.deferred (some [])) ∧ ¬ F (w.heap.size + 1) ∧ ¬ F w.heap.size)
      (fun pre F W => ∃ ex c, ((ex = .ret ∧ c = .ret) ∨ ∃ id, ex = .exit id ∧ c = .exit id) ∧ Jx ex pre F W ∧ W.heap[w.heap.size + 1]? = some (.loop (rec .done (some c))) ∧ W.heap[w.heap.size]? = some (.deferred (some [])) ∧ ¬ F (w.heap.size + 1) ∧ ¬ F w.heap.size)
      W1 (by omega) (fun k hk => by
        obtain ⟨h1, h2⟩ := hRd k hk
        rw [← h2]
        exact hst1.block k (by omega)) hRF (book _ hJ)
      ⟨fun s F A B ⟨ex, c, hc, hrest⟩ hs => ⟨ex, c, hc, (book (rec .done (some c)) (hJx ex)).step s F A B hrest hs⟩,
       fun s F A k ⟨ex, c, hc, hrest⟩ hf => (hJx ex).lt s F A k hrest.1 hf⟩ ?_ ⟨hJ1, hL1, hK1, fun h => by have := hFl _ h; omega, fun h => by have := hFl _ h; omega⟩
    · refine zdb (hcalls.mono ?_)
      rintro e W2 ⟨⟨v, rfl⟩, (⟨F, hj, hl, hk, hf1, hf2⟩ | ⟨pre, F, hpre, ex, c, hc, hj, hl, hk, hf1, hf2⟩)⟩
      · have hj2 := hJ.step _ _ _ _ hj (StepG.put (Ow := Ow) (o := .loop (rec .exhausted none)) (n0 := w.heap.size) (l := w.heap.size + 1) (by omega) hf1)
        refine ⟨none, _, by have := UZ (P := S.P) hl (by rw [hrec]; simp); rw [hrec] at this; exact this, ?_⟩
        rw [hrec] at hj2
        exact ⟨⟨E.vs, { target := .collected w.heap.size, args := #[] } :: E.ds⟩, ⟨ha.size, by simp [ha.defers], ha.val⟩, hdone w.heap.size F _ (UV _) hf2 hj2 ((zj (by omega)).trans hk)⟩
      · have hj2 := (hJx ex).step _ _ _ _ hj (StepG.put (Ow := Ow) (o := .loop (rec .exhausted (some c))) (n0 := w.heap.size) (l := w.heap.size + 1) (by omega) hf1)
        refine ⟨some c, _, by have := UZ (P := S.P) hl (by rw [hrec]; simp); rw [hrec] at this; exact this, ?_⟩
        rw [hrec] at hj2
        have hq := hstop w.heap.size ex pre F _ (UV _) hf2 hpre hj2 ((zj (by omega)).trans hk)
        rcases hc with ⟨rfl, rfl⟩ | ⟨id, rfl, rfl⟩
        · exact wpIn_ret ⟨⟨E.vs, { target := .collected w.heap.size, args := #[] } :: E.ds⟩, ⟨ha.size, by simp [ha.defers], ha.val⟩, hq⟩
        · exact wpIn_exit ⟨⟨E.vs, { target := .collected w.heap.size, args := #[] } :: E.ds⟩, ⟨ha.size, by simp [ha.defers], ha.val⟩, hq⟩
    · rintro pre x vs F W ⟨hj, hl, hk, hf1, hf2⟩ hst0 hpre
      have hy := run_yield (P := S.P) (args := vs.toArray) hl (by rw [hrec]; simpa using hps _ _ _ hst0)
      rw [hrec] at hy
      refine ⟨fn, _, assign, body, hy, zb5 (r := none) (n := NN) (roundIn_of_wpIn (F := FR none) trivial ?_)⟩
      have hag : Agrees (sr S (w.heap.size + 1)) { tmps := (ps.zip vs.toArray).foldl (fun t (p, v) => t.setIfInBounds p v) a.tmps, defers := [] } ⟨zgY ps.toList vs E.vs, []⟩ := by
        have h1 : Agrees (sr S (w.heap.size + 1)) { a with defers := [] } ⟨E.vs, []⟩ := ⟨ha.size, rfl, ha.val⟩
        have h2 := zb4 ps.toList vs _ _ h1 hpn
        have e : (ps.zip vs.toArray).foldl (fun t (p, v) => t.setIfInBounds p v) a.tmps = (ps.toList.zip vs).foldl (fun t (p, v) => t.setIfInBounds p v) a.tmps := by
          rw [← Kr]; simp
        rw [e]; exact h2
      have hw := q9 (ziu hS _) assign _ _ W _ hag (hround (w.heap.size + 1) pre x vs F W (by omega) hpre hj hst0 hf1 ⟨_, hl⟩)
      refine Gg hw ?_
      rintro ex a1 Wa ⟨E1, hag1, rfl, F1, hk1, hj1, hbody⟩
      have hla := (hk1.same _ (hlt hl) hf1).trans hl
      have hka := (hk1.same _ (hlt hk) hf2).trans hk
      have hfa1 : ¬ F1 (w.heap.size + 1) := fun h => by rcases hk1.fp _ h with h | h; exact hf1 h; have := hlt hl; omega
      have hfa2 : ¬ F1 w.heap.size := fun h => by rcases hk1.fp _ h with h | h; exact hf2 h; have := hlt hk; omega
      refine ⟨_, run_beginRound hla (by rw [hrec]), ?_⟩
      have hst : StepG w.heap.size Ow F1 Wa (Wa.putObj (w.heap.size + 1) (.loop { rec .ready none with state := .busy })) := .put (by omega) hfa1 _
      have hj2 := hJ.step _ _ _ _ hj1 hst
      have hw2 := q9 (ziu hS _) body _ _ _ _ hag1 (hbody _ _ rfl hj2)
      refine Gg hw2 ?_
      have hl2 : (Wa.putObj (w.heap.size + 1) (.loop { rec .ready none with state := .busy })).heap[w.heap.size + 1]? = some (.loop { rec .ready none with state := .busy }) := zcD hla
      have hk2 : (Wa.putObj (w.heap.size + 1) (.loop { rec .ready none with state := .busy })).heap[w.heap.size]? = some (.deferred (some [])) := (zj (by omega)).trans hka
      have fin : ∀ (jump : Option Code) (F3 : Nat → Prop) (W3 : Wd), KeepsG F1 F3 (Wa.putObj (w.heap.size + 1) (.loop { rec .ready none with state := .busy })) W3 →
          (Instr.endRound (w.heap.size + 1) jump).run S.P W3 = .ok (.bool jump.isNone) (W3.putObj (w.heap.size + 1) (.loop (rec (if jump.isNone then .ready else .done) jump))) ∧
          (W3.putObj (w.heap.size + 1) (.loop (rec (if jump.isNone then .ready else .done) jump))).heap[w.heap.size + 1]? = some (.loop (rec (if jump.isNone then .ready else .done) jump)) ∧
          (W3.putObj (w.heap.size + 1) (.loop (rec (if jump.isNone then .ready else .done) jump))).heap[w.heap.size]? = some (.deferred (some [])) ∧
          StepG w.heap.size Ow F3 W3 (W3.putObj (w.heap.size + 1) (.loop (rec (if jump.isNone then .ready else .done) jump))) ∧ ¬ F3 (w.heap.size + 1) ∧ ¬ F3 w.heap.size := fun jump F3 W3 hk3 => by
        have hl3 := (hk3.same _ (hlt hl2) hfa1).trans hl2
        have hd3 := (hk3.same _ (hlt hk2) hfa2).trans hk2
        have hf31 : ¬ F3 (w.heap.size + 1) := fun h => by rcases hk3.fp _ h with h | h; exact hfa1 h; have := hlt hl2; omega
        have hf32 : ¬ F3 w.heap.size := fun h => by rcases hk3.fp _ h with h | h; exact hfa2 h; have := hlt hk2; omega
        have := run_endRound (P := S.P) jump hl3
        rw [hrec] at this ⊢
        exact ⟨this, zcD hl3, (zj (by omega)).trans hd3, .put (by omega) hf31 _, hf31, hf32⟩
      rintro e a3 W3 ⟨E3, _, hq⟩
      cases e with
      | normal =>
        obtain ⟨F3, hj3, hk3⟩ := hq
        obtain ⟨hr3, hl4, hk4, hs3, hf31, hf32⟩ := fin none F3 W3 hk3
        have hj4 := hJ.step _ _ _ _ hj3 hs3
        refine ⟨_, _, hr3, .inl ⟨rfl, F3, ⟨hj4, hl4, hk4, hf31, hf32⟩, ?_⟩⟩
        refine ⟨hs3.os.trans (hk3.os.trans hk1.os), hs3.tape.trans (hk3.tape.trans hk1.tape), hs3.output.trans (hk3.output.trans hk1.output), ?_, fun k hk5 hf5 => ?_, fun k hk5 => ?_⟩
        · have h1 := hk1.size; have h2 := hst.size; have h3 := hk3.size; have h4 := hs3.size; omega
        · by_cases hkl : k = w.heap.size + 1
          · subst hkl; rw [hl4, hl]; rfl
          · have h1 : ¬ F1 k := fun h => by rcases hk1.fp _ h with h | h; exact hf5 h; omega
            have h2 := hk1.size; have h3 := hst.size
            rw [zj hkl, hk3.same k (by omega) h1, zj hkl]
            exact hk1.same k hk5 hf5
        · rcases hk3.fp _ hk5 with h2 | h2
          · exact hk1.fp _ h2
          · have h3 := hk1.size; have h4 := hst.size; exact .inr (by omega)
      | ret =>
        obtain ⟨F3, hj3, hk3⟩ := hq
        obtain ⟨hr3, hl4, hk4, hs3, hf31, hf32⟩ := fin (some .ret) F3 W3 hk3
        have hj4 := (hJx .ret).step _ _ _ _ hj3 hs3
        exact ⟨_, _, hr3, .inr ⟨rfl, F3, .ret, .ret, .inl ⟨rfl, rfl⟩, hj4, hl4, hk4, hf31, hf32⟩⟩
      | exit id =>
        obtain ⟨F3, hj3, hk3⟩ := hq
        obtain ⟨hr3, hl4, hk4, hs3, hf31, hf32⟩ := fin (some (.exit id)) F3 W3 hk3
        have hj4 := (hJx (.exit id)).step _ _ _ _ hj3 hs3
        exact ⟨_, _, hr3, .inr ⟨rfl, F3, .exit id, .exit id, .inr ⟨id, rfl, rfl⟩, hj4, hl4, hk4, hf31, hf32⟩⟩
      | goto t => exact hq.elim
      | panic ch => exact hq.elim
      | outgrown => exact hq.elim
end Go.Vc
namespace Go.Proofs.YtkpaomeeknegpaaGreatDoor
open Go.Vc Go.RowKit Go.Sei
def s64 (n:Nat):Value := .int .u64 (n:Nat)
def s32 (n:Nat):Value := .int .u32 (n:Nat)
theorem bvN {a:Nat} (h:a<2^64):(BitVec.ofInt 64 (a:Int)).toNat=a:=by
 rw [Ks];have:((a:Int)%((2^64:Nat):Int))=(a:Int):=Int.emod_eq_of_lt (by omega) (by omega);rw [this];rfl
theorem w64 {a:Int} (h:0<=a/\a<=18446744073709551615):IntKind.u64.wrap a=a:=zaV h
theorem jO {a b:Nat} (ha:a<2^64) (hb:b<2^64):IntKind.u64.wrap ((BitVec.ofInt IntKind.u64.bits (a:Int)&&&BitVec.ofInt IntKind.u64.bits (b:Int)).toNat:Int)=((a&&&b:Nat):Int):=by
 show IntKind.u64.wrap ((BitVec.ofInt 64 (a:Int)&&&BitVec.ofInt 64 (b:Int)).toNat:Int)=_;rw [Qf,bvN ha,bvN hb];have:a&&&b<=a:=QW;exact w64 (by omega)
theorem zak {a b:Nat} (ha:a<2^64) (hb:b<2^64):IntKind.u64.wrap ((BitVec.ofInt IntKind.u64.bits (a:Int)|||BitVec.ofInt IntKind.u64.bits (b:Int)).toNat:Int)=((a|||b:Nat):Int):=by
 show IntKind.u64.wrap ((BitVec.ofInt 64 (a:Int)|||BitVec.ofInt 64 (b:Int)).toNat:Int)=_;rw [BitVec.toNat_or,bvN ha,bvN hb];have:a|||b<2^64:=KX ha hb;exact w64 (by omega)
def qT (a b:Nat):Nat:=a&&&(18446744073709551615-b)
theorem zct {a b:Nat} (ha:a<2^64) (hb:b<2^64):IntKind.u64.wrap ((BitVec.ofInt IntKind.u64.bits (a:Int) &&& ~~~ BitVec.ofInt IntKind.u64.bits (b:Int)).toNat:Int)=((qT a b:Nat):Int):=by
 show IntKind.u64.wrap ((BitVec.ofInt 64 (a:Int) &&& ~~~ BitVec.ofInt 64 (b:Int)).toNat:Int)=_;rw [Qf,BitVec.toNat_not,bvN ha,bvN hb];have e:2^64-1-b=18446744073709551615-b:=by omega
 rw [e];have:a&&&(18446744073709551615-b)<=a:=QW;unfold qT;exact w64 (by omega)
theorem zam {a b:Nat} (ha:a<2^64):qT a b<2^64:=by
 have:qT a b<=a:=QW;omega
theorem zaS {a b i:Nat} (hb:b<2^64) (hi:i<64):(qT a b).testBit i=(a.testBit i && !b.testBit i):=by
 unfold qT;rw [Ua,show 18446744073709551615-b=2^64-(b+1) by omega,Nat.testBit_two_pow_sub_succ hb];simp [hi]
theorem j5 {e:Nat} (he:e<64):IntKind.u64.wrap ((1:Int)*2^(min (Int.toNat (e:Int)) IntKind.u64.bits))=((2^e:Nat):Int):=by
 have h64:2^e<2^64:=Kf (by decide) he;have e1:min (Int.toNat (e:Int)) IntKind.u64.bits=e:=by
  rw [KK];show min e 64=_;omega
 rw [e1,Int.one_mul];have e2:(2:Int)^e=((2^e:Nat):Int):=by simp
 rw [e2];exact w64 ⟨Int.natCast_nonneg _,Int.ofNat_le.2 (show 2^e<=18446744073709551615 by omega)⟩
theorem zeM {a k:Nat} (hk:k<=64):((a:Nat):Int).fdiv (2^(min (Int.toNat (k:Int)) IntKind.u64.bits))=((a/2^k:Nat):Int):=by
 rw [KK,show min k IntKind.u64.bits=k from QY hk,Jl _ (Int.pow_nonneg (by decide)),Int.natCast_ediv,Int.natCast_pow];rfl
theorem zjW {a k:Nat}:(a/2^k)&&&1=if a.testBit k then 1 else 0:=by
 rw [KD,Nat.testBit_eq_decide_div_mod_eq];by_cases h:a/2^k%2=1
 ·rw [h];rfl
 ·rw [Gm (by simpa using h)];omega
theorem z7 {k:Nat} (h:k<64):2^k<2^64:=Kf (by decide) h
theorem w32 {a:Int} (h:0<=a/\a<=4294967295):IntKind.u32.wrap a=a:=by
 unfold IntKind.wrap;simp only [IntKind.bits,IntKind.signed,Uh,Kt,Gj];omega
theorem znE {a:Nat} (h:a<2^32):(BitVec.ofInt 32 (a:Int)).toNat=a:=by
 rw [Ks];have:((a:Int)%((2^32:Nat):Int))=(a:Int):=Int.emod_eq_of_lt (by omega) (by omega);rw [this];rfl
theorem zmF {a b:Nat} (ha:a<2^32) (hb:b<2^32):IntKind.u32.wrap ((BitVec.ofInt IntKind.u32.bits (a:Int)&&&BitVec.ofInt IntKind.u32.bits (b:Int)).toNat:Int)=((a&&&b:Nat):Int):=by
 show IntKind.u32.wrap ((BitVec.ofInt 32 (a:Int)&&&BitVec.ofInt 32 (b:Int)).toNat:Int)=_;rw [Qf,znE ha,znE hb];have:a&&&b<=a:=QW;exact w32 (by omega)
theorem zfv {a b:Nat} (ha:a<2^32) (hb:b<2^32):IntKind.u32.wrap ((BitVec.ofInt IntKind.u32.bits (a:Int)|||BitVec.ofInt IntKind.u32.bits (b:Int)).toNat:Int)=((a|||b:Nat):Int):=by
 show IntKind.u32.wrap ((BitVec.ofInt 32 (a:Int)|||BitVec.ofInt 32 (b:Int)).toNat:Int)=_;rw [BitVec.toNat_or,znE ha,znE hb];have:a|||b<2^32:=KX ha hb;exact w32 (by omega)
theorem zgv {e:Nat} (he:e<32):IntKind.u32.wrap ((1:Int)*2^(min (Int.toNat (e:Int)) IntKind.u32.bits))=((2^e:Nat):Int):=by
 have h64:2^e<2^32:=Kf (by decide) he;have e1:min (Int.toNat (e:Int)) IntKind.u32.bits=e:=by
  rw [KK];show min e 32=_;omega
 rw [e1,Int.one_mul];have e2:(2:Int)^e=((2^e:Nat):Int):=by simp
 rw [e2];exact w32 ⟨Int.natCast_nonneg _,Int.ofNat_le.2 (show 2^e<=4294967295 by omega)⟩
def zim:List UInt8:=[0,1,56,2,57,49,28,3,61,58,42,50,38,29,17,4,62,47,59,36,45,43,51,22,53,39,33,30,24,18,12,5,63,55,48,27,60,41,37,16,46,35,44,21,52,32,23,11,54,26,40,15,34,20,31,10,25,14,19,9,13,8,7,6]
def zin:List UInt8:=[0,1,28,2,29,14,24,3,30,22,20,15,25,17,4,8,31,27,13,23,21,19,16,7,26,12,18,6,11,5,10,9]
def Tz64M (X:Wd):Prop:=zK X ⟨1,0,none⟩ (zim.map u8)
def Tz32M (X:Wd):Prop:=zK X ⟨2,0,none⟩ (zin.map u8)
theorem Tz64M.below {w w2:Wd} (h:Tz64M w) (hb:Bw w w2):Tz64M w2:=zr hb h
theorem Tz32M.below {w w2:Wd} (h:Tz32M w) (hb:Bw w w2):Tz32M w2:=zr hb h
theorem zo1 {k:Nat} (hk:k<64):2^k*285870213051353865%18446744073709551616/2^58<64/\zim[2^k*285870213051353865%18446744073709551616/2^58]?=some (UInt8.ofNat k):=by
 have h:(List.range 64).all (fun k=>decide (2^k*285870213051353865%18446744073709551616/2^58<64)&&decide (zim[2^k*285870213051353865%18446744073709551616/2^58]?=some (UInt8.ofNat k)))=true:=by kernel_rfl
 have h1:=Qi.1 h k (Um.2 hk);rw [bAT,dE,dE] at h1;exact h1
theorem zo3 {k:Nat} (hk:k<32):2^k*125613361%4294967296/2^27<32/\zin[2^k*125613361%4294967296/2^27]?=some (UInt8.ofNat k):=by
 have h:(List.range 32).all (fun k=>decide (2^k*125613361%4294967296/2^27<32)&&decide (zin[2^k*125613361%4294967296/2^27]?=some (UInt8.ofNat k)))=true:=by kernel_rfl
 have h1:=Qi.1 h k (Um.2 hk);rw [bAT,dE,dE] at h1;exact h1
theorem zo2 {s:Nat} {w:Wd} (hT:Tz64M w) (h0:s≠0) (h:s<2^64):Calls PG 158 #[s64 s] w fun e w'=>e = .returned (i64 (ctz s:Nat))/\w=w':=by
 refine zI 14 [s64 s] Tryz.func158 ?_;obtain⟨_,_,h2,h3⟩:=jX h0 h;have hp:=z7 h3;obtain⟨t1,t2⟩:=zo1 h3;refine brN (Uf (fun e=>h0 (by omega))) ⟨((2^64-s:Nat):Int),by unfold IntKind.wrap;simp only [IntKind.bits,IntKind.signed,Uh,Kt,Gj];omega,?_⟩;refine⟨((2^ctz s:Nat):Int),(jO (a:=s) (b:=2^64-s) h (by omega)).trans (by rw [h2]),?_⟩;refine⟨((2^ctz s*285870213051353865%18446744073709551616:Nat):Int),by
  have e:(((2^ctz s:Nat):Int)*285870213051353865)=((2^ctz s*285870213051353865:Nat):Int):=by rw [QG];rfl
  rw [e];generalize 2^ctz s*285870213051353865=n;unfold IntKind.wrap;simp only [IntKind.bits,IntKind.signed,Uh,Kt,Gj];omega,?_⟩
 refine⟨by decide,_,zeM (k:=58) (by decide),_,rfl,t1,?_⟩;have hv:(zim.map u8)[2^ctz s*285870213051353865%18446744073709551616/2^58]?=some (u8 (UInt8.ofNat (ctz s))):=by rw [KT,t2];rfl
 refine⟨u8 (UInt8.ofNat (ctz s)),by rw [UW];exact zc hT hv,?_⟩;have e:(UInt8.ofNat (ctz s)).toNat=ctz s:=by rw [KH];omega
 exact⟨(ctz s:Int),by rw [e];exact ze (by omega),rfl,rfl⟩
theorem zhV {s:Nat} {w:Wd}:Calls PG 114 #[s64 s] w fun e w'=>e = .returned (.func (.func 157) #[] #[.pointer (some ⟨w.heap.size,0,none⟩)])/\w'=w.alloc (.cells #[s64 s] 36):=by
 refine zI 4 [s64 s] Tryz.func114 ?_;exact⟨rfl,rfl⟩
def StN (pre:List Nat) (vs:List Value) (W:Wd):Prop:=∃ c,pre.getLast?=some c/\vs=[i64 (c:Nat)]
theorem zar {X Y:Wd} (h:Tz64M X) (hs:Y.heap[1]?=X.heap[1]?):Tz64M Y:=jy hs h
theorem zaX {X:Wd} (h:Tz64M X):1<X.heap.size:=World.block_lt_of_cell? X _ (zmo h)
def RdE (bx:Nat) (k:Nat):Prop:=k=bx\/k=1
theorem zle {bx s:Nat} {W0:Wd} (hbx:W0.heap[bx]?=some (.cells #[s64 s] 36 (0,0))) (hs:s<2^64) (hT:Tz64M W0) :
  zjb PG 157 [At0 bx] (els s) W0 (RdE bx) (fun _=>False) StN:=by
 intro yl F0 J Jx W hsz hrd hrf hJ hJx hy h0;have hbW:W.heap[bx]?=some (.cells #[s64 s] 36 (0,0)):=(hrd bx (.inl (.inl rfl))).trans hbx;have hTW:Tz64M W:=zar hT (hrd _ (.inl (.inr rfl)));have hgf:¬ F0 1:=hrf _ (.inr rfl);refine zI 16 [.func (.yield yl) #[] #[],At0 bx] Tryz.func157 ?_;refine⟨_,zc (za hbW) (i:=0) rfl,?_⟩;refine⟨List Nat×Nat,fun q=>⟨[(0,.func (.yield yl) #[] #[]),(3,s64 q.2)],[]⟩,
  fun q X=>∃ F,J q.1 F X/\els s=q.1++els q.2/\q.2<2^64/\Tz64M X/\¬ F 1,fun q=>q.2,([],s),
  (cvE rfl rfl),⟨F0,h0,rfl,hs,hTW,hgf⟩,?_⟩
 clear hbW hTW hgf h0;rintro⟨pre,r⟩ X ⟨F,hI,hxs,hr,hTX,hgX⟩;dsimp only at hI hxs hr ⊢;refine biE (fun hc=>?_) fun hc=>?_
 ·have hc:(!decide ((r:Int)=0))=true:=hc;have hc:¬ (r:Int)=0:=by simpa using hc
  have hr0:r≠0:=by omega
  obtain⟨e1,e2,_,_⟩:=jX hr0 hr;refine cmo (zo2 hTX hr0 hr) ?_;rintro e _ ⟨rfl,rfl⟩;have hpre:(pre++[ctz r]) <+: els s:=⟨els (qI r),by rw [hxs,e1];simp⟩;refine YieldR.mono (hy pre (ctz r) [i64 (ctz r:Nat)] F X hI ⟨ctz r,by simp,rfl⟩ hpre) ?_;rintro v V (⟨rfl,F',hJV,hKV⟩ | ⟨rfl,F',hJV⟩)
  ·refine brF ?_;have hXs:=hKV.size;have hgl:=zaX hTX;have hTV:Tz64M V:=zar hTX (hKV.same _ hgl hgX);have hgV:¬ F' 1:=fun h=>by
    rcases hKV.fp _ h with h3 | h3
    ·exact hgX h3
    ·omega
   exact⟨((r-1:Nat):Int),(zaV (a:=(r:Int)-1) (by omega)).trans (by omega),((qI r:Nat):Int),jO (a:=r) (b:=r-1) hr (by omega),(pre++[ctz r],qI r),(cvE rfl rfl),⟨F',hJV,by rw [hxs,e1];simp,by show qI r<_;omega,hTV,hgV⟩,e2⟩
  ·exact brT ⟨⟨_,rfl⟩,.inr ⟨_,F',hpre,hJV⟩⟩
 ·have hc:(!decide ((r:Int)=0))=false:=hc;have hc:(r:Int)=0:=by simpa using hc
  obtain rfl:r=0:=by omega
  refine⟨⟨_,rfl⟩,.inl ?_⟩;rw [hxs,zao,QI];exact⟨F,hI⟩
theorem joG {σ:Type} {n0:Nat} {F:Nat->Prop} {J:σ->Wd->Prop} (hF:∀ k,F k->k<n0) (hn:∀ s A,J s A->n0<=A.heap.size) (hJ:∀ s A B,J s A->Below n0 A B->J s B) :
  JG n0 (fun _=>False) (fun s F' W=>F'=F/\J s W):=by
 refine⟨fun s F' A B ⟨e,h⟩ hs=>⟨e,hJ s A B h ⟨hs.os,hs.tape,hs.output,hs.size,fun k hk=>hs.same k (nL hk (hn s A h)) (.inl ⟨hk,fun h=>h⟩)⟩⟩,fun s F' A k ⟨e,h⟩ hk=>?_⟩;subst e;exact⟨nL (hF k hk) (hn s A h),fun h=>h⟩
theorem jr {n:Nat} {A B:Wd} (h:Below n A B) {g:Nat} {o:Obj} (hg:g<n) (f:A.heap[g]?=some o):B.heap[g]?=some o:=(h.block g hg).trans f
theorem za5 {s:Nat} {w:Wd} (hs:s<2^64) (hT:Tz64M w):Calls PG 82 #[s64 s] w fun e w' =>
  e = .returned (.tuple #[i64 ((els s).headD 0:Nat),.bool (!(els s).isEmpty)])/\Bw w w':=by
 refine qA 9 [s64 s] (.c .p .p) Tryz.func82 ?_;obtain⟨L,hL⟩:=nm (w.heap.size);refine⟨Unit,fun _=>⟨[(0,s64 s),(2,At0 L),(3,At0 (L+1))],[]⟩,fun _ X=>X.heap[L]?=some (.cells #[i64 0] 3 (0,0))/\X.heap[L+1]?=some (.cells #[.bool false] 4 (0,0))/\X.heap.size=L+2/\Bw w X,?_,?_⟩
 ·have sz:=wz w (.cells #[i64 0] 3);refine⟨(),⟨.cons rfl (.cons (by rw [hL];rfl) (.cons (by rw [hL,<- sz];rfl) .nil)),rfl⟩,?_,?_,?_,?_⟩
  ·rw [hL];exact qM _ (zw w _)
  ·have:=zw (w.alloc (.cells #[i64 0] 3)) (.cells #[.bool false] 4);rw [sz,<- hL] at this;exact this
  ·have:=wz (w.alloc (.cells #[i64 0] 3)) (.cells #[.bool false] 4);rw [sz,<- hL] at this;exact this
  ·exact ((zba w _)).alloc (by simp) _
 rintro _ X ⟨f1,f2,sX,hbX⟩;refine cmo zhV ?_;rintro e W ⟨rfl,hW⟩;have hbW:Bw X W:=by rw [hW];exact (zba _ _)
 have fb:W.heap[X.heap.size]?=some (.cells #[s64 s] 36 (0,0)):=by rw [hW];exact zw X _
 have sW:W.heap.size=L+3:=by rw [hW,wz,sX]
 have g1:=zb hbW f1;have g2:=zb hbW f2;have hbw:Bw w W:=zst hbX hbW;have hTW:=hT.below hbw;clear hW;refine zdq (zbC _) rfl (lb := #[.pointer (some ⟨X.heap.size,0,none⟩)]) rfl rfl (zle fb hs hTW) (UV _) (fun k hk=>⟨by rcases hk with (rfl | rfl) | h;exact hlt fb;exact zaX hTW;exact h.elim,rfl⟩) (fun pre vs W ⟨c,_,h⟩=>by rw [h];rfl) (by decide)
  (fun k=>k=L\/k=L+1) (fun pre F Y=>F=(fun k=>k=L\/k=L+1)/\pre=[]/\W.heap.size<=Y.heap.size/\Y.heap[L]?=some (.cells #[i64 0] 3 (0,0))/\Y.heap[L+1]?=some (.cells #[.bool false] 4 (0,0))/\Bw w Y)
  (fun ex pre F Y=>F=(fun k=>k=L\/k=L+1)/\ex = .ret/\W.heap.size<=Y.heap.size/\(∃ c,pre=[c]/\Y.heap[L]?=some (.cells #[i64 (c:Nat)] 3 (0,0)))/\Y.heap[L+1]?=some (.cells #[.bool true] 4 (0,0))/\Bw w Y)
  (fun k hk h=>by have:=zaX hT;rcases hk with rfl | rfl <;> omega)
  (joG (F:=fun k=>k=L\/k=L+1) (J:=fun (pre:List Nat) Y=>pre=[]/\W.heap.size<=Y.heap.size/\Y.heap[L]?=some (.cells #[i64 0] 3 (0,0))/\Y.heap[L+1]?=some (.cells #[.bool false] 4 (0,0))/\Bw w Y) (fun k h=>by omega) (fun s A h=>h.2.1) (fun pre A B ⟨h0,h1,h2,h3,h4⟩ hb=>⟨h0,UL h1 hb.size,jr hb (by omega) h2,jr hb (by omega) h3,h4.trans (hb.mono (by omega))⟩))
  (fun ex=>joG (F:=fun k=>k=L\/k=L+1) (J:=fun (pre:List Nat) Y=>ex = .ret/\W.heap.size<=Y.heap.size/\(∃ c,pre=[c]/\Y.heap[L]?=some (.cells #[i64 (c:Nat)] 3 (0,0)))/\Y.heap[L+1]?=some (.cells #[.bool true] 4 (0,0))/\Bw w Y) (fun k h=>by omega) (fun s A h=>h.2.1) (fun pre A B ⟨h0,h1,⟨c,hc,h2⟩,h3,h4⟩ hb=>⟨h0,UL h1 hb.size,⟨c,hc,jr hb (by omega) h2⟩,jr hb (by omega) h3,h4.trans (hb.mono (by omega))⟩))
  ⟨rfl,rfl,UV _,g1,g2,hbw⟩ ?_ ?_ ?_
 ·rintro yl pre x vs F V hyl hpre hJ ⟨x',hx',rfl⟩ hfy ⟨lo,hlo⟩;have hx':x=x':=by simpa using hx'
  subst hx';refine⟨rfl,F,KeepsG.refl _ _,hJ,?_⟩;rintro o V2 hV2 ⟨rfl,rfl,h1,h2,h3,h4⟩;refine zm k3 h2 (o:=0) (v:=i64 (x:Nat)) rfl rfl (by show 0<1;decide) rfl fun Y fY gY sY=>?_;have h3':=(gY.block (L+1) (hlt h3) (by simp)).trans h3;refine zm k4 h3' (o:=0) (v := .bool true) rfl rfl (by show 0<1;decide) rfl fun Z fZ gZ sZ=>?_;have fY':=(gZ.block L (hlt fY) (by simp)).trans fY;refine⟨_,⟨rfl,rfl,by omega,⟨x,rfl,fY'⟩,fZ,(h4.trans (zk gY (by omega) (by omega))).trans (zk gZ (by omega) (by omega))⟩,(KeepsG.grown (F:=fun k=>k=L\/k=L+1) gY (.inl rfl)).trans (KeepsG.grown gZ (.inr rfl))⟩
 ·rintro D F Y hD hfD ⟨_,h0,h1,h2,h3,h4⟩ hdef;refine zm k3 h2 (o:=0) (v:=i64 0) rfl rfl (by show 0<1;decide) rfl fun Y1 fY gY sY=>?_;have h3':=(gY.block (L+1) (hlt h3) (by simp)).trans h3;refine zm k4 h3' (o:=0) (v := .bool false) rfl rfl (by show 0<1;decide) rfl fun Z fZ gZ sZ=>?_;have fY':=(gZ.block L (hlt fY) (by simp)).trans fY;have hdef':=(gZ.block D (by rw [sY];exact hlt hdef) (by simp;omega)).trans ((gY.block D (hlt hdef) (by simp;omega)).trans hdef);refine⟨_,rfl,hdef',i64 0,?_,.bool false,?_,?_,?_⟩
  ·exact zc (za ((zj (by omega)).trans fY')) (i:=0) rfl
  ·exact zc (za ((zj (by omega)).trans fZ)) (i:=0) rfl
  ·rw [h0];rfl
  ·exact je ((h4.trans (zk gY (by omega) (by omega))).trans (zk gZ (by omega) (by omega))) (by omega) _
 ·rintro D ex pre F Y hD hfD ⟨t,ht⟩ ⟨_,rfl,h1,⟨c,rfl,h2⟩,h3,h4⟩ hdef;refine⟨_,rfl,hdef,i64 (c:Nat),?_,.bool true,?_,?_,?_⟩
  ·exact zc (za ((zj (by omega)).trans h2)) (i:=0) rfl
  ·exact zc (za ((zj (by omega)).trans h3)) (i:=0) rfl
  ·rw [<- ht];rfl
  ·exact je h4 (by omega) _
def zW:Enc UInt8:=⟨fun b=>[u8 b],1,fun _=>rfl,by decide,fun a u hu=>by
 simp only [UB,Qu,Gk] at hu;subst hu;rfl⟩
def zaA (n:Int):Nat:=if n<1 then 0 else if 64<=n then 18446744073709551615 else 2^n.toNat-1
theorem zaK (n:Int):zaA n<2^64:=by
 unfold zaA
 split
 ·decide
 split
 ·decide
 ·have:=z7 (k:=n.toNat) (by omega);omega
theorem zjd {n:Int} {w:Wd}:Calls PG 39 #[i64 n] w fun e w'=>e = .returned (s64 (zaA n))/\w=w':=by
 refine zI 10 [i64 n] Tryz.func39 ?_;refine biE (fun h=>?_) fun h=>?_
 ·have h:n<1:=dT h;exact⟨by unfold zaA;rw [Gn h];rfl,rfl⟩
 ·have h:¬ n<1:=dF h;refine biE (fun h2=>?_) fun h2=>?_
  ·have h2:64<=n:=dT h2;exact⟨by unfold zaA;rw [Gm h,Gn h2];rfl,rfl⟩
  ·have h2:¬ 64<=n:=dF h2;obtain⟨k,rfl⟩:∃ k:Nat,n=k:=⟨n.toNat,by omega⟩;have hk:k<64:=by omega
   have hp:=z7 hk;have hp0:=Ub k;refine⟨by omega,_,j5 hk,?_⟩;refine⟨((2^k-1:Nat):Int),?_,?_⟩
   ·generalize 2^k=m at hp hp0 ⊢;exact (w64 (a:=(m:Int)-1) (by omega)).trans (by omega)
   ·exact⟨by unfold zaA;rw [Gm h,Gm h2];rfl,rfl⟩
def zA:Enc Nat:=⟨fun n=>[i64 (n:Nat)],1,fun _=>rfl,by decide,fun a u hu=>by
 simp only [UB,Qu,Gk] at hu;subst hu;rfl⟩
theorem zfi (s:Nat):(els s).length<=64:=by
 have:=JL (fun i=>s.testBit i) (List.range 64);rw [KU] at this;exact this
def zaZ (to:Nat->Nat):List Value:=(List.range 48).map fun i=>s64 (to i)
def zf (r:RelD):List Value:=i64 r.n::zaZ r.to
def zG (to:Nat->Nat):Prop:=∀ i,i<48->to i<2^64
theorem zbm (to:Nat->Nat):(zaZ to).length=48:=by unfold zaZ;rw [QL,KU]
theorem zcZ (to:Nat->Nat) {i:Nat} (h:i<48):(zaZ to)[i]?=some (s64 (to i)):=by
 unfold zaZ;rw [KT,Kh h];rfl
theorem zh (r:RelD):(zf r).length=49:=by unfold zf;rw [Qr,zbm]
theorem zeX (r:RelD) {i:Nat} (h:i<48):(zf r)[1+i]?=some (s64 (r.to i)):=by
 unfold zf;rw [UJ,Jw,zcZ _ h]
theorem zpn (to:Nat->Nat) {i:Nat} (h:i<48) (v:Nat):(zaZ to).set i (s64 v)=zaZ (upd to i v):=by
 apply KO;intro j;by_cases hj:j<48
 ·rw [zcZ _ hj];by_cases e:i=j
  ·subst e;rw [JD (by rw [zbm];exact h),zP]
  ·rw [JU e,zcZ _ hj,qr _ _ (fun h=>e h.symm)]
 ·rw [JJ (by rw [QN,zbm];omega),JJ (by rw [zbm];omega)]
theorem zeW (r:RelD) {i:Nat} (h:i<48) (v:Nat):(zf r).set (1+i) (s64 v)=zf ⟨r.n,upd r.to i v⟩:=by
 unfold zf;rw [UJ,KC,zpn _ h]
theorem zD (r:RelD):(zf r).all Value.oneCell'=true:=by
 unfold zf zaZ;rw [Uy,List.all_map];rw [bAT,Qi];exact⟨rfl,fun x _=>rfl⟩
theorem zh1 {S:Sig} {g:Nat} {caps:Array Value} {vs:List Value} {w:Wd} {K:Value->Wd->Prop} {KP:List PanicEntry->Wd->Prop} {R:Ending->Wd->Prop} (hok:jY S g=true)
  (h:Calls S.P g (vs++caps.toList).toArray w R) (k:∀ e w',R e w'->∃ v,e = .returned v/\K v w'):znD S (.func (.func g) #[] caps) vs w K KP:=by
 unfold znD;dsimp only;rw [hok];exact CallR.mk h k
theorem zaL (n:Int):zab n=zaA n:=rfl
theorem za0 (a b:Nat):jL a b=qT a b:=rfl
section
variable {r:RelD} {w:Wd}
theorem jH (hr:zG r.to):CB 34 #[.agg (zf r).toArray] w (.bool (okR r)):=by
 refine zI 38 [.agg (zf r).toArray] Tryz.func34 ?_;have f0:=zw w (.cells (zf r).toArray 39);have hb:Bw w (w.alloc (.cells (zf r).toArray 39)):=zba w _;obtain⟨X,hX⟩:=nm (w.alloc (.cells (zf r).toArray 39));have hX':w.alloc (.cells (Value.agg (zf r).toArray).cells 39)=X:=hX.symm;rw [<- hX] at f0 hb;have hn:X.cell? ⟨w.heap.size,0+0,none⟩=some (i64 r.n):=zc (za f0) (i:=0) rfl;have out:∀ b,okR r=b->(∀ h:Ending.returned (.bool b)=Ending.returned (.bool (okR r)),True):=fun _ _ _=>trivial;refine⟨i64 r.n,by rw [hX'];exact hn,?_⟩;rw [hX'];refine biE (fun h=>?_) fun h=>?_
 ·have h:r.n<0:=dT h;refine brT ?_;exact⟨rb (by unfold okR;rw [Uf (by omega)];rfl),hb⟩
 have h:¬ r.n<0:=dF h;refine⟨i64 r.n,hn,?_⟩;refine biE (fun h2=>?_) fun h2=>?_
 ·have h2:(48:Int)<r.n:=dT h2;exact⟨rb (by unfold okR;rw [Uf (show ¬ r.n<=48 by omega),Uh,Ug]),hb⟩
 have h2:¬ (48:Int)<r.n:=dF h2;have ok0:okR r=(List.range 48).all (zbO r):=by
  unfold okR;rw [Uq (by omega),Uq (by omega)];rfl
 rw [ok0];refine⟨i64 r.n,hn,?_⟩;refine cmo zjd ?_;rintro e _ ⟨rfl,rfl⟩;refine⟨zaZ r.to,zbm _,?_,hlt f0,?_⟩
 ·have:=zR (n:=1) (m:=48) (za f0);have e:((zf r).toArray.toList.drop 1).take 48=zaZ r.to:=by
   show (zaZ r.to).take 48=_;rw [JF (by rw [zbm];exact UV _)]
  rw [e] at this;exact this
 refine⟨Nat,fun k=>⟨[(1,.pointer (some ⟨w.heap.size,0,none⟩)),(3,s64 (zaA r.n)),(18,.agg (zaZ r.to).toArray),(19,i64 (k:Nat))],[]⟩,fun k Y=>X=Y/\k<=48/\∀ i,i<k->zbO r i=true,fun k=>48-k,0,
  (cvE rfl rfl),⟨rfl,UY _,fun i hi=>by omega⟩,?_⟩
 rintro k _ ⟨rfl,hk,hall⟩;refine biE (fun hc=>?_) fun hc=>?_
 ·have hc:(k:Int)<48:=dT hc;have hk':k<48:=by omega
  refine⟨k,rfl,hk',?_⟩;refine zaC (by rw [UW];exact zcZ _ hk') ?_;refine⟨_,zct (hr k hk') (zaK _),?_⟩;have no:zbO r k=false->(List.range 48).all (zbO r)=false:=fun h=>by
   rw [KL];exact⟨k,Um.2 hk',by rw [h];exact Ku⟩
  refine biE (fun h3=>?_) fun h3=>?_
  ·have h3:(!decide (((qT (r.to k) (zaA r.n):Nat):Int)=0))=true:=h3;have h3:¬ jL (r.to k) (zab r.n)=0:=fun e=>by
    rw [za0,zaL] at e;rw [e] at h3;exact Gp h3 (by decide)
   refine brT ?_;exact⟨rb (no (by unfold zbO;rw [Uf h3];rfl)).symm,hb⟩
  have h3:(!decide (((qT (r.to k) (zaA r.n):Nat):Int)=0))=false:=h3;have h3:jL (r.to k) (zab r.n)=0:=by
   have h4:decide (((qT (r.to k) (zaA r.n):Nat):Int)=0)=true:=by simpa using h3
   exact Ux (dT h4)
  refine⟨i64 r.n,hn,?_⟩;have next:zbO r k=true->∀ {K:Prop},(∀ k',k'=k+1->(∀ i,i<k'->zbO r i=true)->K)->K:=fun h K hK=>hK _ rfl fun i hi=>by
   by_cases e:i=k
   ·rw [e];exact h
   ·exact hall i (by omega)
  have fin:zbO r k=true->∃ s':Nat,s'=k+1/\(X=X/\s'<=48/\∀ i,i<s'->zbO r i=true):=fun h=>next h fun k' e h=>⟨k',e,rfl,by omega,h⟩
  refine biE (fun h4=>?_) fun h4=>?_
  ·have h4:r.n<=(k:Int):=dT h4;refine biE (fun h5=>?_) fun h5=>?_
   ·have h5:(!decide (((r.to k:Nat):Int)=0))=true:=h5;have h5:¬ r.to k=0:=fun e=>by
     rw [e] at h5;exact Gp h5 (by decide)
    exact⟨rb (no (by unfold zbO;rw [Uq h3,Uf (by omega),Uf h5];rfl)).symm,hb⟩
   ·have h5:(!decide (((r.to k:Nat):Int)=0))=false:=h5;have h5:r.to k=0:=by
     have h6:decide (((r.to k:Nat):Int)=0)=true:=(by simpa using h5);exact Ux (dT h6)
    obtain⟨s',e,hs⟩:=fin (by unfold zbO;rw [Uq h3,Uq h5];simp);refine nxI (by omega) ?_;exact⟨s',⟨.cons rfl (.cons rfl (.cons rfl (.cons (by rw [e];rfl) .nil))),rfl⟩,hs,by show 48-s'<48-k;omega⟩
  ·have h4:¬ r.n<=(k:Int):=dF h4;refine brF ?_;obtain⟨s',e,hs⟩:=fin (by unfold zbO;rw [Uq h3,Uq (by omega)];rfl);refine nxI (by omega) ?_;exact⟨s',⟨.cons rfl (.cons rfl (.cons rfl (.cons (by rw [e];rfl) .nil))),rfl⟩,hs,by show 48-s'<48-k;omega⟩
 ·have hc:¬ (k:Int)<48:=dF hc;obtain rfl:k=48:=by omega
  refine⟨rb ?_,hb⟩;symm;rw [Qi];exact fun i hi=>hall i (Um.1 hi)
theorem zjU {n g:Nat} {caps:Array Value} {row:Nat->Nat} (hn:n<=48) (hok:jY (sg 0) g=true) (zfb:∀ a X,a<n->Bw w X->Calls PG g (i64 (a:Nat)::caps.toList).toArray X fun e Y=>e = .returned (s64 (row a))/\Bw X Y) :
  CB 81 #[i64 n,.func (.func g) #[] caps] w (.agg (zf (jK n row)).toArray):=by
 refine qA 21 [i64 n,.func (.func g) #[] caps] (.s .p (.c .p .p)) Tryz.func81 ?_;obtain⟨L,hL⟩:=nm (w.heap.size);refine⟨Unit,fun _=>⟨[(0,i64 n),(1,.func (.func g) #[] caps),(4,At0 L),(5,At0 (L+1))],[]⟩,fun _ X=>X.heap[L]?=some (.cells (zf zB).toArray 39 (0,0))/\X.heap[L+1]?=some (.cells (zf ⟨n,fun _=>0⟩).toArray 39 (0,0))/\X.heap.size=L+2/\Bw w X,?_,?_⟩
 ·have h1:=zw w (.cells (zf zB).toArray 39);have s1:=wz w (.cells (zf zB).toArray 39);have h2:=zw (w.alloc (.cells (zf zB).toArray 39)) (.cells (zf zB).toArray 39);have s2:=wz (w.alloc (.cells (zf zB).toArray 39)) (.cells (zf zB).toArray 39);have b2:Bw w ((w.alloc (.cells (zf zB).toArray 39)).alloc (.cells (zf zB).toArray 39)):=((zba w _)).alloc (by simp) _;refine⟨zf ⟨n,fun _=>0⟩,rfl,?_⟩;refine zt (v := .agg (zf ⟨n,fun _=>0⟩).toArray) k39 h2 rfl rfl (zD _) ?_;rw [s1] at h2 s2;refine⟨(),⟨.cons rfl (.cons rfl (.cons (by rw [hL];rfl) (.cons (by rw [hL,<- s1];rfl) .nil))),rfl⟩,?_,?_,?_,?_⟩
  ·rw [hL];exact (zp (by rw [s1];omega)).trans (qM _ h1)
  ·rw [hL,s1];exact zn h2
  ·rw [hL];simp
  ·exact zl b2 (by omega) _
 rintro _ X ⟨f0,f1,sX,hbX⟩;refine⟨Nat,fun k=>⟨[(1,.func (.func g) #[] caps),(4,At0 L),(5,At0 (L+1)),(9,i64 n),(10,i64 (k:Nat))],[]⟩,fun k Y=>k<=n/\Y.heap[L]?=some (.cells (zf zB).toArray 39 (0,0))/\Y.heap[L+1]?=some (.cells (zf (⟨n,fun i=>if i<k then row i else 0⟩)).toArray 39 (0,0))/\Bw w Y,fun k=>n-k,0,
  (cvE rfl rfl),⟨UY _,f0,f1,hbX⟩,?_⟩
 clear f0 f1 sX hbX X;rintro k X ⟨hk,f0,f1,hbX⟩;refine biE (fun hc=>?_) fun hc=>?_
 ·have hc:(k:Int)<(n:Int):=dT hc;have hkn:k<n:=by omega
  refine zh1 (S:=sg 21) hok (zfb k X hkn hbX) ?_;rintro e Y ⟨rfl,hbY⟩;refine⟨_,rfl,?_⟩;refine⟨k,rfl,by omega,?_⟩;have f1Y:=zb hbY f1;refine zm k36 f1Y (o:=0+1+k*1) (v:=s64 (row k)) rfl rfl (by rw [zh];omega) rfl fun Z fZ gZ sZ=>?_;rw [UQ,UW,zeW _ (by omega)] at fZ;refine nxI (by omega) ?_;refine⟨k+1,(cvE rfl rfl),⟨hkn,(gZ.block L (hlt (zb hbY f0)) (by simp)).trans (zb hbY f0),?_,((zst hbX hbY)).trans (zk gZ ((zst hbX hbY)).size (by omega))⟩,zdc (by omega)⟩;have e:upd (fun i=>if i<k then row i else 0) k (row k)=fun i=>if i<k+1 then row i else 0:=by
   funext i;by_cases e:i=k
   ·subst e;rw [zP,Gn (by omega)]
   ·rw [qr _ _ e];by_cases h:i<k
    ·rw [Gn h,Gn (by omega)]
    ·rw [Gm h,Gm (by omega)]
  rw [<- e];exact fZ
 ·have hc:¬ (k:Int)<(n:Int):=dF hc;obtain rfl:k=n:=by omega
  refine⟨zf (jK k row),zh _,za f1,hlt f1,?_⟩;refine zt (v := .agg (zf (jK k row)).toArray) k39 f0 rfl rfl (zD _) ?_;exact⟨zf (jK k row),zh _,za (zn f0),rfl,zl hbX (by omega) _⟩
end
theorem zaI {X:Wd} {b:Nat} {r:RelD} (f:X.heap[b]?=some (.cells (zf r).toArray 39 (0,0))) {i:Nat} (h:i<48):X.cell? ⟨b,0+1+i*1,none⟩=some (s64 (r.to i)):=by
 rw [UW,UC];exact zc (za f) (zeX r h)
theorem jb {r:RelD} (h:okR r=true):0<=r.n/\r.n<=48/\∀ a,a<48->qT (r.to a) (zaA r.n)=0/\((a:Int)<r.n\/r.to a=0):=by
 unfold okR at h;rw [bAT,bAT,dE,dE,Qi] at h;refine⟨h.1,h.2.1,fun a ha=>?_⟩;have:=h.2.2 a (Um.2 ha);unfold zbO at this;rw [bAT,QF,dE,dE,dE] at this;exact this
theorem zbo {n:Int} (h0:0<=n) (h:n<=64) {i:Nat} (hi:i<64):(zaA n).testBit i=decide ((i:Int)<n):=by
 unfold zaA
 split
 ·rw [QC,Uf (by omega)]
 split
 ·rw [show 18446744073709551615=2^64-1 from rfl,Nat.testBit_two_pow_sub_one];rw [Uq hi,Uq (by omega)]
 ·rw [Nat.testBit_two_pow_sub_one];apply QE.2;omega
theorem zjE {r:RelD} (h:okR r=true) (hr:zG r.to) {a i:Nat} (ha:a<48) (hb:(r.to a).testBit i=true):(i:Int)<r.n/\(a:Int)<r.n:=by
 obtain⟨h0,h48,hall⟩:=jb h;obtain⟨h1,h2⟩:=hall a ha;have hi:i<64:=by
  apply Qy;intro hi;have:=JH (nL (hr a ha) (Ke (by decide) hi));rw [this] at hb;cases hb
 refine⟨?_,?_⟩
 ·have h3:(qT (r.to a) (zaA r.n)).testBit i=false:=by rw [h1];exact QC i
  rw [zaS (zaK _) hi,hb,zbo h0 (by omega) hi] at h3;simpa using h3
 ·rcases h2 with h2 | h2
  ·exact h2
  ·rw [h2,QC] at hb;cases hb
theorem zjD {r:RelD} (h:okR r=true) (hr:zG r.to) {a:Nat} (ha:a<48):∀ i∈els (r.to a),(i:Int)<r.n/\i<48:=fun i hi=>by
 have h1:=(zjE h hr ha (qW.1 hi).2).1;have:=(jb h).2.1;exact⟨h1,by omega⟩
theorem zbV {s:Nat} (h0:s≠0) (h:s<2^64):(els s).headD 0=ctz s/\(els s).isEmpty=false:=by
 rw [(jX h0 h).1];exact⟨rfl,rfl⟩
theorem zc8 {s:Nat} (h:s<2^64) (he:(els s).isEmpty=true):s=0:=by
 apply Jp;intro h0;rw [(zbV h0 h).2] at he;cases he
theorem zfj {s:Nat} (h:s<2^64) (he:(!(els s).isEmpty)=true):s≠0:=fun h0=>by
 subst h0;rw [zao] at he;cases he
theorem zd7 {n:Nat} {f:Nat->Nat} (h:∀ i,i<n->i<48->f i<2^64):zG (jK n f).to:=fun i hi=>by
 unfold jK;dsimp only
 split
 ·rename_i h1;exact h i h1 hi
 ·decide
theorem zk6 {to:Nat->Nat} (ht:zG to):∀ (l:List Nat) (t:Nat),t<2^64->(∀ i∈l,i<48)->l.foldl (fun t a=>t|||to a) t<2^64
 | [],t,h,_=>h
 | x::l,t,h,hl=>by
  rw [QK];exact zk6 ht l _ (KX h (ht x (hl x Kz))) fun i hi=>hl i (JW _ hi)
section
variable {ra rb:RelD} {w:Wd}
theorem zq0 {ba bb i a b:Nat} (fa:w.heap[ba]?=some (.cells #[s64 a] 36 (0,0))) (fb:w.heap[bb]?=some (.cells #[s64 b] 36 (0,0))) (hi:i<48) :
  CB 155 (i64 (i:Nat)::[At0 ba,At0 bb]).toArray w (s64 (if a.testBit i then b else 0)):=by
 refine zI 11 (i64 (i:Nat)::[At0 ba,At0 bb]) Tryz.func155 ?_;refine⟨_,zc (za fa) (i:=0) rfl,by omega,_,zeM (k:=i) (by omega),?_⟩;have e1:IntKind.u64.wrap ((BitVec.ofInt IntKind.u64.bits ((a/2^i:Nat):Int)&&&BitVec.ofInt IntKind.u64.bits (1:Int)).toNat:Int)=((a/2^i&&&1:Nat):Int):=by
  show IntKind.u64.wrap ((BitVec.ofInt 64 ((a/2^i:Nat):Int)&&&BitVec.ofInt 64 (1:Int)).toNat:Int)=_;rw [Qf,show (BitVec.ofInt 64 (1:Int)).toNat=1 from rfl,KD,KD,Ks];have e2:(((a/2^i:Nat):Int)%((2^64:Nat):Int)).toNat=(a/2^i)%2^64:=by
   rw [<- Int.natCast_emod,KK]
  rw [e2];generalize a/2^i=m;rw [w64 (by omega)];omega
 refine⟨_,e1,?_⟩;rw [zjW];refine biE (fun h=>?_) fun h=>?_
 ·have h:a.testBit i=false:=by
   cases hc:a.testBit i with
   | false=>rfl
   | true =>
    rw [hc] at h;exact Gp h (by decide)
  exact⟨by rw [h];rfl,Ga _ _⟩
 ·have h:a.testBit i=true:=by
   cases hc:a.testBit i with
   | true=>rfl
   | false =>
    rw [hc] at h;exact Gp h (by decide)
  exact⟨_,zc (za fb) (i:=0) rfl,by rw [h];rfl,Ga _ _⟩
theorem zsH {n a b:Nat} (hn:n<=48) (ha:a<2^64) (hb:b<2^64):CB 112 #[i64 n,s64 a,s64 b] w (.agg (zf (zhX n a b)).toArray):=by
 refine qA 21 [i64 n,s64 a,s64 b] (.c .p (.s .p (.s .p .p))) Tryz.func112 ?_;obtain⟨L,hL⟩:=nm (w.heap.size);refine⟨Unit,fun _=>⟨[(0,i64 n),(4,At0 L),(5,At0 (L+1)),(6,At0 (L+2))],[]⟩,fun _ X=>X.heap[L]?=some (.cells #[s64 a] 36 (0,0))/\X.heap[L+1]?=some (.cells [s64 b].toArray 36 (0,0))/\X.heap[L+2]?=some (.cells (zf zB).toArray 39 (0,0))/\Bw w X,?_,?_⟩
 ·have s1:=wz w (.cells #[s64 a] 36);have s2:=wz (w.alloc (.cells #[s64 a] 36)) (.cells #[s64 b] 36);have h2:=zw (w.alloc (.cells #[s64 a] 36)) (.cells #[s64 b] 36);have h3:=zw ((w.alloc (.cells #[s64 a] 36)).alloc (.cells #[s64 b] 36)) (.cells (zf zB).toArray 39);rw [s1] at s2 h2;rw [s2] at h3;refine⟨(),⟨.cons rfl (.cons (by rw [hL];rfl) (.cons (by rw [hL,<- s1];rfl) (.cons (by rw [hL,<- s2];rfl) .nil))),rfl⟩,?_,?_,?_,?_⟩
  ·rw [hL];exact qM _ (qM _ (zw w _))
  ·rw [hL];exact qM _ h2
  ·rw [hL];exact h3
  ·exact (((zba w _)).alloc (by simp) _).alloc (by simp;omega) _
 rintro _ X ⟨f0,f1,f2,hbX⟩;refine brN (Uf (by omega)) (brN (Uf (by omega)) (DrawE.ord [4] [0,1,2,3,4] (by kernel_rfl) ⟨_,zc (za (hdr f1)) (i:=0) rfl,cmo zjd ?_⟩));rintro e _ ⟨rfl,rfl⟩;refine⟨Ga _ _,_,jO (a:=b) (b:=zaA n) hb (zaK _),?_⟩;have hd:Bw X X.drew:=(Ga _ X).drew;refine zm k36 (hdr f1) (o:=0) (v:=s64 (b&&&zaA n)) rfl rfl (by show 0<1;decide) rfl fun Y fY gY sY=>?_;have fY:Y.heap[L+1]?=some (.cells #[s64 (b&&&zaA n)] 36 (0,0)):=fY;have hbY:Bw w Y:=((zst hbX hd)).trans (zk gY hbX.size (by omega));have f0Y:=(gY.block L (hlt (hdr f0)) (by simp)).trans (hdr f0);have f2Y:=(gY.block (L+2) (hlt (hdr f2)) (by simp)).trans (hdr f2);refine cmo (zjU (w:=Y) (n:=n) (row:=fun x=>if a.testBit x then b&&&zab n else 0) hn (by kernel_rfl) (fun i Z hi hbZ=>zq0 (zb hbZ f0Y) (zb hbZ fY) (by omega))) ?_;rintro e Z ⟨rfl,hbZ⟩;have f2Z:=zb hbZ f2Y;exact zt (v := .agg (zf (zhX n a b)).toArray) k39 f2Z rfl rfl (zD _) ⟨zf (zhX n a b),zh _,za (zn f2Z),rfl,zl ((zst hbY hbZ)) (by omega) _⟩
end
end Go.Proofs.YtkpaomeeknegpaaGreatDoor
namespace Go.Sei
def zav (before:Nat->Nat):Nat->Nat->List Nat->List (List Nat)
 | 0,left,l=>if left=0 then [l] else []
 | n+1,left,l=>if left=0 then [l] else (els left).flatMap fun a=>if before a&&&left=0 then zav before n (jL left (2^a)) (l++[a]) else []
def zbt (r:RelD):List (List Nat):=if zaO r then zav (zX r).to 64 (zab r.n) [] else []
def zaf:List Nat->Nat->List Nat
 | [],_=>[]
 | n::ns,j=>j%n::zaf ns (j/n)
def zZ:List Nat->Nat
 | []=>1
 | n::ns=>n*zZ ns
def qb (sizes:List Nat):List (List Nat):=(List.range (zZ sizes.reverse)).map fun j=>(zaf sizes.reverse j).reverse
theorem zfk:∀ (rs:List Nat) (j:Nat),(zaf rs j).length=rs.length
 | [],_=>rfl
 | n::ns,j=>by
  show (zaf ns (j/n)).length+1=ns.length+1;rw [zfk ns]
theorem zi2:∀ rs:List Nat,zaf rs 0=List.replicate rs.length 0
 | []=>rfl
 | n::ns=>by
  show 0%n::zaf ns (0/n)=0::List.replicate ns.length 0;rw [Nat.zero_mod,Nat.zero_div,zi2 ns]
theorem ziF:∀ {rs:List Nat},(∀ n∈rs,n≠0)->0<zZ rs
 | [],_=>Nat.one_pos
 | n::ns,h=>Nat.mul_pos (by have:=h n (by simp);omega) (ziF fun m hm=>h m (by simp [hm]))
theorem zer:∀ {rs:List Nat},0∈rs->zZ rs=0
 | [],h=>by cases h
 | n::ns,h=>by
  show n*zZ ns=0;rcases UB.1 h with h | h
  ·rw [<- h,UR]
  ·rw [zer h,Nat.mul_zero]
theorem zfV {n j:Nat} (hn:n≠0):(j%n=n-1->(j+1)%n=0/\(j+1)/n=j/n+1)/\(j%n≠n-1->(j+1)%n=j%n+1/\(j+1)/n=j/n):=by
 have h1:=QX j n;have h2:=Ge j (KG hn);obtain⟨q,hq⟩:∃ q,j/n=q:=⟨_,rfl⟩;obtain⟨m,hm⟩:∃ m,j%n=m:=⟨_,rfl⟩;rw [hq,hm] at h1 ⊢;rw [hm] at h2;refine⟨fun h=>?_,fun h=>?_⟩
 ·have e:j+1=n*(q+1):=by rw [Nat.mul_add];omega
  rw [e];exact⟨Nat.mul_mod_right _ _,Nat.mul_div_cancel_left _ (KG hn)⟩
 ·have e:j+1=n*q+(m+1):=by omega
  rw [e,Nat.mul_add_mod,QB (by omega),Nat.mul_add_div (KG hn),Nat.div_eq_of_lt (by omega)];exact⟨rfl,rfl⟩
def zh8 (rs:List Nat) (j t:Nat):Prop:=∃ A ns k,rs=A++ns/\A.length=t/\zaf rs (j+1)=List.replicate t 0++zaf ns (k+1)/\(zaf rs j).drop t=zaf ns k/\zZ A*(k+1)=j+1
theorem zcB:∀ A B:List Nat,zZ (A++B)=zZ A*zZ B
 | [],B=>(UX _).symm
 | n::A,B=>by
  show n*zZ (A++B)=n*zZ A*zZ B;rw [zcB A B,UD]
theorem zmp (rs:List Nat) (j:Nat):zh8 rs j 0:=⟨[],rs,j,rfl,rfl,rfl,rfl,UX _⟩
theorem zmr {rs:List Nat} {j t:Nat} (hr:∀ n∈rs,n≠0) (h:zh8 rs j t) {n d:Nat} (hn:rs[t]?=some n) (hd:(zaf rs j)[t]?=some d) (he:d=n-1):zh8 rs j (t+1):=by
 obtain⟨A,ns,k,h1,h2,h3,h4,h5⟩:=h
 cases ns with
 | nil =>
  rw [h1,QI,JJ (by omega)] at hn
  cases hn
 | cons m ns =>
  have hm:m=n:=by
   rw [h1,Jn (by omega),h2,UN] at hn;exact Ud hn
  subst hm;have hd2:k%m=d:=by
   have:=Gi (fun l=>l[0]?) h4;simp only [Kw,UK] at this;rw [hd] at this;exact (Ud this).symm
  have hm0:m≠0:=hr m (by rw [h1];simp);obtain⟨e1,e2⟩:=(zfV hm0).1 (hd2.trans he);have hk:k+1=m*(k/m+1):=by
   have:=QX (k+1) m;rw [e1,e2] at this;omega
  refine⟨A++[m],ns,k/m,by rw [h1];simp,by simp [h2],?_,?_,?_⟩
  ·rw [h3];show _++((k+1)%m::zaf ns ((k+1)/m))=_;rw [e1,e2,List.replicate_succ',KN];rfl
  ·rw [<- Ui,h4];rfl
  ·rw [<- h5,zcB];show zZ A*(m*1)*_=_;rw [UW,UD,<- hk]
theorem zmq {rs:List Nat} {j t:Nat} (hr:∀ n∈rs,n≠0) (h:zh8 rs j t) {n d:Nat} (hn:rs[t]?=some n) (hd:(zaf rs j)[t]?=some d) (he:d≠n-1):zaf rs (j+1)=List.replicate t 0++(d+1)::(zaf rs j).drop (t+1):=by
 obtain⟨A,ns,k,h1,h2,h3,h4,h5⟩:=h
 cases ns with
 | nil =>
  rw [h1,QI,JJ (by omega)] at hn
  cases hn
 | cons m ns =>
  have hm:m=n:=by
   rw [h1,Jn (by omega),h2,UN] at hn;exact Ud hn
  subst hm;have hd2:k%m=d:=by
   have:=Gi (fun l=>l[0]?) h4;simp only [Kw,UK] at this;rw [hd] at this;exact (Ud this).symm
  have hm0:m≠0:=hr m (by rw [h1];simp);obtain⟨e1,e2⟩:=(zfV hm0).2 (fun h=>he (hd2.symm.trans h));rw [h3,<- Ui,h4];show _++((k+1)%m::zaf ns ((k+1)/m))=_;rw [e1,e2,hd2];rfl
theorem zoG {rs:List Nat} {j:Nat} (h:zh8 rs j rs.length) (hj:j<zZ rs):j+1=zZ rs:=by
 obtain⟨A,ns,k,h1,h2,h3,h4,h5⟩:=h;have hl:=Gi List.length h1;rw [lap,h2] at hl;have:ns=[]:=List.length_eq_zero_iff.1 (by omega);subst this;rw [QI] at h1;rw [h1] at hj ⊢;have h6:zZ A*(k+1)<=zZ A:=by omega
 rcases Nat.eq_zero_or_pos (zZ A) with h0 | h0
 ·omega
 ·have:k+1<=1:=Nat.le_of_mul_le_mul_left (by omega:zZ A*(k+1)<=zZ A*1) h0;have:k=0:=by omega
  subst this;omega
theorem zms {rs:List Nat} {j t:Nat} (hr:∀ n∈rs,n≠0) (h:zh8 rs j t) {n d:Nat} (hn:rs[t]?=some n) (hd:(zaf rs j)[t]?=some d) (he:d≠n-1) (hj:j<zZ rs):j+1<zZ rs:=by
 obtain⟨A,ns,k,h1,h2,h3,h4,h5⟩:=h
 cases ns with
 | nil =>
  rw [h1,QI,JJ (by omega)] at hn
  cases hn
 | cons m ns =>
  have hm:m=n:=by
   rw [h1,Jn (by omega),h2,UN] at hn;exact Ud hn
  subst hm;have hd2:k%m=d:=by
   have:=Gi (fun l=>l[0]?) h4;simp only [Kw,UK] at this;rw [hd] at this;exact (Ud this).symm
  have hm0:m≠0:=hr m (by rw [h1];simp);obtain⟨e1,e2⟩:=(zfV hm0).2 (fun h=>he (hd2.symm.trans h));apply Jp;intro hc;have hP:zZ rs=zZ A*(m*zZ ns):=by rw [h1,zcB];rfl
  have hA:0<zZ A:=by
   apply KG;intro h0;rw [hP,h0,UR] at hj;omega
  have h6:zZ A*(k+1)=zZ A*(m*zZ ns):=by omega
  have h7:=Nat.eq_of_mul_eq_mul_left hA h6;rw [h7,Nat.mul_mod_right] at e1;omega
theorem ziA {L:List Nat} {t d:Nat} (h:L[t]?=some d):(List.replicate t 0++L.drop t).reverse=(L.drop (t+1)).reverse++d::(List.replicate t 0).reverse:=by
 obtain⟨ht,rfl⟩:=Js.1 h;rw [<- JE ht,Km,KV,KN];rfl
theorem zta {L:List Nat} {t d:Nat} (h:L[t]?=some d) {i:Nat} (hi:i+t+1=L.length):(List.replicate t 0++L.drop t).reverse[i]?=some d:=by
 rw [ziA h,Jn (by simp;omega)];have:i-(L.drop (t+1)).reverse.length=0:=by simp;omega
 rw [this];rfl
theorem zmS {L:List Nat} {t d:Nat} (h:L[t]?=some d) {i:Nat} (hi:i+t+1=L.length) (v:Nat):((List.replicate t 0++L.drop t).reverse).set i v=(List.replicate t 0++v::L.drop (t+1)).reverse:=by
 rw [ziA h,JO _ _ (by simp;omega)];have:i-(L.drop (t+1)).reverse.length=0:=by simp;omega
 rw [this,Km,KV,KN];rfl
theorem zpq {L:List Nat} {t:Nat}:(List.replicate t 0++0::L.drop (t+1)).reverse=(List.replicate (t+1) 0++L.drop (t+1)).reverse:=by
 rw [List.replicate_succ',KN];rfl
structure ExD where
 ev:List Ev
 po:RelD
 rf:RelD
 co:RelD
 dt:RelD
 ct:RelD
 rm:RelD
 regs:Nat->UInt8
 mem:Nat->UInt8
structure MixD where
 base:ExD
 rs:List (Nat×List Nat)
 wr:List (List Nat)
def zdi (n:Nat):RelD:=⟨n,fun _=>0⟩
def ex0 (n:Nat):ExD:=⟨[],zdi n,zdi n,zdi n,zdi n,zdi n,zdi n,fun _=>0,fun _=>0⟩
def zfF (b:Nat):List (Nat×Nat)->(Nat->Nat)->Nat->Nat
 | [],f=>f
 | p::ps,f=>zfF b ps (upd f (b+p.1) (f (b+p.1)|||2^(b+p.2)))
def zl1 (b:Nat) (ps:List (Nat×Nat)) (r:RelD):RelD:=⟨r.n,zfF b ps r.to⟩
def zhc (a:Int):Nat->List Ev->Nat->Nat
 | _,[],s=>s
 | j,e::es,s=>zhc a (j+1) es (if e.th=a then s|||2^j else s)
def zbz (ev:List Ev) (i:Nat):Nat:=match ev[i]? with
 | none=>0
 | some e=>if e.th = -1 then 0 else zhc e.th (i+1) (ev.drop (i+1)) 0
def poR (ev:List Ev):RelD:=⟨ev.length,zbz ev⟩
def qm:Nat->List UInt8->List Ev
 | _,[]=>[]
 | l,v::vs=>⟨-1,2,UInt8.ofNat l,v,0,0,0⟩::qm (l+1) vs
def jS (k:Nat) (l:List Ev):List Ev:=l.map fun e=>{ e with th:=k }
def zbv (x:ExD) (k:Nat) (P:PathD):ExD :=
 { x with ev:=x.ev++jS k P.ev,dt:=zl1 x.ev.length P.data x.dt,ct:=zl1 x.ev.length P.ctrl x.ct,rm:=zl1 x.ev.length P.rmw x.rm,regs:=fun i=>if i/8=k then P.regs (i%8) else x.regs i }
def asR:Nat->List PathD->ExD->ExD
 | _,[],x=>x
 | k,P::Ps,x=>asR (k+1) Ps (zbv x k P)
def zbw (locs:Nat) (Ps:List PathD):Nat:=Ps.foldl (fun n P=>n+P.ev.length) locs
def zib:Nat->List Ev->List (List Nat)->List (List Nat)
 | _,[],W=>W
 | i,e::es,W=>zib (i+1) es (if e.k=2 then W.set e.l.toNat (W.getD e.l.toNat []++[i]) else W)
def zbQ (all:List Ev) (W:List (List Nat)):Nat->List Ev->List (Nat×List Nat)
 | _,[]=>[]
 | i,e::es=>if e.k=1 then (i,(W.getD e.l.toNat []).filter fun w=>decide ((all.getD w ev0).v=e.v))::zbQ all W (i+1) es else zbQ all W (i+1) es
def zaa (init:List UInt8) (Ps:List PathD):ExD :=
 let x:=asR 0 Ps { ex0 (zbw init.length Ps) with ev:=qm 0 init }
 { x with po:=poR x.ev }
def zaj (x:ExD) (locs:Nat):MixD :=
 let W:=zib 0 x.ev (List.replicate locs [])
 ⟨x,zbQ x.ev W 0 x.ev,W⟩
def zhx (init:List UInt8) (Ps:List PathD):Option MixD:=if zbw init.length Ps<=48 then some (zaj (zaa init Ps) init.length) else none
def zfn (lim:Nat):List (List Nat)->Nat->Option Nat
 | [],n=>some n
 | f::fs,n=>if f=[] then none else zfn lim fs (min (n*f.length) lim)
def zgt (lim len:Nat):Nat->Nat->Nat->Nat
 | 0,_,n=>n
 | m+1,k,n=>if k<len then zgt lim len m (k+1) (min (n*k) lim) else n
def zgs (lim:Nat):List (List Nat)->Nat->Nat
 | [],n=>n
 | l::ls,n=>zgs lim ls (zgt lim l.length l.length 2 n)
def jB (m:MixD) (lim:Nat):Nat:=match zfn lim (m.rs.map (·.2)) 1 with
 | none=>0
 | some n=>zgs lim m.wr n
def zM (w:List Nat):List (List Nat) :=
 let l:=zbt (zhX w.length 1 (jL (zab w.length) 1))
 if l.length<=10000 then l.map fun o=>o.map fun k=>w.getD k 0 else []
def zeh:List Nat->(Nat->Nat)->Nat->(Nat->Nat)
 | [],f,_=>f
 | a::l,f,b=>zeh l (upd f a b) (b|||2^a)
def j9 (l:List Nat) (r:RelD):RelD:=⟨r.n,zeh l.reverse r.to 0⟩
def rfF:List (Nat×List Nat)->List Nat->(Nat->Nat)->Nat->Nat
 | [],_,f=>f
 | (r,s)::rs,ds,f=>rfF rs ds.tail (upd f (s.getD (ds.headD 0) 0) (f (s.getD (ds.headD 0) 0)|||2^r))
def coG (ev:List Ev):Nat->List (List (List Nat))->List Nat->RelD×(Nat->UInt8)->RelD×(Nat->UInt8)
 | _,[],_,p=>p
 | l,R::Rs,ds,p=>coG ev (l+1) Rs ds.tail (j9 (R.getD (ds.headD 0) []) p.1,upd p.2 l (ev.getD ((R.getD (ds.headD 0) []).getLastD 0) ev0).v)
def zz (m:MixD) (ds:List Nat):ExD :=
 let c:=coG m.base.ev 0 (m.wr.map zM) (ds.drop m.rs.length) (m.base.co,m.base.mem)
 { m.base with rf:=⟨m.base.rf.n,rfF m.rs ds m.base.rf.to⟩,co:=c.1,mem:=c.2 }
def zJ (m:MixD):List Nat:=m.rs.map (fun r=>r.2.length)++m.wr.map fun w=>(zM w).length
def zdJ (m:MixD):List ExD:=(qb (zJ m)).map (zz m)
def jj (Ts:List (List PathD)):List Nat->List PathD
 | []=>[]
 | d::ds=>match Ts with
  | []=>[]
  | T::Ts=>(match T[d]? with | some P=>[P] | none=>[])++jj Ts ds
theorem znw:∀ (rs:List Nat) (j:Nat),(∀ n∈rs,n≠0)->∀ (i n d:Nat),rs[i]?=some n->(zaf rs j)[i]?=some d->d<n
 | [],_,_,_,_,_,h,_=>by simp at h
 | m::rs,j,h0,0,n,d,h,hd=>by
  have h:m=n:=by simpa using h
  have hd:j%m=d:=by simpa [zaf] using hd
  subst h;subst hd;exact Ge _ (KG (h0 m (by simp)))
 | m::rs,j,h0,i+1,n,d,h,hd=>znw rs (j/m) (fun n hn=>h0 n (by simp [hn])) i n d (by simpa using h) (by simpa [zaf] using hd)
theorem zai {sizes ds:List Nat} (h:ds∈qb sizes):ds.length=sizes.length/\∀ (i n d:Nat),sizes[i]?=some n->ds[i]?=some d->d<n:=by
 unfold qb at h;obtain⟨j,hj,rfl⟩:=UI.1 h;have hj:=Um.1 hj;have h0:∀ n∈sizes.reverse,n≠0:=fun n hn e=>by
  subst e;rw [zer hn] at hj;omega
 have hl:(zaf sizes.reverse j).length=sizes.length:=by rw [zfk,Kj]
 refine⟨by rw [Kj,hl],fun i n d hn hd=>?_⟩;have hi:i<sizes.length:=(Js.1 hn).1;have e1:=JK (l:=sizes.reverse) (i:=i) (by simpa using hi);rw [Kb,hn] at e1;have e2:=JK (l:=zaf sizes.reverse j) (i:=i) (by omega);rw [hd,hl] at e2;rw [Kj] at e1;exact znw _ _ h0 _ n d e1.symm e2.symm
theorem zku:∀ (rs:List (Nat×List Nat)) (r:Nat) (s:List Nat) (ds:List Nat) (f:Nat->Nat),rfF (rs++[(r,s)]) ds f=upd (rfF rs ds f) (s.getD (ds.getD rs.length 0) 0) (rfF rs ds f (s.getD (ds.getD rs.length 0) 0)|||2^r)
 | [],r,s,ds,f=>by
  have:ds.getD 0 0=ds.headD 0:=by cases ds <;> rfl
  show upd f (s.getD (ds.headD 0) 0) _=_;rw [<- this];rfl
 | (r',s')::rs,r,s,ds,f=>by
  have e:ds.getD (rs.length+1) 0=ds.tail.getD rs.length 0:=by
   cases ds with
   | nil=>simp
   | cons a ds=>simp
  show rfF (rs++[(r,s)]) ds.tail _=_;rw [zku rs r s ds.tail];show _=upd (rfF rs ds.tail _) (s.getD (ds.getD (rs.length+1) 0) 0) (rfF rs ds.tail _ (s.getD (ds.getD (rs.length+1) 0) 0)|||2^r);rw [e]
abbrev zcb (ev:List Ev) (rk:List Nat):UInt8:=(ev.getD (rk.getLastD 0) ev0).v
theorem zlo (ev:List Ev):∀ (Rs:List (List (List Nat))) (R:List (List Nat)) (l:Nat) (ds:List Nat) (p:RelD×(Nat->UInt8)),
  coG ev l (Rs++[R]) ds p=(j9 (R.getD (ds.getD Rs.length 0) []) (coG ev l Rs ds p).1,upd (coG ev l Rs ds p).2 (l+Rs.length) (zcb ev (R.getD (ds.getD Rs.length 0) [])))
 | [],R,l,ds,p=>by
  have:ds.getD 0 0=ds.headD 0:=by cases ds <;> rfl
  show (j9 (R.getD (ds.headD 0) []) p.1,upd p.2 l _)=_;rw [<- this];rfl
 | R'::Rs,R,l,ds,p=>by
  have e:ds.getD (Rs.length+1) 0=ds.tail.getD Rs.length 0:=by
   cases ds with
   | nil=>simp
   | cons a ds=>simp
  show coG ev (l+1) (Rs++[R]) ds.tail _=_;rw [zlo ev Rs R (l+1) ds.tail];show _=(j9 (R.getD (ds.getD (Rs.length+1) 0) []) _,upd _ (l+(Rs.length+1)) (zcb ev (R.getD (ds.getD (Rs.length+1) 0) [])));rw [e,show l+1+Rs.length=l+(Rs.length+1) by omega];rfl
def zj8 (r:RelD):Bool:=(List.range 48).all fun i=>decide (r.to i<2^64)
structure MixB (m:MixD):Prop where
 ev:m.base.ev.length<=48
 rl:m.rs.length<=48
 wl:m.wr.length<=6
 rf:∀ i,i<48->m.base.rf.to i<2^64
 co:∀ i,i<48->m.base.co.to i<2^64
 rs:∀ r∈m.rs,r.1<48/\r.2.length<=1000/\∀ s∈r.2,s<48
 wr:∀ w∈m.wr,w.length<=48/\(zM w).length<=10000/\∀ k∈zM w,k≠[]/\k.length<=48/\∀ a∈k,a<m.base.ev.length
theorem zgN (m:MixD) (ds:List Nat):(zz m ds).ev=m.base.ev:=rfl
def qP (a b : RelD) : Bool := decide (a.n = b.n) && (List.range 48).all fun i => decide (a.to i = b.to i)
def qF (ev : List Ev) : Nat := (ev.takeWhile fun e => decide (e.th = -1)).length
def zbY (locs : Nat) : Nat → List Ev → Int → Nat → Bool
  | _, [], _, _ => true
  | i, e :: es, t, n =>
    if i < locs then (if e = ⟨-1, 2, UInt8.ofNat i, e.v, 0, 0, 0⟩ then zbY locs (i + 1) es t n else false)
    else if e.th < t ∨ 4 ≤ e.th then false
    else
      let t' := if t < e.th then e.th else t
      let n' := if t < e.th then 0 else n
      if e.p.toNat = n' then
        (if e.k = 1 ∨ e.k = 2 then (if e.l.toNat < locs then zbY locs (i + 1) es t' (n' + 1) else false)
         else if e.k = 3 then (if e.l = 0 ∧ e.v = 0 then zbY locs (i + 1) es t' (n' + 1) else false)
         else false)
      else false
def jx (ev : List Ev) (locs : Nat) : Bool := zbY locs 0 ev 0 0
def evA (x : ExD) (i : Nat) : Ev := x.ev.getD i ev0
def zb6 (x : ExD) (s : Nat) (e : Ev) : Bool :=
  if e.k = 1 then (if s = 0 then false else
    (if s = 2 ^ ctz s then decide ((evA x (ctz s)).k = 2) && (decide ((evA x (ctz s)).l = e.l) && decide ((evA x (ctz s)).v = e.v)) else false))
  else decide (s = 0)
def zaH (x : ExD) : Bool := (List.range x.ev.length).all fun i => zb6 x ((zX x.rf).to i) (evA x i)
def jo (key : Nat → Nat) : List Nat → Nat → List Nat
  | [], x => [x]
  | y :: r, x => if key y < key x then y :: jo key r x else x :: y :: r
def zdm (key : Nat → Nat) (l : List Nat) : List Nat := (l.foldl (fun acc x => jo key acc x) []).reverse
def zbT (s : Nat) : Nat := (els s).length
def zT (x : ExD) (l : Nat) : List Nat := (List.range x.ev.length).filter fun i => decide ((evA x i).k = 2) && decide ((evA x i).l.toNat = l)
def zO (x : ExD) (l : Nat) : List Nat := zdm (fun i => zbT (x.co.to i)) (zT x l)
def zfm (x : ExD) : Nat → Nat → RelD × (Nat → UInt8) → Option (RelD × (Nat → UInt8))
  | 0, _, p => some p
  | n + 1, l, p => if (zO x l).headD 48 = l then zfm x n (l + 1) (j9 (zO x l) p.1, upd p.2 l (zcb x.ev (zO x l))) else none
def j8 (x : ExD) (locs : Nat) : Bool := match zfm x locs 0 (⟨x.ev.length, fun _ => 0⟩, fun _ => 0) with
  | none => false
  | some p => qP p.1 x.co && (List.range 6).all fun l => decide (p.2 l = x.mem l)
def zaW (x : ExD) : Nat := (List.range x.ev.length).foldl (fun s i => if (evA x i).k = 2 then s ||| 2 ^ i else s) 0
def zcG (x : ExD) (W : Nat) : Nat → List Ev → Nat → Bool
  | _, [], _ => true
  | i, e :: es, h =>
    let d := x.dt.to i
    let c := x.ct.to i
    let r := x.rm.to i
    if d ||| c ||| r = 0 then zcG x W (i + 1) es h
    else if e.k = 1 ∧ jL (d ||| r) W = 0 ∧ jL (d ||| c ||| r) (x.po.to i) = 0 then
      (if r = 0 then zcG x W (i + 1) es h
       else if r = 2 ^ ctz r ∧ h.testBit (ctz r) = false ∧ (evA x (ctz r)).l = e.l then zcG x W (i + 1) es (h ||| r) else false)
    else false
def zaE (x : ExD) : Bool := zcG x (zaW x) 0 x.ev 0
def zaQ (x : ExD) : Bool := [x.po, x.rf, x.co, x.dt, x.ct, x.rm].all fun r => decide (r.n = x.ev.length) && okR r
def jm (x : ExD) : Bool :=
  decide (x.ev.length ≤ 48) && (decide (1 ≤ qF x.ev) && (decide (qF x.ev ≤ 6) && (jx x.ev (qF x.ev) && (zaQ x && (qP x.po (poR x.ev) && (zaH x && (j8 x (qF x.ev) && zaE x)))))))
end Go.Sei
namespace Go.Proofs.YtkpaomeeknegpaaGreatDoor
open Go.Vc Go.RowKit Go.Sei
theorem zgw {f:Nat->Nat} (h:zG f) {i v:Nat} (hv:v<2^64):zG (upd f i v):=fun j hj=>by
 by_cases e:j=i
 ·rw [e,zP];exact hv
 ·rw [qr _ _ e];exact h j hj
def zsW (a:Nat) (l:List Nat) (f:Nat->Nat):Nat->Nat:=l.foldl (fun f b=>upd f b (f b|||2^a)) f
section
variable {r:RelD} {w:Wd}
theorem zh9 (hr:zG r.to) (hT:Tz64M w):Calls PG 38 #[.agg (zf r).toArray] w fun e w'=>e = .returned (.agg (zf (zX r)).toArray)/\Bw w w'/\zG (zX r).to:=by
 refine qA 50 [.agg (zf r).toArray] (.c .p (.s .p (.s .p (.c .p .p)))) Tryz.func38 ?_;obtain⟨L,hL⟩:=nm (w.heap.size);refine⟨Unit,fun _=>⟨[(1,At0 L),(2,At0 (L+1))],[]⟩,fun _ X=>X.heap[L]?=some (.cells (zf r).toArray 39 (0,0))/\X.heap[L+1]?=some (.cells (zf zB).toArray 39 (0,0))/\X.heap.size=L+2/\Bw w X,?_,?_⟩
 ·have s1:=wz w (.cells (zf r).toArray 39);have h2:=zw (w.alloc (.cells (zf r).toArray 39)) (.cells (zf zB).toArray 39);have s2:=wz (w.alloc (.cells (zf r).toArray 39)) (.cells (zf zB).toArray 39);rw [s1] at h2 s2;refine⟨(),⟨.cons (by rw [hL];rfl) (.cons (by rw [hL,<- s1];rfl) .nil),rfl⟩,?_,?_,?_,?_⟩
  ·rw [hL];exact qM _ (zw w _)
  ·rw [hL];exact h2
  ·rw [hL];exact s2
  ·exact ((zba w _)).alloc (by simp) _
 rintro _ X ⟨f0,f1,sX,hbX⟩;refine⟨zf r,zh _,za f0,hlt f0,cmo (jH hr) ?_⟩;rintro e Y ⟨rfl,hbY⟩;have hbwY:=zst hbX hbY;have f0Y:=zb hbY f0;have f1Y:=zb hbY f1;refine biE (fun h=>?_) fun h=>?_
 ·have h:okR r=false:=by
   have h:(!okR r)=true:=h;simpa using h
  have e:zX r=zB:=by unfold zX;rw [h];rfl
  rw [e];exact⟨zf zB,rfl,zt (v := .agg (zf zB).toArray) k39 f1Y rfl rfl (zD _) ⟨zf zB,zh _,za (zn f1Y),rfl,zl hbwY (by omega) _,fun i _=>(by decide:0<2^64)⟩⟩
 have h:okR r=true:=by
  have h:(!okR r)=false:=h;simpa using h
 obtain⟨p0,p48,_⟩:=jb h;obtain⟨n,hn⟩:∃ n:Nat,r.n=n:=⟨r.n.toNat,by omega⟩;have hn48:n<=48:=by omega
 have e0:zX r=⟨n,zaG r.to n⟩:=by unfold zX;rw [Gn h,hn];rfl
 rw [e0];have hnY:Y.cell? ⟨L,0+0,none⟩=some (i64 n):=by rw [<- hn];exact zc (za f0Y) (i:=0) rfl
 refine⟨i64 n,hnY,zf ⟨n,fun _=>0⟩,rfl,?_⟩;have sY:=hbY.size;refine zq (X:=Y) (v := .agg (zf ⟨n,fun _=>0⟩).toArray) k39 rfl rfl (zD _) fun Z hbZ fZ sZ=>?_;obtain⟨M,hM⟩:=nm (Y.heap.size);rw [<- hM] at fZ sZ;have pM:some (Value.pointer (some ⟨Y.heap.size,0,none⟩))=some (At0 M):=by rw [hM]
 have hbwZ:=zst hbwY hbZ;refine⟨Unit,fun _=>⟨[(1,At0 L),(2,At0 (L+1)),(3,At0 M)],[]⟩,fun _ V=>V.heap[M]?=some (.cells (zf ⟨n,zaG r.to n⟩).toArray 39 (0,0))/\V.heap[L+1]?=some (.cells (zf zB).toArray 39 (0,0))/\Bw w V/\zG (zaG r.to n),?_,?_⟩
 ·refine⟨i64 n,by rw [<- hn];exact zc (za (zb hbZ f0Y)) (i:=0) rfl,?_⟩;refine⟨Nat,fun k=>⟨[(1,At0 L),(2,At0 (L+1)),(3,At0 M),(16,i64 n),(17,i64 (k:Nat))],[]⟩,
   fun k V=>k<=n/\V.heap[M]?=some (.cells (zf ⟨n,zaG r.to k⟩).toArray 39 (0,0))/\zG (zaG r.to k)/\Below M Z V,fun k=>n-k,0,
   ⟨.cons rfl (.cons rfl (.cons pM (.cons rfl (.cons rfl .nil)))),rfl⟩,⟨UY _,fZ,fun i _=>(by decide:0<2^64),Ga _ _⟩,?_⟩
  rintro k V ⟨hk,fV,hwV,hbV⟩;have sV:=hbV.size;refine biE (fun hc=>?_) fun hc=>?_
  ·have hc:(k:Int)<(n:Int):=dT hc;have hkn:k<n:=by omega
   have step:zaG r.to (k+1)=zsW k (els (r.to k)) (zaG r.to k):=by
    unfold zaG;rw [QU,KS];rfl
   have h48:=zjD h hr (a:=k) (by omega);have f0V:V.heap[L]?=some (.cells (zf r).toArray 39 (0,0)):=(hbV.block L (by omega)).trans (zb hbZ f0Y);have hTV:Tz64M V:=hT.below (hbwZ.trans (hbV.mono (by omega)));refine⟨k,rfl,by omega,?_⟩;refine⟨_,zaI f0V (by omega),cmo (za5 (hr k (by omega)) hTV) ?_⟩;rintro e U ⟨rfl,hbU⟩;refine⟨(Nat->Nat)×Nat,fun q=>⟨[(1,At0 L),(2,At0 (L+1)),(3,At0 M),(4,i64 (k:Nat)),(5,s64 q.2),(6,i64 ((els q.2).headD 0:Nat)),(7,.bool (!(els q.2).isEmpty)),(16,i64 n),(17,i64 (k:Nat))],[]⟩,
    fun q T=>(zaG r.to (k+1)=zsW k (els q.2) q.1/\zG q.1/\q.2<2^64/\∀ b∈els q.2,b<48)/\T.heap[M]?=some (.cells (zf ⟨n,q.1⟩).toArray 39 (0,0))/\Below M Z T,fun q=>q.2,(zaG r.to k,r.to k),
    (cvE rfl rfl),⟨⟨step,hwV,hr k (by omega),fun b hb=>(h48 b hb).2⟩,zb hbU fV,hbV.trans (hbU.mono (by omega))⟩,?_⟩
   rintro⟨g,q⟩ T ⟨⟨he,hg,hq,hb48⟩,fT,hbT⟩;dsimp only at he hg hq hb48 fT ⊢;have sT:=hbT.size;refine biE (fun hc=>?_) fun hc=>?_
   ·have h0:=zfj hq hc;obtain⟨e1,e2,_,e3⟩:=jX h0 hq;have hd:=(zbV h0 hq).1;have hc48:ctz q<48:=hb48 _ (by rw [e1];exact Kz);rw [hd];refine DrawE.ord [9] [0,1,2,3,4,5,6,7,8,9] (by kernel_rfl) ⟨ctz q,rfl,hc48,_,zaI (hdr fT) hc48,by omega,_,j5 (e:=k) (by omega),_,zak (hg _ hc48) (z7 (by omega)),ctz q,rfl,hc48,zm k36 (hdr fT) (o:=0+1+ctz q*1) (v:=s64 (g (ctz q)|||2^k)) rfl rfl (by rw [zh];omega) rfl fun S fS gS sS=>?_⟩;rw [UQ,UW,zeW _ hc48] at fS;have hdT:Bw T T.drew:=(Ga _ T).drew;have hbS:Below M Z S:=(hbT.trans (hdT.mono (show M<=T.heap.size by omega))).trans (zk gS (show M<=T.heap.size by omega) (UV _));refine⟨((q-1:Nat):Int),(w64 (a:=(q:Int)-1) (by omega)).trans (by omega),((qI q:Nat):Int),jO (a:=q) (b:=q-1) hq (by omega),cmo (za5 (s:=qI q) (by omega) (hT.below (hbwZ.trans (hbS.mono (by omega))))) ?_⟩;rintro e R ⟨rfl,hbR⟩;have sS2:=hbS.size;refine⟨(upd g (ctz q) (g (ctz q)|||2^k),qI q),(cvE rfl rfl),⟨⟨?_,zgw hg (KX (hg _ hc48) (z7 (by omega))),by show qI q<_;omega,fun b hb=>hb48 b (by rw [e1];exact JW _ hb)⟩,zb hbR fS,hbS.trans (hbR.mono (by omega))⟩,e2⟩;rw [he,e1];rfl
   ·have hc:(els q).isEmpty=true:=(by simpa using hc);have:=zc8 hq hc;subst this;rw [zao] at he;have he:zaG r.to (k+1)=g:=he;exact nxI (by omega) ⟨k+1,(cvE rfl rfl),⟨hkn,by rw [he];exact fT,by rw [he];exact hg,hbT⟩,zdc (by omega)⟩
  ·have hc:¬ (k:Int)<(n:Int):=dF hc;obtain rfl:k=n:=by omega
   exact⟨(),(cvE rfl rfl),fV,(hbV.block (L+1) (by omega)).trans (zb hbZ f1Y),hbwZ.trans (hbV.mono (by omega)),hwV⟩
 clear fZ sZ pM hbwZ hbZ Z;rintro _ V ⟨fM,f1V,hbV,hw⟩;exact⟨zf ⟨n,zaG r.to n⟩,zh _,za fM,hlt fM,zt (v := .agg (zf ⟨n,zaG r.to n⟩).toArray) k39 f1V rfl rfl (zD _) ⟨zf ⟨n,zaG r.to n⟩,zh _,za (zn f1V),rfl,zl hbV (by omega) _,hw⟩⟩
theorem zov {p:Nat->Bool} {x:Nat} {l:List Nat}:(x::l).find? p=if p x then some x else l.find? p:=by
 rw [List.find?_cons]
 cases p x <;> rfl
theorem ztA {b left:Nat} (f:w.heap[b]?=some (.cells (zf r).toArray 39 (0,0))) (hr:zG r.to) (hs:left<2^64) (h48:∀ i∈els left,i<48) (hT:Tz64M w) :
  CB 40 #[At0 b,s64 left] w (.tuple #[i64 ((zcc r.to left).getD 0:Nat),.bool (zcc r.to left).isSome]):=by
 refine zI 35 [At0 b,s64 left] Tryz.func40 ?_;refine cmo (za5 hs hT) ?_;rintro e X ⟨rfl,hbX⟩;refine⟨Nat,fun q=>⟨[(0,At0 b),(1,s64 left),(6,s64 q),(7,i64 ((els q).headD 0:Nat)),(8,.bool (!(els q).isEmpty))],[]⟩,
  fun q Y=>zcc r.to left=(els q).find? (fun a=>decide (r.to a&&&left=0))/\(q<2^64/\∀ i∈els q,i<48)/\Bw w Y,fun q=>q,left,
  (cvE rfl rfl),⟨rfl,⟨hs,h48⟩,hbX⟩,?_⟩
 clear hbX X;rintro q X ⟨he,⟨hq,h48⟩,hbX⟩;refine biE (fun hc=>?_) fun hc=>?_
 ·have h0:=zfj hq hc;obtain⟨e1,e2,_,e3⟩:=jX h0 hq;have hd:=(zbV h0 hq).1;have hc48:ctz q<48:=h48 _ (by rw [e1];exact Kz);have fX:=zb hbX f;refine⟨ctz q,Gi Nat.cast hd.symm,hc48,_,zaI fX hc48,_,jO (hr _ hc48) hs,?_⟩;rw [e1,zov] at he;refine biE (fun h=>?_) fun h=>?_
  ·have h:r.to (ctz q)&&&left=0:=Ux (dT h);rw [Uq h] at he;have he:zcc r.to left=some (ctz q):=he;exact⟨by rw [he,<- hd];rfl,hbX⟩
  ·have h:¬ r.to (ctz q)&&&left=0:=fun e=>by
    have h:¬ (((r.to (ctz q)&&&left:Nat):Int)=0):=dF h;exact h (by rw [e];rfl)
   rw [Uf h] at he;refine⟨((q-1:Nat):Int),(w64 (a:=(q:Int)-1) (by omega)).trans (by omega),((qI q:Nat):Int),jO (a:=q) (b:=q-1) hq (by omega),cmo (za5 (s:=qI q) (by omega) (hT.below hbX)) ?_⟩;rintro e Y ⟨rfl,hbY⟩;exact⟨qI q,(cvE rfl rfl),⟨he,⟨by omega,fun i hi=>h48 i (by rw [e1];exact JW _ hi)⟩,(zst hbX hbY)⟩,e2⟩
 ·have hc:(els q).isEmpty=true:=by simpa using hc
  have:=zc8 hq hc;subst this;rw [zao] at he;have he:zcc r.to left=none:=he;exact⟨by rw [he];rfl,hbX⟩
end
theorem zdD {s a:Nat} (hs:s<2^64) (ha:a∈els s):els (qT s (2^a))=(els s).filter (fun i => !decide (i=a)):=by
 have ha64:=zqh ha;unfold els;rw [List.filter_filter];apply KQ;intro i hi;rw [zaS (z7 ha64) (Um.1 hi),Ko,Bool.and_comm];congr 2;exact QE.2 ⟨fun h=>h.symm,fun h=>h.symm⟩
theorem zaw {s a:Nat} (hs:s<2^64) (ha:a∈els s):(els (qT s (2^a))).length<(els s).length:=by
 rw [zdD hs ha];exact List.length_filter_lt_length_iff_exists.2 ⟨a,ha,by simp⟩
theorem zpQ {s a:Nat} (hs:s<2^64) (ha:a∈els s):qT s (2^a)<s:=by
 have h1:qT s (2^a)<=s:=QW;have h2:qT s (2^a)≠s:=fun e=>by
  have:=zaw hs ha;rw [e] at this;omega
 omega
theorem zd3 {n:Nat} (h:n<=64):els (zaA n)=List.range n:=by
 have e:∀ i∈List.range 64,(zaA n).testBit i=decide (i<n):=fun i hi=>by
  rw [zbo (by omega) (by omega) (Um.1 hi)];exact QE.2 (by omega)
 unfold els;rw [KQ e];obtain⟨m,hm⟩:∃ m,64=n+m:=⟨64-n,by omega⟩;rw [hm,List.range_add,Kv];have f1:(List.range n).filter (fun i=>decide (i<n))=List.range n:=by
  rw [List.filter_eq_self];intro i hi;simpa using hi
 have f2:((List.range m).map (n + ·)).filter (fun i=>decide (i<n))=[]:=by
  rw [JC];intro i hi;obtain⟨j,_,rfl⟩:=UI.1 hi;simp
 rw [f1,f2,QI]
theorem zk8 {before:Nat->Nat} {left a:Nat} (h:zcc before left=some a):a∈els left:=List.mem_of_find?_eq_some h
section
variable {r:RelD} {w:Wd}
theorem zuF (hr:zG r.to) (hT:Tz64M w):Calls PG 18 #[.agg (zf r).toArray] w fun e w' =>
  (∃ p c,e = .returned (.tuple #[.slice p ((zeN r).getD []).length c,.bool (zeN r).isSome])/\OwnS zA 3 w.heap.size w' p c ((zeN r).getD []))/\Bw w w':=by
 refine qA 38 [.agg (zf r).toArray] (.c .p (.s .p (.c .p (.c .p (.s .p .p))))) Tryz.func18 ?_;obtain⟨L,hL⟩:=nm (w.heap.size);refine⟨Unit,fun _=>⟨[(1,At0 L)],[]⟩,fun _ X=>X.heap[L]?=some (.cells (zf r).toArray 39 (0,0))/\X.heap.size=L+1/\Bw w X,⟨(),⟨.cons (by rw [hL];rfl) .nil,rfl⟩,by rw [hL];exact zw w _,by rw [hL];exact wz _ _,(zba w _)⟩,?_⟩;rintro _ X ⟨f0,sX,hbX⟩;refine⟨zf r,zh _,za f0,hlt f0,cmo (jH hr) ?_⟩;rintro e Y ⟨rfl,hbY⟩;have hbwY:=zst hbX hbY;have f0Y:=zb hbY f0;refine biE (fun h=>?_) fun h=>?_
 ·have h:okR r=false:=by
   have h:(!okR r)=true:=h;simpa using h
  have e:zeN r=none:=by unfold zeN;rw [h];rfl
  rw [e];exact⟨⟨none,0,rfl,OwnS.nil⟩,hbwY⟩
 have h:okR r=true:=by
  have h:(!okR r)=false:=h;simpa using h
 obtain⟨p0,p48,_⟩:=jb h;obtain⟨n,hn⟩:∃ n:Nat,r.n=n:=⟨r.n.toNat,by omega⟩;have hn48:n<=48:=by omega
 have sY:=hbY.size;refine⟨Nat,fun M=>⟨[(1,At0 L),(4,At0 M)],[]⟩,fun M Z=>Z.heap[M]?=some (.cells (zf (zX r)).toArray 39 (0,0))/\L<M/\Z.heap[L]?=some (.cells (zf r).toArray 39 (0,0))/\zG (zX r).to/\Bw w Z,?_,?_⟩
 ·refine⟨zf r,zh _,za f0Y,hlt f0Y,cmo (zh9 hr (hT.below hbwY)) ?_⟩;rintro e Z ⟨rfl,hbZ,hw⟩;refine zq (X:=Z) (v := .agg (zf (zX r)).toArray) k39 rfl rfl (zD _) fun V hbV fV sV=>?_;have sZ:=hbZ.size;exact⟨Z.heap.size,(cvE rfl rfl),fV,by omega,zb hbV (zb hbZ f0Y),hw,((zst hbwY hbZ)).trans (hbV.mono (by omega))⟩
 clear f0 sX hbX hbY hbwY f0Y sY Y X;rintro M X ⟨fM,hLM,f0,hw,hbX⟩;refine⟨Unit,fun _=>⟨[(1,At0 L),(4,At0 M),(5,s64 (zaA n))],[]⟩,fun _ Y=>X=Y,?_,?_⟩
 ·refine⟨i64 n,by rw [<- hn];exact zc (za f0) (i:=0) rfl,cmo zjd ?_⟩;rintro e _ ⟨rfl,rfl⟩;exact⟨(),(cvE rfl rfl),rfl⟩
 rintro _ _ rfl;refine⟨i64 n,by rw [<- hn];exact zc (za f0) (i:=0) rfl,zdw (E:=zA) Tryz.underlying62 k3 rfl rfl rfl n (by show 8*n<=_;omega) (by unfold maxLen;omega) fun Z oZ hbZ sZ=>?_⟩;have hbwZ:=zst hbX hbZ;have wX:=hbX.size;have eT:zeN r=zjh (zX r).to 64 (zaA n) []:=by unfold zeN;rw [Gn h,zaL,hn]
 have hMX:=hlt fM;refine⟨Nat×List Nat×Nat×OA×Nat,fun q=>⟨[(1,At0 L),(4,At0 M),(5,s64 q.1),(6,.slice q.2.2.2.1 q.2.1.length q.2.2.2.2)],[]⟩,
  fun q Y=>(zeN r=zjh (zX r).to q.2.2.1 q.1 q.2.1/\(els q.1).length<=q.2.2.1/\q.2.2.1+q.2.1.length=64/\q.1<2^64/\∀ i∈els q.1,i<48)/\OwnS zA 3 X.heap.size Y q.2.2.2.1 q.2.2.2.2 q.2.1/\Bw X Y,fun q=>q.1,(zaA n,[],64,some ⟨X.heap.size,0,none⟩,n),
  (cvE rfl rfl),⟨⟨eT,zfi _,rfl,zaK _,fun i hi=>by
   rw [show els (zaA n)=List.range n from zd3 (by omega)] at hi;have:=Um.1 hi;omega⟩,oZ,hbZ⟩,?_⟩
 rintro⟨q,l,m,p,c⟩ Y ⟨⟨he,hm,hml,hq,h48⟩,ho,hbY⟩;dsimp only at he hm hml hq h48 ho ⊢;have sY:=hbY.size;refine biE (fun hc=>?_) fun hc=>?_
 ·have hc:(!decide ((q:Int)=0))=true:=hc;have h0:q≠0:=fun e=>by
   subst e;exact Gp hc (by decide)
  obtain⟨e1,_,_,_⟩:=jX h0 hq;have hm1:1<=(els q).length:=by rw [e1];simp
  obtain⟨m,rfl⟩:∃ m',m=m'+1:=⟨m-1,by omega⟩;have fMY:=zb hbY fM;have step:zeN r=match zcc (zX r).to q with | none=>none | some a=>zjh (zX r).to m (jL q (2^a)) (l++[a]):=by
   rw [he];show (if q=0 then some l else _)=_;rw [Gm h0]
   cases zcc (zX r).to q <;> rfl
  refine cmo (ztA fMY hw hq h48 (hT.below (hbX.trans (hbY.mono wX)))) ?_;rintro e V ⟨rfl,hbV⟩;have hbXV:=hbY.trans (hbV.mono sY)
  cases hf:zcc (zX r).to q with
  | none =>
   rw [hf] at step;refine brT ?_;have e:zeN r=none:=step;rw [e];exact⟨⟨none,0,rfl,OwnS.nil⟩,hbX.trans (hbXV.mono wX)⟩
  | some a =>
   rw [hf] at step;refine brF ?_;have ha:=zk8 hf;have ha48:=h48 a ha;refine⟨⟨by decide,by decide,rfl⟩,zA.enc a,rfl,?_⟩;have hba:Bw V (V.alloc (.cells (zA.enc a).toArray 3)):=zba _ _;have hYa:Bw Y (V.alloc (.cells (zA.enc a).toArray 3)):=zst hbV hba;have sa:(V.alloc (.cells (zA.enc a).toArray 3)).heap.size=V.heap.size+1:=wz _ _;have sV:=hbV.size;refine jJ (E:=zA) (T:=3) (B:=X.heap.size) (l:=l) (news:=[a]) (cap:=c) (m:=1) Tryz.underlying62 k3 rfl rfl rfl (ho.below hYa) rfl (qN zA a) (by omega) (by omega) (by show (l.length+1)*8<=_;omega) ?_;intro p2 c2 U oU gU hbU hat;refine⟨by omega,_,j5 (e:=a) (by omega),_,zct hq (z7 (by omega)),?_⟩;have hlen:=zaw hq ha;refine⟨(qT q (2^a),l++[a],m,p2,c2),(cvE rfl rfl),⟨⟨step,by show (els (qT q (2^a))).length<=m;omega,by simp only [lap,Qr,QM];omega,zam hq,fun i hi=>?_⟩,oU,?_⟩,zpQ hq ha⟩
   ·rw [zdD hq ha] at hi;exact h48 i (QR.1 hi).1
   ·exact (hbY.trans (hYa.mono sY)).trans hbU
 ·have hc:(!decide ((q:Int)=0))=false:=hc;have h0:q=0:=by
   have h1:decide ((q:Int)=0)=true:=by simpa using hc
   exact Ux (dT h1)
  subst h0;have e:zeN r=some l:=by
   rw [he]
   cases m <;> rfl
  rw [e];exact⟨⟨p,c,rfl,OwnS.lower ho wX⟩,hbX.trans (hbY.mono wX)⟩
theorem zea (hr:zG r.to) (hT:Tz64M w):CB 51 #[.agg (zf r).toArray] w (.bool (zaO r)):=by
 refine zI 11 [.agg (zf r).toArray] Tryz.func51 ?_;have f0:=zw w (.cells (zf r).toArray 39);have hb:Bw w (w.alloc (.cells (zf r).toArray 39)):=zba w _;refine⟨zf r,zh _,za f0,hlt f0,cmo (zuF hr (hT.below hb)) ?_⟩;rintro e X ⟨⟨p,c,rfl,_⟩,hbX⟩;exact⟨rfl,(zst hb hbX)⟩
end
end Go.Proofs.YtkpaomeeknegpaaGreatDoor
namespace Go.Vc
open Go.RowKit
theorem KeepsG.more {F G:Nat->Prop} {A B:Wd} {g:Nat} (h:KeepsG G F A B) (hg:G g):KeepsG G (fun k=>F k\/k=g) A B :=
 ⟨h.os,h.tape,h.output,h.size,h.same,fun k hk=>hk.elim (h.fp k) fun e => .inl (by rw [e];exact hg)⟩
theorem zsy {α:Type} {E:Enc α} {P:Program} {w:Wd} {t T ty B g cap m c:Nat} {a:Addr} {l news:List α} {iT:TI} (hu:P.underlying t=some (.slice T)) (hT:TIok P T iT) (hs:iT.size=E.sz)
  (ho:OwnS E T B w (some ⟨g,0,none⟩) cap l) (hm:news.length=m) (hn:zK w a (news.flatMap E.enc)) (hroom:l.length+m<=cap) {K:Value->Wd->Prop}
  (k:∀ w',OwnS E T B w' (some ⟨g,0,none⟩) cap (l++news)->w.grownBy w' (some g)->K (.slice (some ⟨g,0,none⟩) (l++news).length cap) w') :
  SatR ((Builtin.append_ #[t,t] ty #[.slice (some ⟨g,0,none⟩) l.length cap,.slice (some a) m c]).run P w) K:=by
 obtain⟨⟨inf,hi,hsz,_,_⟩,_⟩:=hT;obtain⟨w',hr,ho',hg⟩:=run_append_fits (P:=P) w B t ty T inf E.sz hu hi (hsz.trans hs) g l.length cap (l.flatMap E.enc) ho a m c (news.flatMap E.enc) (by rw [qE,hm]) hn (zcE news) hroom;refine SatR.mk hr ?_;have hl:l.length+m=(l++news).length:=by simp [hm]
 have hf:l.flatMap E.enc++news.flatMap E.enc=(l++news).flatMap E.enc:=by rw [Kg]
 rw [hl,hf] at ho';rw [hl];exact k w' ho' hg
theorem OwnS.pref {α:Type} {E:Enc α} {T B cap g:Nat} {w:Wd} {l m:List α} (h:OwnS E T B w (some ⟨g,0,none⟩) cap (l++m)):OwnS E T B w (some ⟨g,0,none⟩) cap l:=by
 rcases h.inv with ⟨h,_⟩ | ⟨g',cur,hg,hB,hc,hl,hm,hs,ht⟩
 ·cases h
 ·simp only [KY,Us,Gh] at hg;subst hg;unfold OwnS World.ownsRow;refine⟨by rw [qE],.inr ⟨g,cap,cur,rfl,hB,hc,by rw [lap] at hl;omega,hm,hs,?_⟩⟩;have:=Gi (List.take (l.length*E.sz)) ht;rw [List.take_take,Kg,QV (qE l)] at this;rw [<- this];congr 1;rw [lap,UU];omega
theorem zx {α:Type} {E:Enc α} {T B c:Nat} {Y:Wd} {q:OA} {l:List α} (h:OwnS E T B Y q c l) {a:Addr} (ha:q=some a):B<=a.block/\a.block<Y.heap.size/\∃ cur,Y.heap[a.block]?=some (.cells cur T (0,0)):=by
 rcases h.inv with ⟨h1,_⟩ | ⟨g,cur,h1,h2,h3,_⟩
 ·rw [h1] at ha;cases ha
 ·rw [h1] at ha;cases ha;exact⟨h2,hlt h3,cur,h3⟩
structure Gath {α:Type} (E:Enc α) (T TS B n0 L:Nat) (W:Wd) (NIn:(Nat->Prop)->Wd->α->Prop) (xs:List α) (F:Nat->Prop) (Y:Wd):Prop where
 size:n0<=Y.heap.size
 inL:F L
 lt:∀ k,F k->k<Y.heap.size
 row:∃ (p:OA) (c:Nat),Y.heap[L]?=some (.cells [.slice p xs.length c].toArray TS (0,0))/\OwnS E T B Y p c xs/\∀ a,p=some a->F a.block
 nest:∀ x∈xs,NIn F Y x
 old:Below B W Y
def zja {α:Type} (T TS:Nat) (NIn:(Nat->Prop)->Wd->α->Prop):Prop :=
 ∀ (F G:Nat->Prop) (Y Z:Wd) (x:α),NIn F Y x->(∀ k cur T',F k->Y.heap[k]?=some (.cells cur T' (0,0))->T'≠T->T'≠TS->Z.heap[k]?=Y.heap[k]?)->(∀ k,F k->G k)->NIn G Z x
theorem Gath.iter {α σ:Type} {E:Enc α} {T TS B n0 L:Nat} {W:Wd} {NIn:(Nat->Prop)->Wd->α->Prop} {f:σ->List α->Prop} (hN:zja T TS NIn) (hB:B<=n0) :
  JG n0 (fun _=>False) (fun (s:σ) F Y=>∃ xs,f s xs/\Gath E T TS B n0 L W NIn xs F Y):=by
 refine⟨?_,?_⟩
 ·rintro s F A C ⟨xs,hf,h⟩ hs;have sf:∀ k,F k->k<A.heap.size->C.heap[k]?=A.heap[k]?:=fun k hk hl=>hs.same k hl (.inr hk);obtain⟨p,c,h1,h2,h3⟩:=h.row;exact⟨xs,hf,UL h.size hs.size,h.inL,fun k hk=>nL (h.lt k hk) hs.size,⟨p,c,(sf L h.inL (h.lt L h.inL)).trans h1,h2.same fun a ha=>sf _ (h3 a ha) (h.lt _ (h3 a ha)),h3⟩,
   fun x hx=>hN F F A C x (h.nest x hx) (fun k _ _ hk _ _ _=>sf k hk (h.lt k hk)) fun k h=>h,h.old.trans ⟨hs.os,hs.tape,hs.output,hs.size,fun k hk=>hs.same k (nL (nL hk hB) h.size) (.inl ⟨by omega,fun h=>h⟩)⟩⟩
 ·rintro s F A k ⟨xs,_,h⟩ hk;exact⟨h.lt k hk,fun h=>h⟩
theorem Gath.stepX {α:Type} {E:Enc α} {P:Program} {T TS B n0 L ty cap1:Nat} {W Y2 Y3:Wd} {NIn:(Nat->Prop)->Wd->α->Prop} {xs:List α} {F:Nat->Prop} {iT iS:TI} {z:List Value} (hN:zja T TS NIn) (hne:T≠TS)
  (hu:P.underlying TS=some (.slice T)) (hT:TIok P T iT) (hz:iT.zero=some z) (hs:iT.size=E.sz) (hzl:z.length=E.sz) (hS:TIok P TS iS) (hS1:iS.size=1)
  (h:Gath E T TS B n0 L W NIn xs F Y2) (hB:B<=n0) (hL:B<=L) (hb3:Bw Y2 Y3) (nx:α) (hl:xs.length+1<=4611686018427387904) (hby:(xs.length+1)*iT.bytes<=140737488355328)
  (zw:∀ (G:Nat->Prop) (Z:Wd),(∀ k,Y2.heap.size<=k->k<Y3.heap.size->Z.heap[k]?=Y3.heap[k]?)->(∀ k,Y2.heap.size<=k->k<Y3.heap.size->G k)->(∀ k cur T',F k->Y2.heap[k]?=some (.cells cur T' (0,0))->T'≠T->T'≠TS->Z.heap[k]?=Y2.heap[k]?)->(∀ k,F k->G k)->NIn G Z nx) :
  ∀ p c,Y2.heap[L]?=some (.cells [.slice p xs.length c].toArray TS (0,0)) ->
  ∃ v Y5,(Builtin.append_ #[TS,TS] ty #[.slice p xs.length c,.slice (some ⟨Y3.heap.size,0,none⟩) 1 cap1]).run P (Y3.alloc (.cells (E.enc nx).toArray T)) = .ok v Y5 /\
   ∃ Z,(storeVar TS ⟨L,0,none⟩ v).run P Y5 = .ok () Z/\∃ F',Gath E T TS B n0 L W NIn (xs++[nx]) F' Z/\KeepsG F F' Y2 Z/\∀ k,F k->F' k:=by
 intro p c h4;obtain⟨p',c',h4',h5,h6⟩:=h.row;rw [h4] at h4';simp at h4';obtain⟨rfl,rfl⟩:=h4';have h1:=h.size;have h2:=h.inL;have h3:=h.lt;have hba:Bw Y3 (Y3.alloc (.cells (E.enc nx).toArray T)):=zba _ _;have sa:(Y3.alloc (.cells (E.enc nx).toArray T)).heap.size=Y3.heap.size+1:=wz _ _;have s3:Y2.heap.size<=Y3.heap.size:=hb3.size;have hb2:Bw Y2 (Y3.alloc (.cells (E.enc nx).toArray T)):=hb3.trans (hba.mono s3);have hap:SatR ((Builtin.append_ #[TS,TS] ty #[.slice p xs.length c,.slice (some ⟨Y3.heap.size,0,none⟩) 1 cap1]).run P (Y3.alloc (.cells (E.enc nx).toArray T))) fun v Y5=>∃ p2 c2,v = .slice p2 (xs++[nx]).length c2/\OwnS E T B Y5 p2 c2 (xs++[nx])/\(Y3.alloc (.cells (E.enc nx).toArray T)).grownBy Y5 (Value.slice p xs.length c).ownBlock/\∀ a,p2=some a->p=some a\/a.block=(Y3.alloc (.cells (E.enc nx).toArray T)).heap.size :=
  jJ (E:=E) (T:=T) (B:=B) (l:=xs) (news:=[nx]) (cap:=c) (m:=1) hu hT hz hs hzl (h5.below hb2) rfl (by
   have:=zi6 (w:=Y3) (cs:=(E.enc nx).toArray) (t:=T);simpa using this) (by omega) (by omega) hby fun p2 c2 Y5 o5 g5 hb5 hat=>⟨p2,c2,rfl,o5,g5,hat⟩
 obtain⟨v,Y5,hrun,p2,c2,rfl,o5,g5,hat⟩:=hap;have pb:∀ {k:Nat},(Value.slice p xs.length c).ownBlock=some k->∃ a,p=some a/\a.block=k:=fun {k} e=>by
  cases hp:p with
  | none=>rw [hp] at e;simp [Value.ownBlock] at e
  | some a =>
   rw [hp] at e;simp only [Value.ownBlock,KY] at e;exact⟨a,rfl,e⟩
 have h4':Y5.heap[L]?=some (.cells [.slice p xs.length c].toArray TS (0,0)):=by
  refine (g5.block L (hlt (zb hb2 h4)) fun e=>?_).trans (zb hb2 h4);obtain⟨a,hp,e⟩:=pb e.symm;obtain⟨_,_,cur,hcur⟩:=zx h5 hp;rw [e,h4] at hcur;simp at hcur;exact hne hcur.2.symm
 have hst:SatR ((storeVar TS ⟨L,0,none⟩ (.slice p2 (xs++[nx]).length c2)).run P Y5) fun _ Z=>Z.heap[L]?=some (.cells [.slice p2 (xs++[nx]).length c2].toArray TS (0,0))/\Y5.grownBy Z (some L)/\Z.heap.size=Y5.heap.size :=
  zm hS h4' (o:=0) (v := .slice p2 (xs++[nx]).length c2) rfl hS1 (by show 0<1;decide) rfl fun Z fZ gZ sZ=>⟨fZ,gZ,sZ⟩
 obtain⟨u,Z,hrun2,fZ,gZ,sZ⟩:=hst;have s5:=g5.size;refine⟨_,Y5,hrun,Z,hrun2,fun k=>F k\/(Y2.heap.size<=k/\k<Z.heap.size),?_⟩;have wr:∀ k,k<Y2.heap.size->k≠L->(∀ a,p=some a->k≠a.block)->Z.heap[k]?=Y2.heap[k]?:=fun k hk hne hnp=>by
  refine (gZ.block k (by omega) (by simpa using hne)).trans ((g5.block k (by omega) fun e=>?_).trans (hb2.block k hk));obtain⟨a,hp,e⟩:=pb e.symm;exact hnp a hp e.symm
 have new:∀ k,Y2.heap.size<=k->k<Y3.heap.size->Z.heap[k]?=Y3.heap[k]?:=fun k hk1 hk2=>by
  have hL2:=h3 L h2;refine (gZ.block k (by omega) (by simp;omega)).trans ((g5.block k (by omega) fun e=>?_).trans (hba.block k hk2));obtain⟨a,hp,e⟩:=pb e.symm;have:=h3 _ (h6 a hp);omega
 have ty':∀ k cur T',F k->Y2.heap[k]?=some (.cells cur T' (0,0))->T'≠T->T'≠TS->Z.heap[k]?=Y2.heap[k]?:=fun k cur T' hk hc t1 t2=>by
  refine wr k (h3 k hk) (fun e=>?_) fun a ha e=>?_
  ·rw [e,h4] at hc;simp at hc;exact t2 hc.2.symm
  ·obtain⟨_,_,cur',hcur'⟩:=zx h5 ha;rw [<- e,hc] at hcur';simp at hcur';exact t1 hcur'.2
 refine⟨⟨by omega,.inl h2,fun k hk=>?_,⟨p2,c2,fZ,o5.kept gZ fun g hg e=>?_,fun a ha=>?_⟩,fun y hy=>?_,?_⟩,⟨gZ.os.trans (g5.os.trans hb2.os),gZ.tape.trans (g5.tape.trans hb2.tape),gZ.output.trans (g5.output.trans hb2.output),by omega,fun k hk hf=>wr k hk (fun e=>hf (by rw [e];exact h2)) (fun a ha e=>hf (by rw [e];exact h6 a ha)),fun k hk=>hk.imp id fun h=>h.1⟩,fun k hk => .inl hk⟩
 ·rcases hk with hk | hk
  ·have:=h3 k hk;omega
  ·exact hk.2
 ·obtain⟨_,_,cur,hcur⟩:=zx o5 hg;simp only [KY] at e;have hcur:Y5.heap[g]?=_:=hcur;rw [<- e,h4'] at hcur;simp at hcur;exact hne hcur.2.symm
 ·rcases hat a ha with h | h
  ·exact .inl (h6 a h)
  ·have:=(zx o5 ha).2.1;exact .inr ⟨by omega,by omega⟩
 ·rcases QQ.1 hy with hy | hy
  ·exact hN F _ Y2 Z y (h.nest y hy) ty' fun k hk => .inl hk
  ·simp only [KA] at hy;subst hy;exact zw _ Z new (fun k hk1 hk2 => .inr ⟨hk1,by omega⟩) ty' fun k hk => .inl hk
 ·refine h.old.trans ⟨gZ.os.trans (g5.os.trans hb2.os),gZ.tape.trans (g5.tape.trans hb2.tape),gZ.output.trans (g5.output.trans hb2.output),by omega,fun k hk=>wr k (by omega) (by omega) fun a ha=>?_⟩;have:=(zx h5 ha).1;omega
theorem Gath.step {α:Type} {E:Enc α} {P:Program} {T TS B n0 L ty cap1:Nat} {W Y2 Y3:Wd} {NIn:(Nat->Prop)->Wd->α->Prop} {xs:List α} {F:Nat->Prop} {iT iS:TI} {z:List Value} (hN:zja T TS NIn) (hne:T≠TS)
  (hu:P.underlying TS=some (.slice T)) (hT:TIok P T iT) (hz:iT.zero=some z) (hs:iT.size=E.sz) (hzl:z.length=E.sz) (hS:TIok P TS iS) (hS1:iS.size=1)
  (h:Gath E T TS B n0 L W NIn xs F Y2) (hB:B<=n0) (hL:B<=L) (hb3:Bw Y2 Y3) (nx:α) (hl:xs.length+1<=4611686018427387904) (hby:(xs.length+1)*iT.bytes<=140737488355328)
  (zw:∀ (G:Nat->Prop) (Z:Wd),(∀ k,Y2.heap.size<=k->k<Y3.heap.size->Z.heap[k]?=Y3.heap[k]?)->(∀ k,Y2.heap.size<=k->k<Y3.heap.size->G k)->NIn G Z nx) :
  ∀ p c,Y2.heap[L]?=some (.cells [.slice p xs.length c].toArray TS (0,0)) ->
  ∃ v Y5,(Builtin.append_ #[TS,TS] ty #[.slice p xs.length c,.slice (some ⟨Y3.heap.size,0,none⟩) 1 cap1]).run P (Y3.alloc (.cells (E.enc nx).toArray T)) = .ok v Y5 /\
   ∃ Z,(storeVar TS ⟨L,0,none⟩ v).run P Y5 = .ok () Z/\∃ F',Gath E T TS B n0 L W NIn (xs++[nx]) F' Z/\KeepsG F F' Y2 Z/\∀ k,F k->F' k :=
 h.stepX hN hne hu hT hz hs hzl hS hS1 hB hL hb3 nx hl hby fun G Z h1 h2 _ _=>zw G Z h1 h2
end Go.Vc
namespace Go.Proofs.YtkpaomeeknegpaaGreatDoor
open Go.Vc Go.RowKit Go.Sei
abbrev z6 (X : Wd) (b : Nat) (r : RelD) : Prop := X.heap[b]? = some (.cells (zf r).toArray 39 (0, 0))
def StO (pre : List (List Nat)) (vs : List Value) (W : Wd) : Prop := ∃ l q c, pre.getLast? = some l ∧ vs = [.slice q l.length c] ∧ SlR zA W q l ∧ (q = none → c = 0) ∧ ∀ a, q = some a → ∃ cur, W.heap[a.block]? = some (.cells cur 3 (0, 0))
section
variable {yl n0 n bB : Nat} {J Jx : List (List Nat) → (Nat → Prop) → Wd → Prop} {xs : List (List Nat)} {r : RelD}
theorem zp5 (hJ : JG n0 (fun _ => False) J) (hn0 : ∀ pre F X, J pre F X → n0 ≤ X.heap.size) (hy : ∀ pre x vs F W1, J pre F W1 → StO (pre ++ [x]) vs W1 → (pre ++ [x]) <+: xs → YieldR PG yl vs.toArray W1 fun v W2 =>
      (v = .bool true ∧ ∃ F', J (pre ++ [x]) F' W2 ∧ KeepsG F F' W1 W2) ∨ (v = .bool false ∧ ∃ F', Jx (pre ++ [x]) F' W2)) (hr : zG r.to) (hn : n ≤ 48) (ht0 : 1 < n0) :
    ∀ (m left : Nat) (l : List Nat) (g : Nat) (pre : List (List Nat)) (F : Nat → Prop) (X : Wd), (els left).length ≤ m → left < 2 ^ 64 → (∀ i ∈ els left, i < 48) → l.length + (els left).length ≤ n → OwnS zA 3 n0 X (some ⟨g, 0, none⟩) n l → ¬ F g → J pre F X → z6 X bB r → ¬ F bB → n0 ≤ bB → bB ≠ g → Tz64M X → ¬ F 1 → (pre ++ zav r.to m left l) <+: xs →
      Calls PG 180 #[At0 bB, s64 left, .slice (some ⟨g, 0, none⟩) l.length n, .func (.yield yl) #[] #[]] X fun e Y =>
        (e = .returned (.bool true) ∧ ∃ F', J (pre ++ zav r.to m left l) F' Y ∧ KeepsG (fun k => F k ∨ k = g) F' X Y ∧ OwnS zA 3 n0 Y (some ⟨g, 0, none⟩) n l ∧ ¬ F' g) ∨ (e = .returned (.bool false) ∧ ∃ pre' F', pre' <+: xs ∧ Jx pre' F' Y) := by
  intro m
  induction m with
  | zero =>
    intro left l g pre F X hm hlt64 h48 hln ho hFg hj hR hFb hbn hbg hT hFt hpre
    have h0 : left = 0 := by
      apply Jp
      intro h0
      rw [(jX h0 hlt64).1] at hm
      simp at hm
    subst h0
    refine jz (S := sg 56) (zbC _) (args := [At0 bB, s64 0, .slice (some ⟨g, 0, none⟩) l.length n, .func (.yield yl) #[] #[]]) Tryz.func180 rfl rfl (JR rfl) rfl ?_
    refine brT ?_
    have hs : zav r.to 0 0 l = [l] := rfl
    rw [hs] at hpre ⊢
    refine YieldR.mono (hy pre l [.slice (some ⟨g, 0, none⟩) l.length n] F X hj ⟨l, _, n, by simp, rfl, ho.row, fun h => (by cases h), fun a ha => (zx ho ha).2.2⟩ hpre) ?_
    rintro v Z (⟨rfl, F', hJZ, hKZ⟩ | ⟨rfl, F', hJZ⟩)
    · have hgl : g < X.heap.size := (zx ho rfl).2.1
      exact .inl ⟨rfl, F', hJZ, hKZ.weak fun k h => .inl h, ho.same fun a ha => by cases ha; exact hKZ.same g hgl hFg, fun h => by
        rcases hKZ.fp g h with h | h
        · exact hFg h
        · omega⟩
    · exact .inr ⟨rfl, _, F', hpre, hJZ⟩
  | succ m ih =>
    intro left l g pre F X hm hlt64 h48 hln ho hFg hj hR hFb hbn hbg hT hFt hpre
    refine jz (S := sg 56) (zbC _) (args := [At0 bB, s64 left, .slice (some ⟨g, 0, none⟩) l.length n, .func (.yield yl) #[] #[]]) Tryz.func180 rfl rfl (JR rfl) rfl ?_
    have hgl : g < X.heap.size := (zx ho rfl).2.1
    have hgn : n0 ≤ g := (zx ho rfl).1
    refine Gf (fun h => ?_) (fun h => ?_)
    · have h : left = 0 := Ux (Qb h)
      subst h
      have hs : zav r.to (m + 1) 0 l = [l] := rfl
      rw [hs] at hpre ⊢
      refine YieldR.mono (hy pre l [.slice (some ⟨g, 0, none⟩) l.length n] F X hj ⟨l, _, n, by simp, rfl, ho.row, fun h => (by cases h), fun a ha => (zx ho ha).2.2⟩ hpre) ?_
      rintro v Z (⟨rfl, F', hJZ, hKZ⟩ | ⟨rfl, F', hJZ⟩)
      · exact .inl ⟨rfl, F', hJZ, hKZ.weak fun k h => .inl h, ho.same fun a ha => by cases ha; exact hKZ.same g hgl hFg, fun h => by
        rcases hKZ.fp g h with h | h
        · exact hFg h
        · omega⟩
      · exact .inr ⟨rfl, _, F', hpre, hJZ⟩
    have h : left ≠ 0 := fun e => (KI h) (by rw [e]; rfl)
    obtain ⟨G, hG⟩ : ∃ G : Nat → List (List Nat), G = fun a => if r.to a &&& left = 0 then zav r.to m (jL left (2 ^ a)) (l ++ [a]) else [] := ⟨_, rfl⟩
    have hs : zav r.to (m + 1) left l = (els left).flatMap G := by
      rw [hG]
      show (if left = 0 then [l] else _) = _
      rw [Gm h]
    rw [hs] at hpre ⊢
    refine Gb (za5 hlt64 hT) ?_
    rintro e X1 ⟨rfl, hb1⟩
    refine ⟨Nat × List Nat × (Nat → Prop), fun s => ⟨[(0, At0 bB), (1, s64 left), (2, .slice (some ⟨g, 0, none⟩) l.length n), (3, .func (.yield yl) #[] #[]), (9, s64 s.1), (10, i64 ((els s.1).headD 0 : Nat)), (11, .bool (!(els s.1).isEmpty))], []⟩,
      fun s Z => (els left = s.2.1 ++ els s.1 ∧ s.1 < 2 ^ 64) ∧ J (pre ++ s.2.1.flatMap G) s.2.2 Z ∧ OwnS zA 3 n0 Z (some ⟨g, 0, none⟩) n l ∧ ¬ s.2.2 g ∧ z6 Z bB r ∧ ¬ s.2.2 bB ∧ Tz64M Z ∧ ¬ s.2.2 1 ∧ KeepsG (fun k => F k ∨ k = g) s.2.2 X Z, fun s => s.1, (left, [], F),
      ⟨.cons rfl (.cons rfl (.cons rfl (.cons rfl (.cons rfl (.cons rfl (.cons rfl .nil)))))), rfl⟩, ⟨⟨rfl, hlt64⟩, by show J (pre ++ []) F X1; rw [QI]; exact hJ.step _ _ _ _ hj (.below hb1), ho.below hb1, hFg, zb hb1 hR, hFb, hT.below hb1, hFt, KeepsG.below hb1 fun k h => .inl (.inl h)⟩, ?_⟩
    rintro ⟨q, don, F1⟩ Z ⟨⟨he, hq⟩, hjZ, hoZ, hgZ, hRZ, hbZ, hTZ, htZ, kZ⟩
    dsimp only at he hq hjZ hgZ hbZ htZ kZ ⊢
    have hZn := hn0 _ _ _ hjZ
    refine Gf (fun hc => ?_) (fun hc => ?_)
    · have h0 := zfj hq hc
      obtain ⟨e1, e2, _, e3⟩ := jX h0 hq
      have hd := (zbV h0 hq).1
      have hmem : ctz q ∈ els left := by rw [he, e1]; simp
      have hc48 : ctz q < 48 := h48 _ hmem
      rw [e1] at he
      have hpa : ∀ t, (don ++ [ctz q]).flatMap t = don.flatMap t ++ t (ctz q) := fun t : Nat → List (List Nat) => by
        rw [Kg, KR, Qo, QI]
      have next : ∀ {Y : Wd} {F2 : Nat → Prop}, J (pre ++ (don ++ [ctz q]).flatMap G) F2 Y → OwnS zA 3 n0 Y (some ⟨g, 0, none⟩) n l → ¬ F2 g → z6 Y bB r → ¬ F2 bB → Tz64M Y → ¬ F2 1 → KeepsG (fun k => F k ∨ k = g) F2 X Y →
          ∀ Y2, Below Y.heap.size Y Y2 → ((els left = (don ++ [ctz q]) ++ els (qI q) ∧ qI q < 2 ^ 64) ∧ J (pre ++ (don ++ [ctz q]).flatMap G) F2 Y2 ∧ OwnS zA 3 n0 Y2 (some ⟨g, 0, none⟩) n l ∧ ¬ F2 g ∧ z6 Y2 bB r ∧ ¬ F2 bB ∧ Tz64M Y2 ∧ ¬ F2 1 ∧ KeepsG (fun k => F k ∨ k = g) F2 X Y2) :=
        fun {Y F2} a1 a2 a3 a4 a5 a6 a7 a8 Y2 hb => ⟨⟨by rw [he]; simp, by omega⟩, hJ.step _ _ _ _ a1 (.below hb), a2.below hb, a3, zb hb a4, a5, a6.below hb, a7, a8.trans (KeepsG.below hb fun k h => .inl h)⟩
      refine DrawE.ord [18, 20] [0, 1, 2, 3, 4, 5, 6, 7, 8, 9, 10, 11, 12, 13, 14, 15, 16, 19, 17, 18, 20, 21, 22] (by kernel_rfl) ?_
      have hdZ : Below Z.heap.size Z Z.drew := (Ga _ _).drew
      refine ⟨ctz q, Gi Nat.cast hd.symm, hc48, ?_⟩
      refine ⟨_, zaI (hdr hRZ) hc48, ?_⟩
      refine ⟨_, jO (hr _ hc48) hlt64, ?_⟩
      refine Gf (fun hb => ?_) (fun hb => ?_)
      · have hb : r.to (ctz q) &&& left = 0 := Ux (Qb hb)
        have hGc : G (ctz q) = zav r.to m (jL left (2 ^ ctz q)) (l ++ [ctz q]) := by rw [hG]; exact Gn hb
        refine ⟨by omega, ((2 ^ ctz q : Nat) : Int), by rw [hd]; exact j5 (e := ctz q) (by omega), ?_⟩
        refine ⟨_, zct hlt64 (z7 (by omega)), ?_⟩
        refine ⟨⟨by decide, by decide, rfl⟩, zA.enc (ctz q), by rw [hd]; rfl, ?_⟩
        have hba : Below Z.drew.heap.size Z.drew (Z.drew.alloc (.cells (zA.enc (ctz q)).toArray 3)) := (Ga _ _).alloc (UV _) _
        refine ⟨hba, ?_⟩
        have hbA : Below Z.heap.size Z (Z.drew.alloc (.cells (zA.enc (ctz q)).toArray 3)) := hdZ.trans hba
        have hll := zaw hlt64 hmem
        refine zsy (E := zA) (l := l) (news := [ctz q]) (m := 1) Tryz.underlying62 (jZ.get 3 _ rfl) rfl (hoZ.below hbA) rfl (qN zA (ctz q)) (by
          have : 1 ≤ (els left).length := by rw [he]; simp; omega
          omega) ?_
        intro Y oY gY
        have hjY := hJ.step _ _ _ _ (hJ.step _ _ _ _ hjZ (.below hbA)) (StepG.grown gY (.inl hgn) hgZ)
        have sA : (Z.drew.alloc (.cells (zA.enc (ctz q)).toArray 3)).heap.size = Z.heap.size + 1 := QD _ _
        have hRY : z6 Y bB r := (gY.block bB (hlt (zb hbA hRZ)) (by simpa using hbg)).trans (zb hbA hRZ)
        have htl := zaX hTZ
        have hTY : Tz64M Y := zar (hTZ.below hbA) (gY.block _ (by omega) (by
          intro e
          have : 1 = g := by simpa using e
          omega))
        have hpre2 : ((pre ++ don.flatMap G) ++ zav r.to m (jL left (2 ^ ctz q)) (l ++ [ctz q])) <+: xs := by
          refine List.IsPrefix.trans ?_ hpre
          rw [he, ← hGc, Kg, KR]
          exact ⟨(els (qI q)).flatMap G, by simp only [KN]⟩
        refine Gb (ih (qT left (2 ^ ctz q)) (l ++ [ctz q]) g (pre ++ don.flatMap G) F1 Y (by omega) (zam hlt64) (fun i hi => by
          rw [zdD hlt64 hmem] at hi
          exact h48 i (QR.1 hi).1) (by simp only [List.length_append, Qr, QM]; omega) oY hgZ hjY hRY hbZ hbn hbg hTY htZ hpre2) ?_
        rintro e V (⟨rfl, F2, hjV, kV, oV, hgV⟩ | ⟨rfl, pre', F2, hp', hjx⟩)
        · refine brF ?_
          have kZY : KeepsG (fun k => F1 k ∨ k = g) (fun k => F1 k ∨ k = g) Z Y := (KeepsG.below hbA fun k h => .inl h).trans (KeepsG.grown gY (.inr rfl))
          have kW : KeepsG (fun k => F k ∨ k = g) F2 X V := ((kZ.more (.inr rfl)).trans kZY).trans kV
          have sY := gY.size
          have kYV := kV.size
          have hbV : ¬ F2 bB := fun h => by
            have := hlt hRY
            rcases kV.fp bB h with (h | h) | h
            · exact hbZ h
            · exact hbg h
            · omega
          have htV : ¬ F2 1 := fun h => by
            rcases kV.fp _ h with (h | h) | h
            · exact htZ h
            · omega
            · omega
          have hRV : z6 V bB r := (kV.same bB (hlt hRY) (fun h => h.elim hbZ hbg)).trans hRY
          have hTV : Tz64M V := zar hTY (kV.same _ (by omega) (fun h => h.elim htZ fun e => by omega))
          refine ⟨((q - 1 : Nat) : Int), (w64 (a := (q : Int) - 1) (by omega)).trans (by omega), ?_⟩
          refine ⟨((qI q : Nat) : Int), jO (a := q) (b := q - 1) hq (by omega), ?_⟩
          refine Gb (za5 (s := qI q) (by omega) hTV) ?_
          rintro e U ⟨rfl, hbU⟩
          exact ⟨(qI q, don ++ [ctz q], F2), ⟨.cons rfl (.cons rfl (.cons rfl (.cons rfl (.cons rfl (.cons rfl (.cons rfl .nil)))))), rfl⟩, next (by rw [hpa, hGc, ← KN]; exact hjV) oV.pref hgV hRV hbV hTV htV kW U hbU, e2⟩
        · refine brT ?_
          exact .inr ⟨rfl, pre', F2, hp', hjx⟩
      · have hb : ¬ r.to (ctz q) &&& left = 0 := fun e => (KI hb) (by rw [e]; rfl)
        have hGc : G (ctz q) = [] := by rw [hG]; exact Gm hb
        refine brF ?_
        refine ⟨((q - 1 : Nat) : Int), (w64 (a := (q : Int) - 1) (by omega)).trans (by omega), ?_⟩
        refine ⟨((qI q : Nat) : Int), jO (a := q) (b := q - 1) hq (by omega), ?_⟩
        refine Gb (za5 (s := qI q) (by omega) (hTZ.below hdZ)) ?_
        rintro e Y ⟨rfl, hbY⟩
        exact ⟨(qI q, don ++ [ctz q], F1), ⟨.cons rfl (.cons rfl (.cons rfl (.cons rfl (.cons rfl (.cons rfl (.cons rfl .nil)))))), rfl⟩, next (by rw [hpa, hGc, QI]; exact hjZ) hoZ hgZ hRZ hbZ hTZ htZ kZ Y (hdZ.trans hbY), e2⟩
    · have hc : (els q).isEmpty = true := by simpa using hc
      have := zc8 hq hc
      subst this
      rw [zao, QI] at he
      rw [he]
      exact .inl ⟨rfl, F1, hjZ, kZ, hoZ, hgZ⟩
end
def evE:Enc Ev:=⟨fun e=>[i64 e.th,u8 e.k,u8 e.l,u8 e.v,u8 e.m,u8 e.i,u8 e.p],7,fun _=>rfl,by decide,fun a u hu=>by
 simp only [UB,Qu,Gk] at hu;rcases hu with rfl | rfl | rfl | rfl | rfl | rfl | rfl <;> rfl⟩
def seg (n:Nat) (f:Nat->Value):List Value:=(List.range n).map f
def zeC (f:Nat->Ev):List Value:=((List.range 24).map f).flatMap evE.enc
def qQ (R:RunD):List Value:=i64 R.pc::(seg 8 (fun i=>u8 (R.regs i))++(seg 8 (fun i=>s32 (R.deps i))++([s32 R.ctl,i64 R.many]++(zeC R.ev ++
 (seg 24 (fun i=>s32 (R.data i))++(seg 24 (fun i=>s32 (R.ctrl i))++seg 24 (fun i=>s32 (R.att i))))))))
theorem zE (n:Nat) (f:Nat->Value):(seg n f).length=n:=by unfold seg;rw [QL,KU]
theorem zcd (f:Nat->Ev):(zeC f).length=168:=by
 unfold zeC;rw [qE,QL,KU];rfl
theorem zbK {n:Nat} (f:Nat->Value) {i:Nat} (h:i<n):(seg n f)[i]?=some (f i):=by
 unfold seg;rw [KT,Kh h];rfl
theorem zjn {n:Nat} (f g:Nat->Value) {i:Nat} (h:i<n) (hg:g i=g i) (hs:∀ j,j≠i->g j=f j):(seg n f).set i (g i)=seg n g:=by
 apply KO;intro j;by_cases hj:j<n
 ·rw [zbK g hj];by_cases e:i=j
  ·subst e;rw [JD (by rw [zE];exact h)]
  ·rw [JU e,zbK f hj,hs j (fun h=>e h.symm)]
 ·rw [JJ (by rw [QN,zE];omega),JJ (by rw [zE];omega)]
theorem jc {A B:List Value} {n i:Nat} (h:A.length=n):(A++B)[n+i]?=B[i]?:=by
 rw [Jn (by omega),h,Jz]
theorem zgG {B:List Value} {n i:Nat} {f:Nat->Value} (h:i<n):(seg n f++B)[i]?=some (f i):=by
 rw [Jr (by rw [zE];exact h),zbK f h]
theorem qH {A B:List Value} {n i:Nat} (h:A.length=n) {v:Value}:(A++B).set (n+i) v=A++B.set i v:=by
 rw [JO _ _ (by omega),h,Jz]
theorem zeP {B:List Value} {n i:Nat} {f:Nat->Value} (g:Nat->Value) (h:i<n) (hs:∀ j,j≠i->g j=f j):(seg n f++B).set i (g i)=seg n g++B:=by
 rw [List.set_append_left _ _ (by rw [zE];exact h),zjn f g h rfl hs]
theorem jG (R:RunD):(qQ R).length=259:=by
 unfold qQ;simp only [Qr,lap,zE,zcd,QM]
section
variable (R:RunD)
theorem zrd {i:Nat} (h:i<8):(qQ R)[1+i]?=some (u8 (R.regs i)):=by
 unfold qQ;rw [UJ,Jw,zgG h]
theorem zre {i:Nat} (h:i<8):(qQ R)[9+i]?=some (s32 (R.deps i)):=by
 unfold qQ;rw [show 9+i=(8+i)+1 by omega,Jw,jc (zE _ _),zgG h]
theorem zg1:∃ A,A.length=16/\qQ R=i64 R.pc::(A++([s32 R.ctl,i64 R.many]++(zeC R.ev++(seg 24 (fun i=>s32 (R.data i))++(seg 24 (fun i=>s32 (R.ctrl i))++seg 24 (fun i=>s32 (R.att i))))))) :=
 ⟨seg 8 (fun i=>u8 (R.regs i))++seg 8 (fun i=>s32 (R.deps i)),by rw [lap,zE,zE],by unfold qQ;rw [KN]⟩
theorem zmO:(qQ R)[17]?=some (s32 R.ctl):=by
 obtain⟨A,hA,e⟩:=zg1 R;rw [e];exact (jc (i:=0) hA).trans rfl
theorem zbN:(qQ R)[18]?=some (i64 R.many):=by
 obtain⟨A,hA,e⟩:=zg1 R;rw [e];exact (jc (i:=1) hA).trans rfl
theorem zkq {i:Nat} (h:i<24):(qQ R)[187+i]?=some (s32 (R.data i)):=by
 obtain⟨A,hA,e⟩:=zg1 R;rw [e,show 187+i=(16+(2+(168+i)))+1 by omega,Jw,jc hA,jc (A:=[s32 R.ctl,i64 R.many]) (n:=2) rfl,jc (zcd _),zgG h]
theorem zkr {i:Nat} (h:i<24):(qQ R)[211+i]?=some (s32 (R.ctrl i)):=by
 obtain⟨A,hA,e⟩:=zg1 R;rw [e,show 211+i=(16+(2+(168+(24+i))))+1 by omega,Jw,jc hA,jc (A:=[s32 R.ctl,i64 R.many]) (n:=2) rfl,jc (zcd _),jc (zE _ _),zgG h]
theorem zjq {i:Nat} (h:i<24):(qQ R)[235+i]?=some (s32 (R.att i)):=by
 obtain⟨A,hA,e⟩:=zg1 R;rw [e,show 235+i=(16+(2+(168+(24+(24+i)))))+1 by omega,Jw,jc hA,jc (A:=[s32 R.ctl,i64 R.many]) (n:=2) rfl,jc (zcd _),jc (zE _ _),jc (zE _ _),zbK _ h]
theorem zg2 (n:Nat):(qQ R).set 0 (i64 n)=qQ { R with pc:=n }:=rfl
theorem zkm {i:Nat} (h:i<8) (v:UInt8):(qQ R).set (1+i) (u8 v)=qQ { R with regs:=upd R.regs i v }:=by
 unfold qQ;rw [UJ,KC];have:=zeP (B:=seg 8 (fun i=>s32 (R.deps i))++([s32 R.ctl,i64 R.many]++(zeC R.ev++(seg 24 (fun i=>s32 (R.data i))++(seg 24 (fun i=>s32 (R.ctrl i))++seg 24 (fun i=>s32 (R.att i))))))) (f:=fun i=>u8 (R.regs i)) (fun j=>u8 (upd R.regs i v j)) h (fun j hj=>by rw [qr _ _ hj]);rw [zP] at this;rw [this]
theorem zkn {i:Nat} (h:i<8) (v:Nat):(qQ R).set (9+i) (s32 v)=qQ { R with deps:=upd R.deps i v }:=by
 unfold qQ;rw [show 9+i=(8+i)+1 by omega,KC,qH (zE _ _)];have:=zeP (B:=[s32 R.ctl,i64 R.many]++(zeC R.ev++(seg 24 (fun i=>s32 (R.data i))++(seg 24 (fun i=>s32 (R.ctrl i))++seg 24 (fun i=>s32 (R.att i)))))) (f:=fun i=>s32 (R.deps i)) (fun j=>s32 (upd R.deps i v j)) h (fun j hj=>by rw [qr _ _ hj]);rw [zP] at this;rw [this]
theorem zko (v:Nat):(qQ R).set 17 (s32 v)=qQ { R with ctl:=v }:=by
 unfold qQ;show i64 R.pc::(seg 8 (fun i=>u8 (R.regs i))++_).set (8+(8+0)) (s32 v)=_;rw [qH (zE _ _),qH (zE _ _)];rfl
theorem zjp (v:Nat):(qQ R).set 18 (i64 v)=qQ { R with many:=v }:=by
 unfold qQ;show i64 R.pc::(seg 8 (fun i=>u8 (R.regs i))++_).set (8+(8+1)) (i64 v)=_;rw [qH (zE _ _),qH (zE _ _)];rfl
theorem zeR {i:Nat} (h:i<24) (v:Nat):(qQ R).set (187+i) (s32 v)=qQ { R with data:=upd R.data i v }:=by
 unfold qQ;rw [show 187+i=(8+(8+(2+(168+i))))+1 by omega,KC,qH (zE _ _),qH (zE _ _),qH (A:=[s32 R.ctl,i64 R.many]) (n:=2) rfl,qH (zcd _)];have:=zeP (B:=seg 24 (fun i=>s32 (R.ctrl i))++seg 24 (fun i=>s32 (R.att i))) (f:=fun i=>s32 (R.data i)) (fun j=>s32 (upd R.data i v j)) h (fun j hj=>by rw [qr _ _ hj]);rw [zP] at this;rw [this]
theorem zeS {i:Nat} (h:i<24) (v:Nat):(qQ R).set (211+i) (s32 v)=qQ { R with ctrl:=upd R.ctrl i v }:=by
 unfold qQ;rw [show 211+i=(8+(8+(2+(168+(24+i)))))+1 by omega,KC,qH (zE _ _),qH (zE _ _),qH (A:=[s32 R.ctl,i64 R.many]) (n:=2) rfl,qH (zcd _),qH (zE _ _)];have:=zeP (B:=seg 24 (fun i=>s32 (R.att i))) (f:=fun i=>s32 (R.ctrl i)) (fun j=>s32 (upd R.ctrl i v j)) h (fun j hj=>by rw [qr _ _ hj]);rw [zP] at this;rw [this]
theorem zkp {i:Nat} (h:i<24) (v:Nat):(qQ R).set (235+i) (s32 v)=qQ { R with att:=upd R.att i v }:=by
 unfold qQ;rw [show 235+i=(8+(8+(2+(168+(24+(24+i))))))+1 by omega,KC,qH (zE _ _),qH (zE _ _),qH (A:=[s32 R.ctl,i64 R.many]) (n:=2) rfl,qH (zcd _),qH (zE _ _),qH (zE _ _)];have:=zjn (fun i=>s32 (R.att i)) (fun j=>s32 (upd R.att i v j)) h rfl (fun j hj=>by rw [qr _ _ hj]);rw [zP] at this;rw [this]
theorem zrA {α:Type} (f:Nat->α) {n i:Nat} (h:i<n) (v:α):((List.range n).map f).set i v=(List.range n).map (upd f i v):=by
 apply KO;intro j;by_cases hj:j<n
 ·rw [KT,Kh hj];by_cases e:i=j
  ·subst e;rw [JD (by simpa using h)];show _=some (upd f i v i);rw [zP]
  ·rw [JU e,KT,Kh hj];show some (f j)=some (upd f i v j);rw [qr _ _ (fun h=>e h.symm)]
 ·rw [JJ (by simp;omega),JJ (by simp;omega)]
theorem zlQ {i:Nat} (h:i<24) (v:Ev):(qQ R).take (19+i*7)++evE.enc v++(qQ R).drop (19+i*7+7)=qQ { R with ev:=upd R.ev i v }:=by
 obtain⟨A,hA,e⟩:∃ A:List Value,A.length=19/\∀ ev,qQ { R with ev:=ev }=A++(zeC ev++(seg 24 (fun i=>s32 (R.data i))++(seg 24 (fun i=>s32 (R.ctrl i))++seg 24 (fun i=>s32 (R.att i))))) :=
  ⟨i64 R.pc::(seg 8 (fun i=>u8 (R.regs i))++(seg 8 (fun i=>s32 (R.deps i))++[s32 R.ctl,i64 R.many])),by
   simp only [Qr,lap,zE,QM],fun ev=>by
   unfold qQ;simp only [Qk,KN,QS]⟩
 have e1:qQ R=_:=e R.ev;rw [e1,e,<- hA,List.take_length_add_append,UC,Jj];have:=zla (E:=evE) ((List.range 24).map R.ev) (i:=i) (by simpa using h) v (seg 24 (fun i=>s32 (R.data i))++(seg 24 (fun i=>s32 (R.ctrl i))++seg 24 (fun i=>s32 (R.att i))));rw [zrA _ h] at this;unfold zeC;rw [KN,KN,<- this,KN];rfl
end
theorem zqb (f:Nat->Ev) {i:Nat} (h:i<24):((zeC f).drop (i*7)).take 7=evE.enc (f i):=by
 unfold zeC;have:=zff (E:=evE) ((List.range 24).map f) i (by simpa using h);rw [Qp,Ky] at this;exact this
theorem zmN {R:RunD} {w:Wd} {b:Nat} {t:TypeId} (f:w.heap[b]?=some (.cells (qQ R).toArray t (0,0))):zK w ⟨b,19,none⟩ (zeC R.ev):=by
 have h:=za f;unfold qQ at h;have h1:=zR (n:=19) (m:=168) h;have e:((i64 R.pc::(seg 8 (fun i=>u8 (R.regs i))++(seg 8 (fun i=>s32 (R.deps i))++([s32 R.ctl,i64 R.many]++(zeC R.ev++(seg 24 (fun i=>s32 (R.data i))++(seg 24 (fun i=>s32 (R.ctrl i))++seg 24 (fun i=>s32 (R.att i))))))))).drop 19).take 168=zeC R.ev:=by
  show ((seg 8 (fun i=>u8 (R.regs i))++_).drop (8+(8+2))).take 168=_;have d:∀ {A B:List Value} {n i:Nat},A.length=n->(A++B).drop (n+i)=B.drop i:=fun {A B n i} h=>by rw [<- h,Jj]
  rw [d (zE _ _),d (zE _ _)];show (zeC R.ev++_).take 168=_;rw [QV (zcd _)]
 rw [<- e];exact h1
def bs (l:List UInt8):ByteArray:=⟨l.toArray⟩
def qG (l:List UInt8):Value := .string (bs l)
theorem zss (l:List UInt8):(bs l).data.toList=l:=rfl
theorem jp (x y:Operand) (a b:List UInt8) (w:Wd):(do eqGuard .eql 9 x y (qG a) (qG b);binOp .eql 9 (qG a) (qG b)).run PG w = .ok (.bool (decide (a=b))) w:=by
 have h1:(eqGuard .eql 9 x y (qG a) (qG b)).run PG w = .ok () w:=rfl;rw [US,h1,KZ];show (Op.stringOp .eql (bs a) (bs b)).run PG w=_;simp only [Op.stringOp,UT,ByteArray.toList_eq,zss];have hd:(a == b)=decide (a=b):=by by_cases h:a=b <;> simp [h]
 rw [hd]
def zl7:Enc (List UInt8):=⟨fun l=>[qG l],1,fun _=>rfl,by decide,fun a u hu=>by
 simp only [UB,Qu,Gk] at hu;subst hu;rfl⟩
def zF:Enc InsD:=⟨fun x=>[u8 x.op,u8 x.dst,u8 x.loc,.bool x.ar,u8 x.an,.bool x.br,u8 x.bn,u8 x.fn,u8 x.mode,u8 x.skip],10,fun _=>rfl,by decide,fun a u hu=>by
 simp only [UB,Qu,Gk] at hu;rcases hu with rfl | rfl | rfl | rfl | rfl | rfl | rfl | rfl | rfl | rfl <;> rfl⟩
abbrev zqS:=List InsD×OA×Nat
def zo8 (x:zqS):Value := .slice x.2.1 x.1.length x.2.2
def zs3:Enc zqS:=⟨fun x=>[zo8 x],1,fun _=>rfl,by decide,fun a u hu=>by
 simp only [UB,Qu,Gk] at hu;subst hu;rfl⟩
def zbn (c:Cnd) (p:OA) (cap:Nat):List Value:=[u8 c.kind,u8 c.thread,u8 c.n,u8 c.val,.slice p c.kids.length cap]
inductive KidsV (B:Nat) (w:Wd):OA->List Cnd->Prop
 | mk (p:OA) (kids:List Cnd) (hn:kids.length*32<=140737488351232) (b o:Nat) (hp:kids.length=0\/p=some ⟨b,o,none⟩) (q:Nat->OA) (c:Nat->Nat)
   (hk:∀ i (h:i<kids.length),b<B/\zK w ⟨b,o+i*5,none⟩ (zbn kids[i] (q i) (c i)))
   (ht:∀ i (h:i<kids.length),KidsV B w (q i) kids[i].kids):KidsV B w p kids
theorem KidsV.inv {B:Nat} {w:Wd} {p:OA} {kids:List Cnd} (h:KidsV B w p kids):kids.length*32<=140737488351232/\∃ b o,(kids.length=0\/p=some ⟨b,o,none⟩) /\
  ∀ i (h:i<kids.length),∃ q c,b<B/\zK w ⟨b,o+i*5,none⟩ (zbn kids[i] q c)/\KidsV B w q kids[i].kids:=by
 cases h with
 | mk _ _ hn b o hp q c hk ht=>exact⟨hn,b,o,hp,fun i hi=>⟨q i,c i,(hk i hi).1,(hk i hi).2,ht i hi⟩⟩
theorem KidsV.kept {B:Nat} {w w2:Wd} {p:OA} {kids:List Cnd} (h:KidsV B w p kids) (hb:Below B w w2):KidsV B w2 p kids:=by
 induction h with
 | mk p kids hn b o hp q c hk ht ih=>exact .mk p kids hn b o hp q c (fun i hi=>⟨(hk i hi).1,zU hb (hk i hi).1 (hk i hi).2⟩) ih
theorem KidsV.wider {B B':Nat} {w:Wd} {p:OA} {kids:List Cnd} (h:KidsV B w p kids) (hb:B<=B'):KidsV B' w p kids:=by
 induction h with
 | mk p kids hn b o hp q c hk ht ih=>exact .mk p kids hn b o hp q c (fun i hi=>⟨nL (hk i hi).1 hb,(hk i hi).2⟩) ih
def ThrsV (B:Nat) (w:Wd) (p:OA) (l:List (List InsD)):Prop:=∃ xs:List zqS,xs.map (·.1)=l/\RowB zs3 B w p xs/\∀ x∈xs,RowB zF B w x.2.1 x.1
theorem ThrsV.below {B:Nat} {w w2:Wd} {p:OA} {l:List (List InsD)} (h:ThrsV B w p l) (hb:Below B w w2):ThrsV B w2 p l:=by
 obtain⟨xs,h1,h2,h3⟩:=h;exact⟨xs,h1,h2.below hb,fun x hx=>(h3 x hx).below hb⟩
theorem ThrsV.mono {B B':Nat} {w:Wd} {p:OA} {l:List (List InsD)} (h:ThrsV B w p l) (hb:B<=B'):ThrsV B' w p l:=by
 obtain⟨xs,h1,h2,h3⟩:=h;exact⟨xs,h1,h2.mono hb,fun x hx=>(h3 x hx).mono hb⟩
def ju (p:Prg) (p1:OA) (c1:Nat) (p2:OA) (c2:Nat) (p3:OA) (c3:Nat) (p4:OA) (c4:Nat):List Value :=
 [qG p.name,.slice p1 p.locs.length c1,.slice p2 p.init.length c2,.slice p3 p.threads.length c3,u8 p.ask,u8 p.cond.kind,u8 p.cond.thread,u8 p.cond.n,u8 p.cond.val,.slice p4 p.cond.kids.length c4]
structure PrgLen (p:Prg):Prop where
 name:p.name.length<=140737488351232
 locs:p.locs.length<=140737488351232
 loc:∀ s∈p.locs,s.length<=140737488351232
 init:p.init.length<=140737488351232
 threads:p.threads.length<=140737488351232
 thread:∀ l∈p.threads,l.length<=140737488351232
structure PrgV (B:Nat) (w:Wd) (vs:List Value) (p:Prg):Prop where
 len:PrgLen p
 h:∃ p1 c1 p2 c2 p3 c3 p4 c4,vs=ju p p1 c1 p2 c2 p3 c3 p4 c4/\RowB zl7 B w p1 p.locs/\RowB zW B w p2 p.init/\ThrsV B w p3 p.threads/\KidsV B w p4 p.cond.kids/\p.locs.length<=c1
theorem PrgV.below {B:Nat} {w w2:Wd} {vs:List Value} {p:Prg} (h:PrgV B w vs p) (hb:Below B w w2):PrgV B w2 vs p:=by
 obtain⟨p1,c1,p2,c2,p3,c3,p4,c4,h0,h1,h2,h3,h4,h5⟩:=h.h;exact⟨h.len,p1,c1,p2,c2,p3,c3,p4,c4,h0,h1.below hb,h2.below hb,h3.below hb,h4.kept hb,h5⟩
theorem PrgV.mono {B B':Nat} {w:Wd} {vs:List Value} {p:Prg} (h:PrgV B w vs p) (hb:B<=B'):PrgV B' w vs p:=by
 obtain⟨p1,c1,p2,c2,p3,c3,p4,c4,h0,h1,h2,h3,h4,h5⟩:=h.h;exact⟨h.len,p1,c1,p2,c2,p3,c3,p4,c4,h0,h1.mono hb,h2.mono hb,h3.mono hb,h4.wider hb,h5⟩
theorem PrgV.size {B:Nat} {w:Wd} {vs:List Value} {p:Prg} (h:PrgV B w vs p):vs.length=10:=by
 obtain⟨p1,c1,p2,c2,p3,c3,p4,c4,rfl,_⟩:=h.h;rfl
theorem w8N (u:Nat):IntKind.u8.wrap (u:Int)=((UInt8.ofNat u).toNat:Int):=by
 rw [KH];unfold IntKind.wrap;simp only [IntKind.bits,IntKind.signed,Uh,Kt,Gj];omega
abbrev jC (X:Wd) (b:Nat) (R:RunD):Prop:=X.heap[b]?=some (.cells (qQ R).toArray 189 (0,0))
abbrev AtR (b:Nat):Value:=At0 b
section
variable {R:RunD} {b:Nat} {w:Wd}
theorem zfU {k l v m:UInt8} {d:Nat} (f:jC w b R) (hm:R.many<24):Calls PG 207 #[AtR b,u8 k,u8 l,u8 v,u8 m,s32 d] w fun e w' =>
  e = .returned (i64 R.many)/\jC w' b (j4 R k l v m d)/\w.grownBy w' (some b)/\w'.heap.size=w.heap.size:=by
 refine zI 58 [AtR b,u8 k,u8 l,u8 v,u8 m,s32 d] Tryz.func207 ?_;refine⟨_,zc (za f) (i:=18) (zbN R),?_⟩;refine DrawE.ord [17] [0,1,2,3,4,5,6,7,8,9,10,11,12,13,14,15,16,17] (by kernel_rfl) ?_;refine⟨_,zc (za (hdr f)) (i:=0) rfl,?_⟩;refine⟨_,w8N _,?_⟩;refine⟨_,w8N _,?_⟩;obtain⟨ev,hev⟩:∃ ev:Ev,ev=⟨0,k,l,v,m,UInt8.ofNat R.pc,UInt8.ofNat R.many⟩:=⟨_,rfl⟩;refine⟨evE.enc ev,by rw [hev];rfl,?_⟩;refine⟨R.many,rfl,hm,?_⟩;refine j6 k49 (hdr f) (o:=0+19+R.many*7) (v := .agg (evE.enc ev).toArray) rfl (by
  show 0+19+R.many*7+7<=(qQ R).length;rw [jG];omega) rfl fun Y fY gY sY=>?_
 have fY:jC Y b { R with ev:=upd R.ev R.many ev }:=by
  show Y.heap[b]?=some (.cells (qQ { R with ev:=upd R.ev R.many ev }).toArray 189 (0,0));rw [<- zlQ R hm ev,fY,UQ];rfl
 refine⟨R.many,rfl,hm,?_⟩;refine zm zma fY (o:=0+187+R.many*1) (v:=s32 d) rfl rfl (by rw [jG];omega) rfl fun Z fZ gZ sZ=>?_;rw [UQ,UW,zeR _ hm] at fZ;refine DrawE.ord [9] [0,1,2,3,4,5,6,7,8,9] (by kernel_rfl) ?_;refine⟨_,zc (za (hdr fZ)) (i:=17) (zmO _),?_⟩;refine⟨R.many,rfl,hm,?_⟩;refine zm zma (hdr fZ) (o:=0+211+R.many*1) (v:=s32 R.ctl) rfl rfl (by rw [jG];omega) rfl fun U fU gU sU=>?_;rw [UQ,UW,zeS _ hm] at fU;refine⟨_,zc (za fU) (i:=18) (zbN _),?_⟩;refine⟨((R.many+1:Nat):Int),(ze (by show _<=((R.many:Nat):Int)+1/\((R.many:Nat):Int)+1<=_;omega)).trans rfl,?_⟩;refine zm k3 fU (o:=0+18) (v:=i64 (R.many+1:Nat)) rfl rfl (by rw [jG];decide) rfl fun V fV gV sV=>?_;rw [UQ,zjp] at fV;have gd:w.grownBy w.drew (some b):=⟨rfl,rfl,rfl,UV _,fun _ _ _=>rfl⟩;have gd2:Z.grownBy Z.drew (some b):=⟨rfl,rfl,rfl,UV _,fun _ _ _=>rfl⟩;refine⟨rfl,?_,zd (zd (zd (zd gd gY) gZ) (zd gd2 gU)) gV,?_⟩
 ·unfold j4;rw [<- hev];exact fV
 ·rw [sV,sU];show Z.heap.size=_;rw [sZ,sY];rfl
theorem zmM {d v:UInt8} {s:Nat} (f:jC w b R) (hd:d.toNat<8):Calls PG 208 #[AtR b,u8 d,u8 v,s32 s] w fun e w' =>
  e = .returned (.tuple #[])/\jC w' b (zjm R d v s)/\w.grownBy w' (some b)/\w'.heap.size=w.heap.size:=by
 refine zI 20 [AtR b,u8 d,u8 v,s32 s] Tryz.func208 ?_;refine⟨d.toNat,rfl,hd,?_⟩;refine zm k5 f (o:=0+1+d.toNat*1) (v:=u8 v) rfl rfl (by rw [jG];omega) rfl fun Y fY gY sY=>?_;rw [UQ,UW,zkm _ hd] at fY;refine⟨d.toNat,rfl,hd,?_⟩;refine zm zma fY (o:=0+9+d.toNat*1) (v:=s32 s) rfl rfl (by rw [jG];omega) rfl fun Z fZ gZ sZ=>?_;rw [UQ,UW,zkn _ hd] at fZ;exact⟨rfl,fZ,zd gY gZ,sZ.trans sY⟩
theorem zbA {r:Bool} {n:UInt8} (f:jC w b R) (hn:r=true->n.toNat<8):Calls PG 209 #[AtR b,.agg #[.bool r,u8 n]] w fun e w' =>
  e = .returned (.tuple #[u8 (qC r n R).1,s32 (qC r n R).2])/\Bw w w':=by
 refine zI 24 [AtR b,.agg #[.bool r,u8 n]] Tryz.func209 ?_;have f0:=zw w (.cells #[.bool r,u8 n] 53);have hb:Bw w (w.alloc (.cells #[.bool r,u8 n] 53)):=zba w _;refine⟨_,zc (za f0) (i:=0) rfl,?_⟩;refine biE (fun h=>?_) fun h=>?_
 ·have hn8:=hn h;have fr:=zb hb f;refine DrawE.ord [] [0,1,2,3,4,5,6,7,8,9,10,11,12,13,14,15] (by kernel_rfl) ?_;refine⟨_,zc (za (hdr f0)) (i:=1) rfl,?_⟩;refine⟨n.toNat,rfl,hn8,?_⟩;refine⟨_,by rw [UW,UC];exact zc (za (hdr fr)) (zrd R hn8),?_⟩;refine⟨_,zc (za (hdr f0)) (i:=1) rfl,?_⟩;refine⟨n.toNat,rfl,hn8,?_⟩;refine⟨_,by rw [UW,UC];exact zc (za (hdr fr)) (zre R hn8),?_⟩;refine⟨?_,hb.trans ((Ga _ _).drew)⟩;unfold qC;rw [Gn h];rfl
 ·refine⟨_,zc (za f0) (i:=1) rfl,?_⟩;refine⟨?_,hb⟩;unfold qC;rw [Gm (by rw [h];exact Ku)];rfl
end
abbrev zcC (x:InsD):Value := .agg (zF.enc x).toArray
section
variable {R:RunD} {b:Nat} {w:Wd}
theorem zn9 {x:InsD} {v:UInt8} (f:jC w b R) (hm:R.many<24) (hd:x.dst.toNat<8):Calls PG 199 #[AtR b,zcC x,u8 v] w fun e w' =>
  e = .returned (.tuple #[])/\jC w' b (zpM R x v)/\w.grownBy w' (some b):=by
 refine zI 21 [AtR b,zcC x,u8 v] Tryz.func199 ?_;have f0:=zw w (.cells (zF.enc x).toArray 55);have hb:Bw w (w.alloc (.cells (zF.enc x).toArray 55)):=zba w _;have fr:=zb hb f;have hne:w.heap.size≠b:=fun e=>by have:=hlt f;omega
 refine⟨_,zc (za f0) (i:=2) rfl,_,zc (za f0) (i:=8) rfl,cmo (zfU (k:=1) (l:=x.loc) (v:=v) (m:=x.mode) (d:=0) fr hm) ?_⟩;rintro e Y ⟨rfl,fY,gY,sY⟩;have f0Y:=(gY.block w.heap.size (hlt f0) (by simpa using hne)).trans f0;refine DrawE.ord [6] [0,1,2,3,4,5,6] (by kernel_rfl) ⟨_,zc (za (hdr f0Y)) (i:=1) rfl,by omega,_,zgv (e:=R.many) (by omega),cmo (zmM (d:=x.dst) (v:=v) (s:=2^R.many) (hdr fY) hd) ?_⟩;rintro e Z ⟨rfl,fZ,gZ,sZ⟩;have gd:Y.grownBy Y.drew (some b):=⟨rfl,rfl,rfl,UV _,fun _ _ _=>rfl⟩;exact⟨rfl,fZ,zd (zi hb) (zd gY (zd gd gZ))⟩
theorem zlR {x:InsD} {v:UInt8} (f:jC w b R) (hm:R.many<24) (ha:x.ar=true->x.an.toNat<8):Calls PG 200 #[AtR b,zcC x,u8 v] w fun e w' =>
  e = .returned (.tuple #[])/\jC w' b (zlL R x)/\w.grownBy w' (some b):=by
 refine zI 23 [AtR b,zcC x,u8 v] Tryz.func200 ?_;have f0:=zw w (.cells (zF.enc x).toArray 55);have hb:Bw w (w.alloc (.cells (zF.enc x).toArray 55)):=zba w _;have fr:=zb hb f;refine⟨[.bool x.ar,u8 x.an],rfl,qK (o:=3) (n:=2) f0,hlt f0,cmo (zbA fr ha) ?_⟩;rintro e Y ⟨rfl,hbY⟩;have f0Y:=zb hbY f0;have fY:=zb hbY fr;refine⟨_,zc (za f0Y) (i:=2) rfl,_,zc (za f0Y) (i:=8) rfl,cmo (zfU (k:=2) (l:=x.loc) (v:=(qC x.ar x.an R).1) (m:=x.mode) (d:=(qC x.ar x.an R).2) fY hm) ?_⟩;rintro e Z ⟨rfl,fZ,gZ,sZ⟩;exact⟨rfl,fZ,zd (zi hb) (zd (zi hbY) gZ)⟩
theorem zlT {x:InsD} {v:UInt8} (f:jC w b R) (hm:R.many<24):Calls PG 205 #[AtR b,zcC x,u8 v] w fun e w' =>
  e = .returned (.tuple #[])/\jC w' b (zmg R x)/\w.grownBy w' (some b):=by
 refine zI 10 [AtR b,zcC x,u8 v] Tryz.func205 ?_;have f0:=zw w (.cells (zF.enc x).toArray 55);have hb:Bw w (w.alloc (.cells (zF.enc x).toArray 55)):=zba w _;have fr:=zb hb f;refine⟨_,zc (za f0) (i:=8) rfl,cmo (zfU (k:=3) (l:=0) (v:=0) (m:=x.mode) (d:=0) fr hm) ?_⟩;rintro e Z ⟨rfl,fZ,gZ,sZ⟩;exact⟨rfl,fZ,zd (zi hb) gZ⟩
end
def zvi (x:InsD):Prop:=(x.op=1/\x.dst.toNat<8)\/(x.op=2/\(x.ar=true->x.an.toNat<8))\/x.op=7
def fnV (g:Nat):Value := .func (.func g) #[] #[]
def zr7:List Value:=[.nilFunc,fnV 199,fnV 200,fnV 201,fnV 202,fnV 203,fnV 204,fnV 205,fnV 206]
theorem zox {w:Wd}:CB 193 #[] w (.agg zr7.toArray):=by
 refine zI 2 [] Tryz.func193 ?_;have f0:=zw w (.cells (List.replicate 9 Value.nilFunc).toArray 266);have hb:Bw w (w.alloc (.cells (List.replicate 9 Value.nilFunc).toArray 266)):=zba w _;exact⟨zr7,rfl,zt (v := .agg zr7.toArray) zu2 f0 rfl rfl rfl ⟨zr7,rfl,za (zn f0),rfl,zl hb (UV _) _⟩⟩
theorem zn1 {α:Type} {E:Enc α} {w X:Wd} {q:OA} {l:List α} {b:Nat} (h:SlR E w q l) (hq:∀ a,q=some a->a.block≠b) (g:w.grownBy X (some b)):SlR E X q l:=by
 rcases h with h | ⟨b',o,h1,h2,h3⟩
 ·exact .inl h
 ·refine .inr ⟨b',o,h1,nL h2 g.size,fun i hi=>jy (g.block b' h2 (fun e=>hq _ h1 (by cases e;rfl))) (h3 i hi)⟩
theorem zpY {l:List InsD} {R:RunD} (h:l[R.pc]?=none):∀ n,goR l n R=R
 | 0=>rfl
 | n+1=>by unfold goR;rw [h]
theorem zrN {l:List InsD} {R:RunD} {x:InsD} (h:l[R.pc]?=some x) (hr:jn x=true):∀ n,goR l n R=R
 | 0=>rfl
 | n+1=>by unfold goR;rw [h];simp only [hr,Gl]
theorem zrM {l:List InsD} {R:RunD} {x:InsD} (h:l[R.pc]?=some x) (hr:jn x=false) (n:Nat):goR l (n+1) R=goR l n (zQ R x 0):=by
 show (match l[R.pc]? with | none=>R | some x=>if jn x then R else goR l n (zQ R x 0))=_;rw [h];simp only [hr,Kt,Gj]
theorem zbD {n:Nat} {f:Nat->Value} (h:∀ i,(f i).oneCell'=true):(seg n f).all Value.oneCell'=true:=by
 unfold seg;rw [Qi];intro u hu;obtain⟨i,_,rfl⟩:=UI.1 hu;exact h i
theorem znR:(zmB).toArray.size=259:=by kernel_rfl
theorem zpm (R:RunD):(qQ R).all Value.oneCell'=true:=by
 unfold qQ;rw [Uy,QH,QH,QH,QH,QH,QH,zbD fun _=>rfl,zbD fun _=>rfl,zbD fun _=>rfl,zbD fun _=>rfl,zbD fun _=>rfl];have:(zeC R.ev).all Value.oneCell'=true:=Qi.2 fun u hu=>zcE (E:=evE) _ u hu;rw [this];rfl
theorem ji {α:Type} {E:Enc α} {w X:Wd} {q:OA} {l:List α} (h:SlR E w q l) (hs:∀ a,q=some a->X.heap[a.block]?=w.heap[a.block]?):SlR E X q l:=by
 rcases h with h | ⟨b',o,h1,h2,h3⟩
 ·exact .inl h
 ·have h4:=hs _ h1;have h4:X.heap[b']?=w.heap[b']?:=h4;refine .inr ⟨b',o,h1,?_,fun i hi=>jy h4 (h3 i hi)⟩;have h5:w.heap[b']?=some w.heap[b']:=Jo h2;rw [h5] at h4;exact hlt h4
structure RowF {α:Type} (E:Enc α) (n0:Nat) (F:Nat->Prop) (X:Wd) (q:OA) (l:List α):Prop where
 row:SlR E X q l
 out:∀ a,q=some a->a.block<n0/\¬ F a.block
theorem RowF.keep {α:Type} {E:Enc α} {n0:Nat} {F F' G:Nat->Prop} {X Y:Wd} {q:OA} {l:List α} (h:RowF E n0 F X q l) (hn:n0<=X.heap.size) (k:KeepsG G F' X Y) (hG:∀ k,k<n0->G k->F k):RowF E n0 F' Y q l:=by
 refine⟨ji h.row fun a ha=>?_,fun a ha=>⟨(h.out a ha).1,fun hf=>?_⟩⟩
 ·have:=h.out a ha;exact k.same _ (by omega) fun hg=>this.2 (hG _ this.1 hg)
 ·have:=h.out a ha;rcases k.fp _ hf with h2 | h2
  ·exact this.2 (hG _ this.1 h2)
  ·omega
def StR (pre:List RunD) (vs:List Value) (W:Wd):Prop:=∃ R b,pre.getLast?=some R/\vs=[AtR b]/\jC W b R
section
variable {yl n0 cap cd:Nat} {J Jx:List RunD->(Nat->Prop)->Wd->Prop} {xs:List RunD} {l:List InsD} {dom:List UInt8} {q p:OA}
theorem zjN {w:Wd}:Calls PG 103 #[.slice q l.length cap,.slice p dom.length cd] w fun e w'=>e = .returned (.func (.func 148) #[] #[AtR w.heap.size,AtR (w.heap.size+1)])/\w'.heap[w.heap.size]?=some (.cells #[.slice q l.length cap] 51 (0,0))/\w'.heap[w.heap.size+1]?=some (.cells #[.slice p dom.length cd] 23 (0,0))/\w'.heap.size=w.heap.size+2/\Bw w w':=by
 refine zI 6 [.slice q l.length cap,.slice p dom.length cd] Tryz.func103 ?_;have s1:=wz w (.cells #[.slice q l.length cap] 51);have h2:=zw (w.alloc (.cells #[.slice q l.length cap] 51)) (.cells #[.slice p dom.length cd] 23);have s2:=wz (w.alloc (.cells #[.slice q l.length cap] 51)) (.cells #[.slice p dom.length cd] 23);rw [s1] at h2 s2;refine⟨?_,qM _ (zw w _),h2,s2,((zba w _)).alloc (by simp) _⟩;rw [<- s1];rfl
end
theorem ztJ {P:Program} {t e:TypeId} (hu:P.underlying t=some (.slice e)) (d:Nat) (a:OA) (n c:Nat) (w:Wd):(Op.equalIn (d+1) t (.slice a n c) (.slice none 0 0)).run P w = .ok a.isNone w:=by
 cases a <;> simp [Op.equalIn,Ur hu]
theorem zjH {n m:Nat} (h:n<256) (hm:Nat.ble 256 m=true):n<m:=nL h (JR hm)
theorem ztK {P:Program} {t e:TypeId} (hu:P.underlying t=some (.slice e)) (x y:Operand) (a:OA) (n c:Nat) (w:Wd):(do eqGuard .eql t x y (.slice a n c) (.slice none 0 0);binOp .eql t (.slice a n c) (.slice none 0 0):Sem Value).run P w = .ok (.bool a.isNone) w:=by
 have h:(Op.equal t (.slice a n c) (.slice none 0 0)).run P w = .ok a.isNone w:=by
  exact ztJ hu 9999 a n c w
 have h1:(eqGuard .eql t x y (.slice a n c) (.slice none 0 0)).run P w = .ok () w:=by
  simp only [eqGuard,Uu,Kt,Gj,UT]
 rw [US,h1];simp only [KZ,binOp,US,h,UT]
theorem zhh {α:Type} {E:Enc α} {T:TypeId} {w:Wd}:OwnS E T w.heap.size (w.alloc (.cells #[] T)) (some ⟨w.heap.size,0,none⟩) 0 []:=by
 unfold OwnS World.ownsRow;exact⟨by simp,.inr ⟨w.heap.size,0,#[],rfl,UV _,zw w _,UV _,UY _,by simp,by simp⟩⟩
theorem zlE {p:OA} {cap:Nat} {l:List UInt8} {w:Wd} (hl:SlR zW w p l) (hn:l.length<=1000000) (hc:p=none->cap=0) :
  Calls PG 72 #[.slice p l.length cap] w fun e w'=>(∃ q c,e = .returned (.slice q l.length c)/\OwnS zW 5 w.heap.size w' q c l)/\Bw w w':=by
 refine zI 8 [.slice p l.length cap] Tryz.func72 ?_;refine⟨_,fun w=>ztK Tryz.underlying23 _ _ p l.length cap w,?_⟩
 cases p with
 | none =>
  refine brT ?_;have e:=hl.none;subst e;exact⟨⟨none,0,rfl,OwnS.nil⟩,Ga _ _⟩
 | some a =>
  refine brF ⟨⟨by decide,by decide,rfl⟩,[],rfl,?_⟩;have hb0:Bw w (w.alloc (.cells #[] 5)):=zba w _;refine zgO (E:=zW) (T:=5) (B:=w.heap.size) (l:=[]) (news:=l) (cap:=0) Tryz.underlying23 k5 rfl rfl rfl zhh rfl (hl.below hb0) (fun h=>by cases h) hb0.size (by simp;omega) (by simp;omega) ?_;intro p' cap' w' ho hg hbw;exact⟨⟨p',cap',rfl,ho⟩,hb0.trans hbw⟩
theorem ztt {x:UInt8} {w:Wd}:Calls PG 192 #[u8 x] w fun e w'=>e = .returned (.bool false)/\w=w':=by
 refine zI 6 [u8 x] Tryz.func192 ?_;refine⟨rb ?_,rfl⟩;rw [Uq rfl];rfl
theorem jP {x y:UInt8} {w:Wd}:Calls PG 171 #[u8 x,u8 y] w fun e w'=>e = .returned (.bool (decide ((x.toNat:Int)<(y.toNat:Int))))/\w=w':=by
 refine zI 17 [u8 x,u8 y] Tryz.func171 ?_;refine cmo ztt ?_;rintro e _ ⟨rfl,rfl⟩;exact brF (brF ⟨rfl,rfl⟩)
section
variable {r:RelD}
theorem zuE {bx:Nat} {W0:Wd} (hr:zG r.to) (hn:r.n<=48) (fx:z6 W0 bx r) (hT:Tz64M W0) :
  zjb PG 179 [At0 bx] (zbt r) W0 (fun k=>k=bx\/k=1) (fun _=>False) StO:=by
 intro yl F0 J Jx W hsz hrd hrf hJ hJx hy h0;have fxW:z6 W bx r:=(hrd bx (.inl (.inl rfl))).trans fx;have hTW:Tz64M W:=zar hT (hrd _ (.inl (.inr rfl)));refine zI 17 [.func (.yield yl) #[] #[],At0 bx] Tryz.func179 ?_;refine⟨zf r,zh _,za fxW,hlt fxW,cmo (zea hr hTW) ?_⟩;rintro e X ⟨rfl,hbX⟩;refine biE (fun h=>?_) fun h=>?_
 ·have h:zaO r=false:=by
   have h:(!zaO r)=true:=h;simpa using h
  have hs:zbt r=[]:=by unfold zbt;rw [h];rfl
  rw [hs];exact⟨⟨_,rfl⟩,.inl ⟨F0,hJ.step _ _ _ _ h0 (.below hbX)⟩⟩
 have h:zaO r=true:=by
  have h:(!zaO r)=false:=h;simpa using h
 have hs:zbt r=zav (zX r).to 64 (zab r.n) []:=by unfold zbt;rw [h];rfl
 rw [hs] at hy ⊢;refine⟨zf r,zh _,za (zb hbX fxW),hlt (zb hbX fxW),cmo (zh9 hr (hTW.below hbX)) ?_⟩;rintro e Y ⟨rfl,hbY,hrB⟩;have hbXY:=zst hbX hbY;refine zq (X:=Y) (v := .agg (zf (zX r)).toArray) k39 (zh _) (by kernel_rfl) (zD _) fun V hbV fV sV=>?_;have hbV2:=zst hbXY hbV;have fxV:=zb hbV2 fxW;have hTV:=hTW.below hbV2;have hok:okR r=true:=by
  unfold zaO zeN at h
  split at h
  ·assumption
  ·simp at h
 obtain⟨p0,p48,_⟩:=jb hok;obtain⟨n,hnn⟩:∃ n:Nat,r.n=n:=⟨r.n.toNat,by omega⟩;have hn48:n<=48:=by omega
 have hal:els (zaA n)=List.range n:=zd3 (by omega);have wY:=hbXY.size;have hbVF:¬ F0 Y.heap.size:=fun h=>by have:=(hJ.lt _ _ _ _ h0 h).1;omega
 have htl:=zaX hTW;have hJn:JG W.heap.size (fun _=>False) (fun pre F Z=>J pre F Z/\W.heap.size<=Z.heap.size):=⟨fun s F A B ⟨h,hn⟩ hs=>⟨hJ.step _ _ _ _ h hs,UL hn hs.size⟩,fun s F A k ⟨h,_⟩ hk=>hJ.lt _ _ _ _ h hk⟩;have hal2:zab r.n=zaA n:=by rw [zaL,hnn]
 have main:∀ Z:Wd,OwnS zA 3 V.heap.size Z (some ⟨V.heap.size,0,none⟩) n []->Bw V Z->Calls PG 180 #[At0 Y.heap.size,s64 (zaA n),.slice (some ⟨V.heap.size,0,none⟩) 0 n,.func (.yield yl) #[] #[]] Z fun e Y2=>(∃ v,e = .returned v)/\((∃ F',J (zav (zX r).to 64 (zab r.n) []) F' Y2)\/∃ pre F',pre <+: zav (zX r).to 64 (zab r.n) []/\Jx pre F' Y2):=by
  intro Z oZ hbZ;have hbWZ:Bw W Z:=zst hbV2 hbZ;refine cmo (zp5 (l:=[]) (J:=fun pre F Z=>J pre F Z/\W.heap.size<=Z.heap.size) (Jx:=Jx) (n0:=W.heap.size) (n:=n) (bB:=Y.heap.size) (r:=zX r) (xs:=zav (zX r).to 64 (zab r.n) []) hJn (fun _ _ _ h=>h.2) (fun pre x vs F W1 ⟨hj,hn⟩ hst hpre=>YieldR.mono (hy pre x vs F W1 hj hst hpre) fun v W2 h=>?_) hrB hn48 htl 64 (zaA n) V.heap.size [] F0 Z (zfi _) (zaK _) (fun i hi=>by
   rw [hal] at hi;have:=Um.1 hi;omega) (by rw [hal];simp) (oZ.lower hbV2.size) (fun h=>?_) ⟨hJ.step _ _ _ _ h0 (.below hbWZ),hbWZ.size⟩ (zb hbZ fV) hbVF wY (by omega) (hTV.below hbZ) (hrf _ (.inr rfl)) (by rw [hal2];exact List.prefix_refl _)) ?_
  ·rcases h with ⟨rfl,F',h1,h2⟩ | h
   ·exact .inl ⟨rfl,F',⟨h1,UL hn h2.size⟩,h2⟩
   ·exact .inr h
  ·have:=(hJ.lt _ _ _ _ h0 h).1;have:=hbV2.size;omega
  ·rintro e Y2 (⟨rfl,F',⟨hj,_⟩,_⟩ | ⟨rfl,pre',F',h1,h2⟩)
   ·rw [hal2];exact⟨⟨_,rfl⟩,.inl ⟨F',hj⟩⟩
   ·exact⟨⟨_,rfl⟩,.inr ⟨pre',F',h1,h2⟩⟩
 refine DrawE.treeQ [7] (.op 0 (.op 1 (.op 3 (.op 4 (.op 6 (.alt (.op 2 (.op 5 (.op 7 .nil))) (.op 5 (.op 2 (.op 7 .nil))))))))) (by kernel_rfl) ⟨i64 n,by rw [<- hnn];exact zc (za fxV) (i:=0) rfl,i64 n,by rw [<- hnn];exact zc (za fxV) (i:=0) rfl,Gf ?_ ?_⟩
 ·refine cmo zjd ?_;rintro e _ ⟨rfl,rfl⟩;refine⟨Ga _ _,zdw (E:=zA) Tryz.underlying62 k3 rfl rfl rfl n (by show 8*n<=_;omega) (by unfold maxLen;omega) fun Z oZ hbZ sZ=>⟨hbZ,cmo (main Z oZ (((Ga _ V).drew).trans hbZ)) ?_⟩⟩;rintro e Y2 ⟨⟨v,rfl⟩,h⟩;exact⟨⟨_,rfl⟩,h⟩
 ·refine zdw (E:=zA) Tryz.underlying62 k3 rfl rfl rfl n (by show 8*n<=_;omega) (by unfold maxLen;omega) fun Z oZ hbZ sZ=>⟨hbZ,cmo zjd ?_⟩;rintro e _ ⟨rfl,rfl⟩;refine⟨Ga _ _,cmo (main Z oZ (((Ga _ V).drew).trans hbZ)) ?_⟩;rintro e Y2 ⟨⟨v,rfl⟩,h⟩;exact⟨⟨_,rfl⟩,h⟩
theorem zt9 {w:Wd}:Calls PG 153 #[.agg (zf r).toArray] w fun e w'=>e = .returned (.func (.func 179) #[] #[At0 w.heap.size])/\z6 w' w.heap.size r/\w'.heap.size=w.heap.size+1/\Bw w w':=by
 refine zI 4 [.agg (zf r).toArray] Tryz.func153 ?_;exact⟨rfl,zw w _,wz _ _,(zba w _)⟩
theorem zoY {b:Nat} {m:Nat} {w:Wd} (hr:zG r.to) (fb:z6 w b r):CB 152 #[At0 b,i64 m] w (.bool (decide (m<=10000)&&okR r)):=by
 refine zI 17 [At0 b,i64 m] Tryz.func152 ?_;refine biE (fun h=>?_) fun h=>?_
 ·refine biE (fun h2=>?_) fun h2=>?_
  ·have h2:(m:Int)<=10000:=dT h2;refine⟨zf r,zh _,za fb,hlt fb,cmo (jH hr) ?_⟩;rintro e Y ⟨rfl,hbY⟩;exact⟨rb (by rw [Uq (show m<=10000 by omega),Uw]),hbY⟩
  ·have h2:¬ (m:Int)<=10000:=dF h2;exact⟨rb (by rw [Uf (show ¬ m<=10000 by omega),Uh]),Ga _ _⟩
 ·have h:¬ (0:Int)<=m:=dF h;omega
end
def jk:Enc (List Nat×OA×Nat) where
 sz:=1
 enc x:=[.slice x.2.1 x.1.length x.2.2]
 len x:=rfl
 one x v hv:=by
  simp at hv;subst hv;rfl
 pos:=by decide
theorem zq1 {p:OA} {cap:Nat} {l:List Nat} {w:Wd} (hl:SlR zA w p l) (hn:l.length<=100000) (hc:p=none->cap=0) :
  Calls PG 154 #[.slice p l.length cap] w fun e w'=>(∃ q c,e = .returned (.slice q l.length c)/\OwnS zA 3 w.heap.size w' q c l)/\Bw w w':=by
 refine zI 8 [.slice p l.length cap] Tryz.func154 ?_;refine⟨_,fun w=>ztK Tryz.underlying62 _ _ p l.length cap w,?_⟩
 cases p with
 | none =>
  refine brT ?_;have e:=hl.none;subst e;exact⟨⟨none,0,rfl,OwnS.nil⟩,Ga _ _⟩
 | some a =>
  refine brF ⟨⟨by decide,by decide,rfl⟩,[],rfl,?_⟩;have hb0:Bw w (w.alloc (.cells #[] 3)):=zba w _;refine zgO (E:=zA) (T:=3) (B:=w.heap.size) (l:=[]) (news:=l) (cap:=0) Tryz.underlying62 k3 rfl rfl rfl zhh rfl (hl.below hb0) (fun h=>by cases h) hb0.size (by simp;omega) (by show (0+l.length)*8<=_;omega) ?_;intro p' cap' w' ho hg hbw;exact⟨⟨p',cap',rfl,ho⟩,hb0.trans hbw⟩
def zuc (B:Nat) (F:Nat->Prop) (Y:Wd) (x:List Nat×OA×Nat):Prop:=OwnS zA 3 B Y x.2.1 x.2.2 x.1/\∀ a,x.2.1=some a->F a.block
theorem zfN (B:Nat):zja 62 93 (zuc B):=by
 rintro F G Y Z x ⟨h1,h2⟩ hs hFG;refine⟨h1.same fun a ha=>?_,fun a ha=>hFG _ (h2 a ha)⟩;obtain⟨_,_,cur,hc⟩:=zx h1 ha;exact hs _ cur 3 (h2 a ha) hc (by decide) (by decide)
theorem zrY {before:Nat->Nat}:∀ (m left:Nat) (l:List Nat),∀ x∈zav before m left l,x.length<=l.length+m:=by
 intro m
 induction m with
 | zero =>
  intro left l x hx;unfold zav at hx
  split at hx
  ·simp only [KA] at hx;subst hx;omega
  ·cases hx
 | succ m ih =>
  intro left l x hx;unfold zav at hx
  split at hx
  ·simp only [KA] at hx;subst hx;omega
  ·obtain⟨a,_,ha⟩:=List.mem_flatMap.1 hx
   split at ha
   ·have:=ih _ _ _ ha;simp only [lap,Qr,QM] at this;omega
   ·cases ha
theorem zna {r:RelD} {x:List Nat} (h:x∈zbt r):x.length<=64:=by
 unfold zbt at h
 split at h
 ·have:=zrY _ _ _ x h;simpa using this
 ·cases h
def AscB (xs:List (List Nat×OA×Nat)):Prop:=xs.Pairwise fun x y=>∀ a b,x.2.1=some a->y.2.1=some b->a.block<b.block
theorem AscB.snoc {xs:List (List Nat×OA×Nat)} {n:Nat} {y:List Nat×OA×Nat} (h:AscB xs) (h1:∀ x∈xs,∀ a,x.2.1=some a->a.block<n) (h2:∀ a,y.2.1=some a->n<=a.block):AscB (xs++[y]):=by
 unfold AscB;rw [Ka];refine⟨h,List.pairwise_singleton _ _,fun x hx z hz a b ha hb=>?_⟩;rw [KA.1 hz] at hb;exact nL (h1 x hx a ha) (h2 b hb)
abbrev zuv:List (List Nat×OA×Nat):=[]
theorem zqU {r:RelD} {m:Nat} {w:Wd} (hr:zG r.to) (hT:Tz64M w) (hm:m<=10000) (hok:okR r=true) :
  Calls PG 111 #[.agg (zf r).toArray,i64 m] w fun e w' =>
   (((zbt r).length<=m/\∃ (xs:List (List Nat×OA×Nat)) (p:OA) (c:Nat),e = .returned (.tuple #[.slice p xs.length c,i64 0])/\xs.map (·.1)=zbt r/\AscB xs/\OwnS jk 62 w.heap.size w' p c xs/\∀ x∈xs,OwnS zA 3 w.heap.size w' x.2.1 x.2.2 x.1) \/
    (m<(zbt r).length/\e = .returned (.tuple #[.slice none 0 0,i64 5])))/\Bw w w':=by
 refine qA 24 [.agg (zf r).toArray,i64 m] (.c .p (.s .p (.c .p .p))) Tryz.func111 ?_;obtain⟨L,hL⟩:=nm (w.heap.size);refine⟨Unit,fun _=>⟨[(2,At0 L),(3,At0 (L+1)),(4,At0 (L+2)),(5,At0 (L+3))],[]⟩,fun _ X=>(z6 X L r/\X.heap[L+1]?=some (.cells #[i64 m] 3 (0,0))/\X.heap[L+2]?=some (.cells #[.slice none 0 0] 93 (0,0))/\X.heap[L+3]?=some (.cells #[i64 0] 56 (0,0)))/\X.heap.size=L+4/\Bw w X,?_,?_⟩
 ·have s1:=wz w (.cells (zf r).toArray 39);have h2:=zw (w.alloc (.cells (zf r).toArray 39)) (.cells #[i64 m] 3 (0,0));have s2:=wz (w.alloc (.cells (zf r).toArray 39)) (.cells #[i64 m] 3 (0,0));have h3:=zw ((w.alloc (.cells (zf r).toArray 39)).alloc (.cells #[i64 m] 3 (0,0))) (.cells #[.slice none 0 0] 93 (0,0));have s3:=wz ((w.alloc (.cells (zf r).toArray 39)).alloc (.cells #[i64 m] 3 (0,0))) (.cells #[.slice none 0 0] 93 (0,0));have h4:=zw (((w.alloc (.cells (zf r).toArray 39)).alloc (.cells #[i64 m] 3 (0,0))).alloc (.cells #[.slice none 0 0] 93 (0,0))) (.cells #[i64 0] 56 (0,0));have s4:=wz (((w.alloc (.cells (zf r).toArray 39)).alloc (.cells #[i64 m] 3 (0,0))).alloc (.cells #[.slice none 0 0] 93 (0,0))) (.cells #[i64 0] 56 (0,0));rw [s1] at h2 s2;rw [s2] at h3 s3;rw [s3] at h4 s4;rw [<- hL] at h2 s2 h3 s3 h4 s4;have f0:=qM (.cells #[i64 0] 56 (0,0)) (qM (.cells #[.slice none 0 0] 93 (0,0)) (qM (.cells #[i64 m] 3 (0,0)) (zw w (.cells (zf r).toArray 39))));rw [<- hL] at f0;exact⟨(),⟨.cons (by rw [hL];rfl) (.cons (by rw [hL,<- s1];rfl) (.cons (by rw [<- s2];rfl) (.cons (by rw [<- s3];rfl) .nil))),rfl⟩,⟨f0,qM _ (qM _ h2),qM _ h3,h4⟩,s4,((((zba w _)).alloc (by simp) _).alloc (by simp;omega) _).alloc (by simp;omega) _⟩
 rintro _ X ⟨⟨f0,f1,f2,f3⟩,sX,hbX⟩;refine⟨_,zc (za f1) (i:=0) rfl,cmo (zoY hr f0) ?_⟩;rintro e Y ⟨rfl,hbY⟩;refine brN (by rw [hok,Uq hm];rfl) ?_;have hwY:=zst hbX hbY;obtain⟨M,hM⟩:=nm (Y.heap.size);have hMX:L+4<=M:=by have:=hbY.size;omega
 refine⟨Unit,fun _=>⟨[(2,At0 L),(3,At0 (L+1)),(4,At0 (L+2)),(5,At0 (L+3)),(6,At0 M)],[]⟩,fun _ V=>V.heap[M]?=some (.cells #[.slice none 0 0] 93 (0,0))/\V.heap.size=M+1/\Bw X V,?_,?_⟩
 ·exact⟨(),⟨.cons rfl (.cons rfl (.cons rfl (.cons rfl (.cons (by rw [hM];rfl) .nil)))),rfl⟩,by rw [hM];exact zw Y _,by rw [hM];exact wz Y _,hbY.alloc hbY.size _⟩
 rintro _ V ⟨fM,sV,hbV⟩;have hwV:=zst hbX hbV;have f0:=zb hbV f0;have f1:=zb hbV f1;have f2:=zb hbV f2;have f3:=zb hbV f3;refine⟨zf r,zh _,za f0,hlt f0,cmo zt9 ?_⟩;rintro e W ⟨rfl,fx,sW,hbW⟩;obtain⟨p0,p48,_⟩:=jb hok;have hwW:=zst hwV hbW;have htl:=zaX hT;have hI:=zuE hr p48 fx (hT.below hwW);have f1:=zb hbW f1;have f2:=zb hbW f2;have f3:=zb hbW f3;have fM:=zb hbW fM;have hwL:w.heap.size=L:=hL.symm;clear hbV hbY hwY hbX f0 sX;refine zdq (zbC _) rfl (lb := #[At0 V.heap.size]) rfl rfl hI (UV _) (fun k hk=>⟨?_,rfl⟩) (fun pre vs W ⟨l,q,c,_,h,_⟩=>by rw [h];rfl) (by decide)
  (fun k=>k=M\/k=L+2\/k=L+3)
  (fun pre F Z=>(∃ xs,(xs.map (·.1)=pre/\pre.length<=m/\AscB xs)/\Gath jk 62 93 (L+4) W.heap.size M W (zuc (L+4)) xs F Z)/\F (L+2)/\F (L+3))
  (fun ex pre F Z=>ex = .ret/\m<(zbt r).length/\Z.heap[L+2]?=some (.cells #[.slice none 0 0] 93 (0,0))/\Z.heap[L+3]?=some (.cells #[i64 5] 56 (0,0))/\Bw w Z/\W.heap.size<=Z.heap.size/\F (L+2)/\F (L+3)/\∀ k,F k->k<Z.heap.size)
  (fun k hk=>?_) ⟨?_,?_⟩ (fun ex=>⟨?_,?_⟩) ?_ ?_ ?_ ?_
 ·rcases hk with (rfl | rfl) | h
  ·omega
  ·have:=hwW.size;omega
  ·exact h.elim
 ·rcases hk with rfl | rfl <;> omega
 ·rintro pre F A C ⟨h,h2,h3⟩ hs;exact⟨(Gath.iter (σ:=List (List Nat)) (f:=fun pre xs=>xs.map (·.1)=pre/\pre.length<=m/\AscB xs) (zfN (L+4)) (by omega)).step pre F A C h hs,h2,h3⟩
 ·rintro pre F A k ⟨h,_⟩ hk;exact (Gath.iter (σ:=List (List Nat)) (f:=fun pre xs=>xs.map (·.1)=pre/\pre.length<=m/\AscB xs) (zfN (L+4)) (by omega)).lt pre F A k h hk
 ·rintro pre F A C ⟨h1,h2,h3,h4,h5,h6,h7,h8,h9⟩ hs;exact⟨h1,h2,(hs.same _ (hlt h3) (.inr h7)).trans h3,(hs.same _ (hlt h4) (.inr h8)).trans h4,h5.trans ⟨hs.os,hs.tape,hs.output,hs.size,fun k hk=>hs.same k (nL hk h5.size) (.inl ⟨by omega,fun h=>h⟩)⟩,UL h6 hs.size,h7,h8,fun k hk=>nL (h9 k hk) hs.size⟩
 ·rintro pre F A k ⟨h1,h2,h3,h4,h5,h6,h7,h8,h9⟩ hk;exact⟨h9 k hk,fun h=>h⟩
 ·refine⟨⟨zuv,⟨rfl,UY _,List.Pairwise.nil⟩,⟨UV _,.inl rfl,fun k hk=>?_,⟨none,0,fM,OwnS.nil,fun a h=>by cases h⟩,fun x hx=>(by cases hx),Ga _ _⟩⟩,.inr (.inl rfl),.inr (.inr rfl)⟩;rcases hk with rfl | rfl | rfl <;> omega
 ·rintro yl pre x vs F Y hyl hpre hJ ⟨l,q,c,hlast,rfl,hsl,hqc,hcel⟩ hfy ⟨lo,hlo⟩;have hxR:x=l:=by simpa using hlast
  subst hxR;refine⟨rfl,F,KeepsG.refl _ _,hJ,?_⟩;rintro o Y2 hY2 ⟨⟨xs,⟨hxs,hpm,hasc⟩,hG⟩,hF2,hF3⟩;have hpl:pre.length<(zbt r).length:=by
   obtain⟨t,ht⟩:=hpre;rw [<- ht];simp only [lap,Qr];omega
  have hxl:xs.length=pre.length:=by rw [<- hxs,QL]
  have hmem:x∈zbt r:=hpre.subset (by simp);have hlen:=zna hmem;have hslY:SlR zA Y2 q x:=by
   rw [hY2];refine ji hsl fun a ha=>zj fun e=>?_;obtain⟨cur,hcur⟩:=hcel a ha;rw [e,hlo] at hcur
   cases hcur
  obtain⟨p,c',h4,h5,h6⟩:=hG.row;have hWL:L+4<=W.heap.size:=by omega
  have g1:Y2.heap[L+1]?=some (.cells #[i64 m] 3 (0,0)):=(hG.old.block _ (by omega)).trans f1;refine⟨_,zc (za h4) (i:=0) rfl,_,zc (za g1) (i:=0) rfl,biE (fun hc=>?_) fun hc=>?_⟩
  ·have hc:((xs.length:Nat):Int)=(m:Int):=dT hc;have g2:Y2.heap[L+2]?=some (.cells #[.slice none 0 0] 93 (0,0)):=(hG.old.block _ (by omega)).trans f2;have g3:Y2.heap[L+3]?=some (.cells #[i64 0] 56 (0,0)):=(hG.old.block _ (by omega)).trans f3;refine zm k93 g2 (o:=0) (v := .slice none 0 0) rfl rfl (by show 0<1;decide) rfl fun Z1 fZ1 gZ1 sZ1=>zm k56 ((gZ1.block (L+3) (hlt g3) (by simp)).trans g3) (o:=0) (v:=i64 5) rfl rfl (by show 0<1;decide) rfl fun Z2 fZ2 gZ2 sZ2=>⟨F,⟨rfl,by omega,(gZ2.block (L+2) (hlt fZ1) (by simp)).trans fZ1,fZ2,?_,by have:=hG.size;omega,hF2,hF3,fun k hk=>by have:=hG.lt k hk;omega⟩,(KeepsG.grown gZ1 hF2).trans (KeepsG.grown gZ2 hF3)⟩;have hwY:=hwW.trans (hG.old.mono (by omega));exact (hwY.trans (zk gZ1 hwY.size (by omega))).trans (zk gZ2 (by have:=hwY.size;omega) (by omega))
  ·have hc:¬ ((xs.length:Nat):Int)=(m:Int):=dF hc;refine DrawE.ord [4,5] [0,1,2,3,4,5] (by kernel_rfl) ?_;have hd2:Bw Y2 Y2.drew:=(Ga _ _).drew;refine⟨_,zc (za (hdr h4)) (i:=0) rfl,cmo (zq1 (hslY.below hd2) (by omega) hqc) ?_⟩;rintro e Y3 ⟨⟨q1,k1,rfl,o1⟩,hb3⟩;refine⟨hb3,?_⟩;obtain⟨nx,hnx⟩:∃ nx:List Nat×OA×Nat,nx=(x,q1,k1):=⟨_,rfl⟩;have hen:[Value.slice q1 x.length k1]=jk.enc nx:=by rw [hnx];rfl
   refine⟨⟨by decide,by decide,rfl⟩,jk.enc nx,by rw [<- hen];rfl,?_⟩;have hba:Bw Y3 (Y3.alloc (.cells (jk.enc nx).toArray 62)):=zba _ _;refine⟨hba,?_⟩;have hnw:∀ (G:Nat->Prop) (Z:Wd),(∀ k,Y2.heap.size<=k->k<Y3.heap.size->Z.heap[k]?=Y3.heap[k]?)->(∀ k,Y2.heap.size<=k->k<Y3.heap.size->G k)->zuc (L+4) G Z nx:=by
    intro G Z hs hg;rw [hnx];have ol:∀ a,q1=some a->Y2.heap.size<=a.block/\a.block<Y3.heap.size:=fun a ha=>⟨(zx o1 ha).1,(zx o1 ha).2.1⟩;have hY2s:=hG.size;exact⟨OwnS.lower (o1.same fun a ha=>hs _ (ol a ha).1 (ol a ha).2) (by show L+4<=Y2.heap.size;omega),fun a ha=>hg _ (ol a ha).1 (ol a ha).2⟩
   obtain⟨v,Y5,hrun,Z,hrun2,F',hG',hK',hFF⟩:=hG.step (P:=PG) (ty:=93) (cap1:=1) (zfN (L+4)) (by decide) Tryz.underlying93 k62 rfl rfl rfl k93 rfl (by omega) (by omega) (hd2.trans hb3) nx (by omega) (by show (xs.length+1)*24<=_;omega) hnw p c' h4;exact SatR.mk hrun (SatR.mk hrun2 ⟨F',⟨⟨_,⟨by rw [QO,hxs,hnx];rfl,by simp only [lap,Qr,QM];omega,hasc.snoc (n:=Y2.heap.size) (fun x' hx' a ha=>(zx (hG.nest x' hx').1 ha).2.1) (fun a ha=>by rw [hnx] at ha;exact (zx o1 ha).1)⟩,hG'⟩,hFF _ hF2,hFF _ hF3⟩,hK'⟩)
 ·rintro D F Y hD hfD ⟨⟨xs,⟨hxs,hpm,hasc⟩,hG⟩,hF2,hF3⟩ hdef;obtain⟨p,c',h4,h5,h6⟩:=hG.row;have hWL:L+4<=W.heap.size:=by omega
  have g2:Y.heap[L+2]?=some (.cells #[.slice none 0 0] 93 (0,0)):=(hG.old.block _ (by omega)).trans f2;have g3:Y.heap[L+3]?=some (.cells #[i64 0] 56 (0,0)):=(hG.old.block _ (by omega)).trans f3;refine⟨_,zc (za h4) (i:=0) rfl,zm k93 g2 (o:=0) (v := .slice p xs.length c') rfl rfl (by show 0<1;decide) rfl fun Z1 fZ1 gZ1 sZ1=>zm k56 ((gZ1.block (L+3) (hlt g3) (by simp)).trans g3) (o:=0) (v:=i64 0) rfl rfl (by show 0<1;decide) rfl fun Z2 fZ2 gZ2 sZ2=>?_⟩;have k2:∀ k,k<Y.heap.size->k≠L+2->k≠L+3->Z2.heap[k]?=Y.heap[k]?:=fun k hk n1 n2=>(gZ2.block k (by rw [sZ1];exact hk) (by simpa using n2)).trans (gZ1.block k hk (by simpa using n1));refine⟨_,rfl,(k2 D (hlt hdef) (by omega) (by omega)).trans hdef,?_⟩;have f2':=(gZ2.block (L+2) (hlt fZ1) (by simp)).trans fZ1;have nD2:D≠L+2:=fun e=>hfD (e▸hF2);have nD3:D≠L+3:=fun e=>hfD (e▸hF3);have hwY:=hwW.trans (hG.old.mono (by omega));have b2:=(hwY.trans (zk gZ1 hwY.size (by omega))).trans (zk gZ2 (by have:=hwY.size;omega) (by omega));have kp:∀ a:Addr,L+4<=a.block->F a.block->a.block<Y.heap.size->(Z2.putObj D (.deferred none)).heap[a.block]?=Y.heap[a.block]?:=fun a h1 h2 h3=>(zj fun e=>by rw [<- e] at hfD;exact hfD h2).trans (k2 _ h3 (by omega) (by omega));refine⟨.slice p xs.length c',zc (za ((zj fun e=>nD2 e.symm).trans f2')) (i:=0) rfl,i64 0,zc (za ((zj fun e=>nD3 e.symm).trans fZ2)) (i:=0) rfl,.inl ⟨by rw [<- hxs,QL] at hpm ⊢;exact hpm,xs,p,c',rfl,hxs,hasc,?_,fun x hx=>?_⟩,je b2 (by omega) _⟩
  ·exact OwnS.lower (h5.same fun a ha=>kp a (zx h5 ha).1 (h6 a ha) (zx h5 ha).2.1) (by omega)
  ·obtain⟨hx1,hx2⟩:=hG.nest x hx;exact OwnS.lower (hx1.same fun a ha=>kp a (zx hx1 ha).1 (hx2 a ha) (zx hx1 ha).2.1) (by omega)
 ·rintro D ex pre F Y hD hfD hpre ⟨rfl,hm2,h3,h4,h5,h6,h7,h8,h9⟩ hdef;refine⟨_,rfl,hdef,?_⟩;have nD2:D≠L+2:=fun e=>hfD (e▸h7);have nD3:D≠L+3:=fun e=>hfD (e▸h8);exact⟨_,zc (za ((zj fun e=>nD2 e.symm).trans h3)) (i:=0) rfl,_,zc (za ((zj fun e=>nD3 e.symm).trans h4)) (i:=0) rfl,.inr ⟨hm2,rfl⟩,je h5 (by have:=hwW.size;omega) _⟩
theorem zqY {p:OA} {cap:Nat} {l:List Nat} {s:Nat} {w:Wd} (hl:SlR zA w p l) (hn:l.length<=140737488351232) :
  Calls PG 151 #[.slice p l.length cap,i64 s] w fun e w'=>∃ n:Int,e = .returned (i64 n)/\decide (0<=n)=l.any (fun q=>decide (q=s))/\w=w':=by
 refine zI 19 [.slice p l.length cap,i64 s] Tryz.func151 ?_;refine⟨Nat,fun k=>⟨[(0,.slice p l.length cap),(1,i64 s),(7,i64 l.length),(8,i64 (k:Nat))],[]⟩,fun k X=>k<=l.length/\(∀ q∈l.take k,¬ q=s)/\w=X,fun k=>l.length-k,0,(cvE rfl rfl),⟨UY _,by simp,rfl⟩,?_⟩;rintro k _ ⟨hk,hno,rfl⟩;dsimp only at hk hno ⊢;refine biE (fun hc=>?_) fun hc=>?_
 ·have hc:(k:Int)<(l.length:Int):=dT hc;have hkl:k<l.length:=by omega
  obtain⟨b,o,rfl,hb,hat⟩:=hl.at hkl;refine⟨k,rfl,hkl,i64 l[k],zc (hat k hkl) (i:=0) rfl,biE (fun h=>?_) fun h=>?_⟩
  ·have h:(s:Int)=(l[k]:Nat):=dT h;refine⟨k,rfl,?_,rfl⟩;rw [Uq (by omega)];symm;rw [Qj];exact⟨l[k],gM _,Uq (by omega)⟩
  ·have h:¬ (s:Int)=(l[k]:Nat):=dF h;refine⟨(k+1:Nat),(ze (by omega)).trans (by omega),k+1,(cvE rfl rfl),⟨hkl,?_,rfl⟩,zdc (by omega)⟩;rw [tsg hkl];intro q hq;rcases QQ.1 hq with hq | hq
   ·exact hno q hq
   ·simp only [KA] at hq;rw [hq];exact fun e=>h (by rw [e])
 ·have hc:¬ (k:Int)<(l.length:Int):=dF hc;obtain rfl:k=l.length:=by omega
  rw [Qv] at hno;refine⟨-1,rfl,?_,rfl⟩;symm;show _=false;rw [KM];exact fun q hq=>by simpa using hno q hq
theorem zlD {p:OA} {cap:Nat} {l:List Nat} {s:Nat} {w:Wd} (hl:SlR zA w p l) (hn:l.length<=140737488351232) :
  Calls PG 107 #[.slice p l.length cap,i64 s] w fun e w'=>e = .returned (.bool (l.any fun q=>decide (q=s)))/\w=w':=by
 refine zI 9 [.slice p l.length cap,i64 s] Tryz.func107 ?_;refine cmo (zqY hl hn) ?_;rintro e _ ⟨n,rfl,h,rfl⟩;exact⟨rb h,rfl⟩
abbrev zjt (l:List Nat):List Value:=l.map fun n:Nat=>i64 n
abbrev RowI (Z:Wd) (g:Nat) (l:List Nat):Prop:=Z.heap[g]?=some (.cells (zjt l).toArray 3 (0,0))
theorem ze5:∀ l:List Nat,l.flatMap zA.enc=zjt l
 | []=>rfl
 | a::l=>by
  show i64 a::l.flatMap zA.enc=i64 a::zjt l;rw [ze5 l]
theorem zj4:∀ n,zcg [Value.int IntKind.i64 0] n=zjt (List.replicate n 0)
 | 0=>rfl
 | n+1=>by
  show Value.int IntKind.i64 0::zcg [Value.int IntKind.i64 0] n=i64 0::zjt (List.replicate n 0);rw [<- zj4 n];rfl
theorem RowI.sl {Z:Wd} {g:Nat} {l:List Nat} (h:RowI Z g l):SlR zA Z (some ⟨g,0,none⟩) l :=
 SlR.of_cells (hlt h) (by rw [ze5];exact za h)
theorem zog {α:Type} {f:Nat->α} {n j:Nat} (h:j<n):((List.range j).map f++[f j]) <+: (List.range n).map f:=by
 obtain⟨m,rfl⟩:∃ m,n=(j+1)+m:=⟨n-(j+1),by omega⟩;rw [List.range_add,QO];exact⟨_,by rw [QU,QO];rfl⟩
def StD (pre:List (List Nat)) (vs:List Value) (W:Wd):Prop:=∃ l q,pre.getLast?=some l/\vs=[.slice q l.length l.length]/\SlR zA W q l/\∀ a,q=some a->∃ cur,W.heap[a.block]?=some (.cells cur 3 (0,0))
section
variable {bx:Nat} {sizes:List Nat} {q:OA} {c:Nat} {W0:Wd}
theorem zsK (fx:W0.heap[bx]?=some (.cells #[.slice q sizes.length c] 62 (0,0))) (hl:SlR zA W0 q sizes) (hql:∀ a,q=some a->a.block<W0.heap.size) (hn:sizes.length<=1000) (hm:∀ n∈sizes,n<=1000000) :
  zjb PG 106 [At0 bx] (qb sizes) W0 (fun k=>k=bx\/∃ a,q=some a/\k=a.block) (fun _=>False) StD:=by
 intro yl F0 J Jx W hsz hrd hrf hJ hJx hy h0;have fxW:=(hrd bx (.inl (.inl rfl))).trans fx;have hlW:SlR zA W q sizes:=ji hl fun a ha=>hrd _ (.inl (.inr ⟨a,ha,rfl⟩));refine zI 43 [.func (.yield yl) #[] #[],At0 bx] Tryz.func106 ?_;refine⟨_,zc (za fxW) (i:=0) rfl,cmo (zlD (s:=0) hlW (by omega)) ?_⟩;rintro e _ ⟨rfl,rfl⟩;refine biE (fun h=>?_) fun h=>?_
 ·have h:(sizes.any fun q=>decide (q=0))=true:=h;obtain⟨z,hz,hz0⟩:=Qj.1 h;have hz0:z=0:=dT hz0;subst hz0;have hs:qb sizes=[]:=by unfold qb;rw [zer (by simpa using hz)];rfl
  rw [hs];exact⟨⟨_,rfl⟩,.inl ⟨F0,h0⟩⟩
 have h:(sizes.any fun q=>decide (q=0))=false:=h;obtain⟨rs,hrs⟩:=nm (sizes.reverse);have hr0:∀ n∈rs,n≠0:=fun n hn e=>by
  rw [KM] at h;exact h n (by rw [hrs] at hn;simpa using hn) (Uq e)
 have hlen:rs.length=sizes.length:=by rw [hrs,Kj]
 refine⟨_,zc (za fxW) (i:=0) rfl,ziO Tryz.underlying62 k3 rfl rfl (by decide) sizes.length (by show 8*_<=_;omega) (by omega) fun X fX hbX sX=>?_⟩;rw [zj4] at fX;obtain⟨D,hD⟩:∃ D:Nat->List Nat,D=fun j=>(zaf rs j).reverse:=⟨_,rfl⟩;have hDl:∀ j,(D j).length=sizes.length:=fun j=>by rw [hD];show ((zaf rs j).reverse).length=_;rw [Kj,zfk,hlen]
 have hds:qb sizes=(List.range (zZ rs)).map D:=by unfold qb;rw [hD,hrs]
 have hP:0<zZ rs:=ziF hr0;have hD0:D 0=List.replicate sizes.length 0:=by
  rw [hD];show (zaf rs 0).reverse=_;rw [zi2,List.reverse_replicate,hlen]
 rw [<- hD0] at fX;rw [hds] at hy ⊢;obtain⟨g,hg⟩:=nm (W.heap.size);rw [<- hg] at fX;have hbxW:=hlt fxW;refine⟨Nat×(Nat->Prop),fun s=>⟨[(0,.func (.yield yl) #[] #[]),(1,At0 bx),(3,.slice (some ⟨g,0,none⟩) sizes.length sizes.length)],[]⟩,
  fun s Z=>s.1<zZ rs/\J ((List.range s.1).map D) s.2 Z/\RowI Z g (D s.1)/\¬ s.2 g/\W.heap.size<=Z.heap.size/\Z.heap[bx]?=some (.cells #[.slice q sizes.length c] 62 (0,0))/\¬ s.2 bx/\RowF zA W.heap.size s.2 Z q sizes,
  fun s=>zZ rs-s.1,(0,F0),⟨.cons rfl (.cons rfl (.cons (by rw [hg];rfl) .nil)),rfl⟩,
  ⟨hP,hJ.step _ _ _ _ h0 (.below hbX),fX,fun h=>by have:=(hJ.lt _ _ _ _ h0 h).1;omega,hbX.size,zb hbX fxW,hrf _ (.inl rfl),⟨hlW.below hbX,fun a ha=>⟨by have:=hql a ha;omega,hrf _ (.inr ⟨a,ha,rfl⟩)⟩⟩⟩,?_⟩
 rintro⟨j,F⟩ Z ⟨hj,hjZ,fZ,hgF,hWZ,fxZ,hbF,hqZ⟩;dsimp only at hj hjZ fZ hgF fxZ hbF hqZ ⊢;have hpre:((List.range j).map D++[D j]) <+: (List.range (zZ rs)).map D:=zog hj;refine YieldR.mono (hy _ (D j) [.slice (some ⟨g,0,none⟩) sizes.length sizes.length] F Z hjZ ⟨D j,_,by simp,by rw [hDl j],fZ.sl,fun a ha=>(by cases ha;exact⟨_,fZ⟩)⟩ hpre) ?_;rintro v Y (⟨rfl,F',hjY,kY⟩ | ⟨rfl,F',hjY⟩)
 ·refine brT ?_;have hgZ:=hlt fZ;have fY:RowI Y g (D j):=(kY.same g hgZ hgF).trans fZ;have hgF':¬ F' g:=fun h=>by
   rcases kY.fp g h with h | h
   ·exact hgF h
   ·omega
  have fxY:=(kY.same bx (hlt fxZ) hbF).trans fxZ;have hbF':¬ F' bx:=fun h=>by
   rcases kY.fp bx h with h | h
   ·exact hbF h
   ·have:=hlt fxZ;omega
  have hqY:=hqZ.keep hWZ kY (fun _ _ h=>h);have hWY:=UL hWZ kY.size;have hjY2:J ((List.range (j+1)).map D) F' Y:=by
   rw [QU,QO];exact hjY
  clear hjY hpre fZ fxZ hqZ hjZ hWZ hgZ hgF hbF kY;refine⟨((sizes.length:Nat):Int)-1,ze (by omega),?_⟩;have hgn:W.heap.size<=g:=by omega
  have hbg:bx≠g:=by omega
  refine⟨Nat,fun t=>⟨[(0,.func (.yield yl) #[] #[]),(1,At0 bx),(3,.slice (some ⟨g,0,none⟩) sizes.length sizes.length),(4,i64 (((sizes.length:Nat):Int)-1-(t:Nat)))],[]⟩,
   fun t V=>t<=sizes.length/\zh8 rs j t/\RowI V g ((List.replicate t 0++(zaf rs j).drop t).reverse)/\J ((List.range (j+1)).map D) F' V/\W.heap.size<=V.heap.size/\V.heap[bx]?=some (.cells #[.slice q sizes.length c] 62 (0,0))/\RowF zA W.heap.size F' V q sizes,fun t=>sizes.length-t,0,
   ⟨.cons rfl (.cons rfl (.cons rfl (.cons (by rw [Int.ofNat_zero,Int.sub_zero];rfl) .nil))),rfl⟩,⟨UY _,zmp _ _,by rw [hD] at fY;exact fY,hjY2,hWY,fxY,hqY⟩,?_⟩
  clear fY fxY hqY hjY2 hWY;rintro t V ⟨ht,hc,fV,hjV,hWV,fxV,hqV⟩;dsimp only at ht hc fV hjV ⊢;have hLl:(zaf rs j).length=sizes.length:=by rw [zfk,hlen]
  refine DrawE.ord [] [0,1,2,3,4,5,6,7,8,9,10,11,12,13] (by kernel_rfl) (biE (fun hi=>?_) fun hi=>?_)
  ·have hi:(0:Int)<=((sizes.length:Nat):Int)-1-(t:Nat):=dT hi;have htl:t<sizes.length:=by omega
   obtain⟨i,hit⟩:∃ i,i+t+1=sizes.length:=⟨sizes.length-1-t,by omega⟩;have hii:((sizes.length:Nat):Int)-1-(t:Nat)=(i:Nat):=by omega
   rw [hii];obtain⟨d,hd⟩:∃ d,(zaf rs j)[t]?=some d:=⟨_,gE (by omega)⟩;obtain⟨n,hn⟩:∃ n,rs[t]?=some n:=⟨_,gE (by omega)⟩;have hil:i<sizes.length:=by omega
   have hsn:sizes[i]=n:=by
    have:=JK (l:=sizes) (i:=t) htl;rw [<- hrs,hn,show sizes.length-1-t=i by omega,gE hil] at this;exact (Ud this).symm
   have hnm:n∈sizes:=by rw [<- hsn];exact gM hil
   have hn1:=hm n hnm;have hn0:n≠0:=hr0 n (by rw [hrs];simpa using hnm);have zfb:=zta hd (i:=i) (by omega);have hdn:d<n:=by
    obtain⟨A,ns,k,c1,c2,c3,c4,c5⟩:=hc
    cases ns with
    | nil=>rw [c1,QI,JJ (by omega)] at hn;cases hn
    | cons m ns =>
     have hm':m=n:=by
      rw [c1,Jn (by omega),c2,UN] at hn;exact Ud hn
     have:=Gi (fun l=>l[0]?) c4;simp only [Kw,UK] at this;rw [hd] at this;have:d=k%m:=Ud this;rw [this,hm'];exact Ge _ (by omega)
   have hrl:((List.replicate t 0++(zaf rs j).drop t).reverse).length=sizes.length:=by simp;omega
   refine⟨i,rfl,hil,?_⟩;have hrc:(zjt (List.replicate t 0++(zaf rs j).drop t).reverse)[i*1]?=some (i64 d):=by
    rw [UW,KT,zfb];rfl
   refine⟨i64 d,zc (za (hdr fV)) hrc,_,zc (za (hdr fxV)) (i:=0) rfl,?_⟩;obtain⟨bq,oq,hqe,hlq,hatq⟩:=hqV.row.at hil;subst hqe;refine⟨i,rfl,hil,i64 n,by rw [<- hsn];exact zc (zr (Ga _ V).drew (hatq i hil)) (i:=0) rfl,((n:Nat):Int)-1,ze (by omega),biE (fun he=>?_) fun he=>?_⟩
   ·have he:(d:Int)=(n:Int)-1:=dT he;have hrs2:=zmS hd (i:=i) (by omega) 0;refine⟨i,rfl,hil,zm k3 (hdr fV) (o:=0+i*1) (v:=i64 0) rfl rfl (by rw [QL,hrl];omega) rfl fun V1 fV1 gV1 sV1=>⟨((sizes.length:Nat):Int)-1-((t+1:Nat):Int),(ze (by omega)).trans (by omega),?_⟩⟩;have gV2:V.grownBy V1 (some g):=zd (zi (Ga _ V).drew) gV1;have kV:KeepsG (fun k=>k=g) (fun _=>False) V V1:=⟨gV2.os,gV2.tape,gV2.output,gV2.size,fun k hk hf=>gV2.block k hk (fun e=>hf (by cases e;rfl)),fun k h=>h.elim⟩;have hsV:=gV2.size;refine⟨t+1,(cvE rfl rfl),⟨htl,zmr hr0 hc hn hd (by omega),?_,hJ.step _ _ _ _ hjV (StepG.grown gV2 (.inl hgn) hgF'),by omega,(gV2.block bx (hlt fxV) (by simpa using hbg)).trans fxV,⟨ji hqV.row fun a ha=>gV2.block _ (by have:=(hqV.out a ha).1;omega) (by have:=(hqV.out a ha).1;simp;omega),hqV.out⟩⟩,zdc (by omega)⟩;show RowI V1 g _;rw [<- zpq,<- hrs2];rw [UW,UQ] at fV1;refine fV1.trans ?_;unfold zjt;rw [UH];rfl
   ·have he:¬ (d:Int)=(n:Int)-1:=dF he;have hstop:=zmq hr0 hc hn hd (by omega);have hmore:=zms hr0 hc hn hd (by omega) hj;have hrs2:=zmS hd (i:=i) (by omega) (d+1);refine brN (Uf (by omega)) ⟨i,rfl,hil,i64 d,zc (za (hdr fV)) hrc,nxI (by omega) ⟨i,rfl,hil,zm k3 (hdr fV) (o:=0+i*1) (v:=i64 ((d+1:Nat):Int)) rfl rfl (by rw [QL,hrl];omega) rfl fun V1 fV1 gV1 sV1=>?_⟩⟩;have gV2:V.grownBy V1 (some g):=zd (zi (Ga _ V).drew) gV1;have hsV:=gV2.size;refine⟨(j+1,F'),(cvE rfl rfl),⟨hmore,hJ.step _ _ _ _ hjV (StepG.grown gV2 (.inl hgn) hgF'),?_,hgF',by omega,(gV2.block bx (hlt fxV) (by simpa using hbg)).trans fxV,hbF',⟨ji hqV.row fun a ha=>gV2.block _ (by have:=(hqV.out a ha).1;omega) (by have:=(hqV.out a ha).1;simp;omega),hqV.out⟩⟩,zdc (by omega)⟩;show RowI V1 g (D (j+1));rw [hD];show RowI V1 g (zaf rs (j+1)).reverse;rw [hstop,<- hrs2];rw [UW,UQ] at fV1;refine fV1.trans ?_;unfold zjt;rw [UH]
  ·have hi:¬ (0:Int)<=((sizes.length:Nat):Int)-1-(t:Nat):=dF hi;have hte:t=rs.length:=by omega
   rw [hte] at hc;have he:=zoG hc hj;refine brF (brE (Uq (by omega)) ?_);rw [he] at hjV;exact⟨⟨_,rfl⟩,.inl ⟨F',hJ.step _ _ _ _ hjV (.below (Ga _ V).drew)⟩⟩
 ·exact brF ⟨⟨_,rfl⟩,.inr ⟨_,F',hpre,hjY⟩⟩
end
def poG (ev:List Ev) (k:Nat):Nat->Nat:=fun i=>if i<k then zbz ev i else 0
theorem zm3 (ev:List Ev) (k:Nat):upd (poG ev k) k (zbz ev k)=poG ev (k+1):=by
 funext i;unfold upd poG;by_cases h:i=k
 ·rw [Gn h,Gn (by omega),h]
 ·rw [Gm h];by_cases h2:i<k
  ·rw [Gn h2,Gn (by omega)]
  ·rw [Gm h2,Gm (by omega)]
theorem zkK (ev:List Ev) (k:Nat):upd (poG ev k) k 0=poG ev k:=by
 funext i;unfold upd poG;by_cases h:i=k
 ·rw [Gn h,Gm (by omega)]
 ·rw [Gm h]
theorem zrq (ev:List Ev):poG ev ev.length=zbz ev:=by
 funext i;unfold poG
 split
 ·rfl
 ·unfold zbz;rw [JJ (by omega)]
section
variable {p:OA} {cap:Nat} {ev:List Ev} {w:Wd}
theorem zdr (hl:SlR evE w p ev) (hn:ev.length<=48):CB 43 #[.slice p ev.length cap] w (.agg (zf (poR ev)).toArray):=by
 refine qA 47 [.slice p ev.length cap] (.s .p (.c .p .p)) Tryz.func43 ?_;obtain⟨L,hL⟩:=nm (w.heap.size);have hbL:=zw w (.cells (zf zB).toArray 39 (0,0));have hbb:Bw w (w.alloc (.cells (zf zB).toArray 39 (0,0))):=zba w _;have hbs:=wz w (.cells (zf zB).toArray 39 (0,0));refine⟨Unit,fun _=>⟨[(0,.slice p ev.length cap),(2,At0 L),(3,At0 (L+1))],[]⟩,fun _ X=>z6 X L zB/\z6 X (L+1) ⟨ev.length,fun _=>0⟩/\X.heap.size=L+2/\Bw w X,?_,?_⟩
 ·refine⟨zf ⟨ev.length,fun _=>0⟩,rfl,zq (X:=w.alloc (.cells (zf zB).toArray 39 (0,0))) (v := .agg (zf ⟨ev.length,fun _=>0⟩).toArray) k39 (zh _) rfl (zD _) fun V hbV fV sV=>?_⟩;rw [hbs] at fV sV;exact⟨(),⟨.cons rfl (.cons (by rw [hL];rfl) (.cons (by rw [hL,<- hbs];rfl) .nil)),rfl⟩,by rw [hL];exact zb hbV hbL,by rw [hL];exact fV,by rw [hL];exact sV,(zst hbb hbV)⟩
 rintro _ X ⟨f0,f1,sX,hbX⟩;refine⟨Nat,fun k=>⟨[(0,.slice p ev.length cap),(2,At0 L),(3,At0 (L+1)),(10,.slice p ev.length cap),(11,i64 ev.length),(12,i64 (k:Nat))],[]⟩,
  fun k V=>k<=ev.length/\z6 V (L+1) ⟨ev.length,poG ev k⟩/\z6 V L zB/\L+1<V.heap.size/\Bw w V,fun k=>ev.length-k,0,
  (cvE rfl rfl),⟨UY _,f1,f0,by omega,hbX⟩,?_⟩
 rintro k V ⟨hk,fV,f0V,sV,hbV⟩;dsimp only at hk fV ⊢;refine biE (fun hc=>?_) fun hc=>?_
 ·have hc:(k:Int)<(ev.length:Int):=dT hc;have hkl:k<ev.length:=by omega
  obtain⟨e,he⟩:∃ e,ev[k]=e:=⟨_,rfl⟩;have hek:ev[k]?=some e:=by rw [<- he];exact gE hkl
  obtain⟨bp,op,rfl,hlp,hat⟩:=hl.at hkl;refine⟨k,rfl,hkl,evE.enc e,rfl,by rw [<- he];exact zr hbV (hat k hkl),nL hlp hbV.size,zq (X:=V) (v := .agg (evE.enc e).toArray) k49 rfl rfl (Qi.2 fun u hu=>evE.one e u hu) fun Y hbY fY sY=>?_⟩;obtain⟨b,hb⟩:=nm (V.heap.size);rw [<- hb] at fY;have eb:some (Value.pointer (some ⟨V.heap.size,0,none⟩))=some (At0 b):=by rw [hb]
  have hwY:=zst hbV hbY;have hMb:L+1<b:=by omega
  have fYM:=zb hbY fV;have fYL:=zb hbY f0V;refine⟨i64 e.th,by rw [<- hb];exact zc (za fY) (i:=0) rfl,biE (fun h=>?_) fun h=>?_⟩
  ·have h:e.th = -1:=dT h;have hr:zbz ev k=0:=by
    unfold zbz;rw [hek];exact Gn h
   refine nxI (by omega) ⟨k+1,(cvE rfl rfl),⟨hkl,?_,fYL,by omega,hwY⟩,zdc (by omega)⟩;rw [<- zm3,hr,zkK];exact fYM
  have h:¬ e.th = -1:=dF h;have hr:zbz ev k=zhc e.th (k+1) (ev.drop (k+1)) 0:=by
   unfold zbz;rw [hek];exact Gm h
  refine nxI (by omega) ?_;refine⟨Nat×Nat,fun s=>⟨[(0,.slice (some ⟨bp,op,none⟩) ev.length cap),(2,At0 L),(3,At0 (L+1)),(4,i64 (k:Nat)),(5,At0 b),(6,i64 (s.1:Nat)),(10,.slice (some ⟨bp,op,none⟩) ev.length cap),(11,i64 ev.length),(12,i64 (k:Nat))],[]⟩,
   fun s Z=>s.1<=ev.length/\zbz ev k=zhc e.th s.1 (ev.drop s.1) s.2/\s.2<2^64/\z6 Z (L+1) ⟨ev.length,upd (poG ev k) k s.2⟩/\z6 Z L zB/\Z.heap[b]?=some (.cells (evE.enc e).toArray 49 (0,0))/\Bw w Z,fun s=>ev.length-s.1,(k+1,0),
   ⟨.cons rfl (.cons rfl (.cons rfl (.cons rfl (.cons eb (.cons rfl (.cons rfl (.cons rfl (.cons rfl .nil)))))))),rfl⟩,⟨hkl,hr,(by decide:0<2^64),by rw [zkK];exact fYM,fYL,fY,hwY⟩,?_⟩
  clear fY fYM fYL hwY hbY sY f0V fV hbV sV;rintro⟨j,s⟩ Z ⟨hj,hacc,hs,fM,fL,fb,hbZ⟩;dsimp only at hj hacc hs fM ⊢;refine biE (fun hc=>?_) fun hc=>?_
  ·have hc:(j:Int)<(ev.length:Int):=dT hc;have hjl:j<ev.length:=by omega
   have hdrop:ev.drop j=ev[j]::ev.drop (j+1):=(JE hjl).symm;rw [hdrop] at hacc;have hacc:zbz ev k=zhc e.th (j+1) (ev.drop (j+1)) (if ev[j].th=e.th then s|||2^j else s):=hacc;refine DrawE.ord [] [0,1,2,3,4,5,6,7] (by kernel_rfl) ⟨j,rfl,hjl,i64 ev[j].th,zc (zr hbZ (hat j hjl)) (i:=0) rfl,i64 e.th,zc (za (hdr fb)) (i:=0) rfl,?_⟩;have hslot:(zf ⟨(ev.length:Int),upd (poG ev k) k s⟩)[1+k]?=some (s64 s):=by
    have:=zeX ⟨(ev.length:Int),upd (poG ev k) k s⟩ (i:=k) (by omega);rw [this];show some (s64 (upd (poG ev k) k s k))=_;rw [zP]
   have hdZ:Bw Z Z.drew:=(Ga _ Z).drew;refine biE (fun he=>?_) fun he=>?_
   ·have he:ev[j].th=e.th:=dT he;rw [Gn he] at hacc;refine DrawE.ord [9] [0,1,2,3,4,5,6,7,8,9] (by kernel_rfl) ⟨k,rfl,by omega,?_⟩;refine⟨s64 s,by rw [UW,UC];exact zc (za (hdr (hdr fM))) hslot,by omega,_,j5 (e:=j) (by omega),_,zak hs (z7 (by omega)),k,rfl,by omega,?_⟩;refine zm k36 (hdr (hdr fM)) (o:=0+1+k*1) (v:=s64 (s|||2^j)) rfl rfl (by rw [zh];omega) rfl fun S fS gS sS=>?_;rw [UQ,UW,zeW _ (show k<48 by omega)] at fS;have gS2:Z.grownBy S (some (L+1)):=zd (zi (Ga _ Z).drew) (zd (zi (Ga _ _).drew) gS);refine nxI (by omega) ⟨(j+1,s|||2^j),(cvE rfl rfl),⟨hjl,hacc,KX hs (z7 (by omega)),?_,(gS2.block L (hlt fL) (by simp)).trans fL,(gS2.block b (hlt fb) (by simp;omega)).trans fb,hbZ.trans (zk gS2 hbZ.size (by omega))⟩,zdc (by omega)⟩;have:upd (upd (poG ev k) k s) k (s|||2^j)=upd (poG ev k) k (s|||2^j):=by
     funext i;unfold upd
     split <;> rfl
    rw [this] at fS;exact fS
   ·have he:¬ ev[j].th=e.th:=dF he;rw [Gm he] at hacc;exact nxI (by omega) ⟨(j+1,s),(cvE rfl rfl),⟨hjl,hacc,hs,fM,fL,fb,(zst hbZ hdZ)⟩,zdc (by omega)⟩
  ·have hc:¬ (j:Int)<(ev.length:Int):=dF hc;have:j=ev.length:=by omega
   subst this;rw [Ql] at hacc;have hacc:zbz ev k=s:=hacc;refine nxI (by omega) ⟨k+1,(cvE rfl rfl),⟨hkl,?_,fL,hlt fM,hbZ⟩,zdc (by omega)⟩;rw [<- zm3,hacc];exact fM
 ·have hc:¬ (k:Int)<(ev.length:Int):=dF hc;obtain rfl:k=ev.length:=by omega
  rw [zrq] at fV;exact⟨zf (poR ev),zh _,za fV,hlt fV,zt (v := .agg (zf (poR ev)).toArray) k39 f0V rfl rfl (zD _) ⟨zf (poR ev),zh _,za (zn f0V),rfl,zl hbV (by omega) _⟩⟩
end
def za8:UInt8->List UInt8->List UInt8
 | _,[]=>[]
 | p,y::r=>if y=p then za8 p r else y::za8 y r
def ded:List UInt8->List UInt8
 | []=>[]
 | x::r=>x::za8 x r
theorem zfX:∀ (A:List UInt8) (p x:UInt8),za8 p (A++[x])=if x=(p::A).getLast (by simp) then za8 p A else za8 p A++[x]
 | [],p,x=>by
  show (if x=p then [] else [x])=_;rfl
 | y::A,p,x=>by
  show (if y=p then za8 p (A++[x]) else y::za8 y (A++[x]))=_;have hl:(p::y::A).getLast (by simp)=(y::A).getLast (by simp):=List.getLast_cons (by simp);rw [hl];show _=if x=(y::A).getLast _ then (if y=p then za8 p A else y::za8 y A) else (if y=p then za8 p A else y::za8 y A)++[x]
  by_cases h:y=p
  ·subst h;rw [Gn rfl,Gn rfl,zfX A y x]
  ·rw [Gm h,Gm h,zfX A y x]
   split <;> rfl
theorem zqn {A:List UInt8} (h:A≠[]) (x:UInt8):ded (A++[x])=if x=A.getLast h then ded A else ded A++[x]:=by
 cases A with
 | nil=>exact Gp rfl h
 | cons y A =>
  show y::za8 y (A++[x])=_;rw [zfX];show _=if x=(y::A).getLast h then y::za8 y A else y::za8 y A++[x]
  split <;> rfl
theorem zlh {l:List UInt8} {i:Nat} (h0:0<i) (hi:i<l.length):ded (l.take (i+1))=if l[i]=l[i-1] then ded (l.take i) else ded (l.take i)++[l[i]]:=by
 rw [tsg hi];have hne:l.take i≠[]:=by
  intro e;have:=Gi List.length e;rw [Qt,QM] at this;omega
 rw [zqn hne];have:(l.take i).getLast hne=l[i-1]:=by
  have hlen:(l.take i).length-1=i-1:=by rw [Qt];omega
  simp only [List.getLast_eq_getElem,List.getElem_take,hlen]
 rw [this]
section
variable {B g cap:Nat} {l:List UInt8} {w:Wd}
theorem zdK {X:Wd} {sp:List Value} {M:List UInt8} (h:RowS zW 5 X g sp M) {i:Nat} (hi:i<M.length):X.cell? ⟨g,0+i*1,none⟩=some (u8 M[i]):=by
 have:=zc (h.at hi) (i:=0) (v:=u8 M[i]) rfl;exact this
theorem zlu {M:List UInt8} {i:Nat} {x:UInt8} (h:M[i]?=some x):∃ hi:i<M.length,M[i]=x:=by
 obtain⟨hi,e⟩:=Js.1 h;exact⟨hi,e⟩
theorem zmA (ho:OwnS zW 5 B w (some ⟨g,0,none⟩) cap l) (hn:l.length<=1000000) :
  Calls PG 102 #[.slice (some ⟨g,0,none⟩) l.length cap] w fun e w'=>e = .returned (.slice (some ⟨g,0,none⟩) (ded l).length cap)/\OwnS zW 5 B w' (some ⟨g,0,none⟩) cap (ded l)/\w.grownBy w' (some g):=by
 refine zI 61 [.slice (some ⟨g,0,none⟩) l.length cap] Tryz.func102 ?_;rcases ho.inv with ⟨h,_⟩ | ⟨g',cur,hg,hB,hcur,hlc,hcm,hcs,hct⟩
 ·cases h
 simp only [KY,Us,Gh] at hg;subst hg;have hcs:cur.size=cap:=by rw [hcs];exact UW _
 obtain⟨sp,hsp⟩:=nm (cur.toList.drop l.length);have hct:cur.toList.take l.length=l.flatMap zW.enc:=by rw [<- hct];congr 1;exact (UW _).symm
 have hR:RowS zW 5 w g sp l:=by
  unfold RowS;rw [hcur,<- hct,hsp,JP]
 have hspl:l.length+sp.length=cap:=by
  have h1:cur.toList.length=cap:=by rw [Array.length_toList];exact hcs
  rw [hsp,Qs,h1];omega
 refine biE (fun h=>?_) fun h=>?_
 ·have h:(l.length:Int)<2:=dT h;have e:ded l=l:=by
   match l,h with
   | [],_=>rfl
   | [x],_=>rfl
   | x::y::r,h=>simp at h;omega
  rw [e];exact⟨rfl,ho,qo w _⟩
 have h:¬ (l.length:Int)<2:=dF h;have hl2:2<=l.length:=by omega
 refine⟨Nat,fun k=>⟨[(0,.slice (some ⟨g,0,none⟩) l.length cap),(3,i64 (k:Nat))],[]⟩,fun k X=>1<=k/\k<=l.length/\ded (l.take k)=l.take k/\RowS zW 5 X g sp l/\w.grownBy X (some g),fun k=>l.length-k,1,
  (cvE rfl rfl),⟨UV _,by omega,by
   cases l with
   | nil=>rfl
   | cons x r=>rfl,hR,qo w _⟩,?_⟩
 rintro k X ⟨hk1,hkl,hdk,hRX,gX⟩;refine biE (fun hc=>?_) fun hc=>?_
 ·have hc:(k:Int)<(l.length:Int):=dT hc;have hk:k<l.length:=by omega
  refine DrawE.ord [] [0,1,2,3,4,5,6,7,8,9] (by kernel_rfl) ?_;have hRd:RowS zW 5 X.drew g sp l:=hRX;have gd:w.grownBy X.drew (some g):=zd gX ⟨rfl,rfl,rfl,UV _,fun _ _ _=>rfl⟩;refine⟨k,rfl,hk,_,zdK hRd hk,((k-1:Nat):Int),(ze (by omega)).trans (by omega),k-1,rfl,by omega,?_⟩;refine⟨_,zdK hRd (by omega),?_⟩;have hnx:=zlh (l:=l) hk1 hk;refine biE (fun he=>?_) fun he=>?_
  ·have he:l[k]=l[k-1]:=qu.1 (dT he);rw [Gn he] at hnx;refine⟨k,rfl,by show k<=l.length;omega,?_⟩;have hcb:jq (some ⟨g,0,none⟩) cap k 1=some ⟨g,k,none⟩:=by
    unfold jq;rw [Gm (by omega)];show some ((⟨g,0,none⟩:Addr).add (k*1))=_;rw [zbp,UW,UQ]
   refine⟨Nat×Nat×List UInt8,fun s=>⟨[(0,.slice (some ⟨g,0,none⟩) l.length cap),(3,i64 (s.2.1:Nat)),(4,.slice (some ⟨g,k,none⟩) (l.length-k) (cap-k)),(5,i64 (s.1:Nat))],[]⟩,
    fun s Y=>(1<=s.1/\k+s.1<=l.length)/\(s.2.1=(ded (l.take (k+s.1))).length/\s.2.1+1<=k+s.1)/\(s.2.2.length=l.length/\s.2.2.take s.2.1=ded (l.take (k+s.1))/\∀ j,s.2.1<=j->s.2.2[j]?=l[j]?)/\RowS zW 5 Y g sp s.2.2/\w.grownBy Y (some g),fun s=>l.length-s.1,(1,k,l),
    ⟨.cons rfl (.cons rfl (.cons (by rw [<- hcb];rfl) (.cons rfl .nil))),rfl⟩,⟨⟨UV _,by show k+1<=_;omega⟩,⟨by show k=_;rw [hnx,hdk,Qt];omega,UV _⟩,⟨rfl,by show l.take k=_;rw [hnx,hdk],fun j _=>rfl⟩,hRd,gd⟩,?_⟩
   rintro⟨m,q,M⟩ Y ⟨⟨hm1,hml⟩,⟨hq,hqm⟩,⟨hM,hMt,hMj⟩,hRY,gY⟩;dsimp only at hm1 hml hq hqm hM hMt hMj hRY ⊢;refine biE (fun hc=>?_) fun hc=>?_
   ·have hc:(m:Int)<((l.length-k:Nat):Int):=dT hc;have hi:k+m<l.length:=(by omega);have g1:M[k+m]?=some l[k+m]:=(by rw [hMj _ (by omega),gE hi]);have g0:M[k+m-1]?=some l[k+m-1]:=(by rw [hMj _ (by omega),gE (by omega)]);obtain⟨i1,e1⟩:=zlu g1;obtain⟨i0,e0⟩:=zlu g0;have nx:=zlh (l:=l) (i:=k+m) (by omega) hi;refine DrawE.ord [] [0,1,2,3,4,5,6,7,8,9] (by kernel_rfl) ?_;have hRYd:RowS zW 5 Y.drew g sp M:=hRY;have gYd:w.grownBy Y.drew (some g):=zd gY ⟨rfl,rfl,rfl,UV _,fun _ _ _=>rfl⟩;have a1:Y.drew.cell? ⟨g,k+m*1,none⟩=some (u8 l[k+m]):=by
     have:=zdK hRYd i1;rw [e1,UW,UQ] at this;rw [UW];exact this
    have a0:Y.drew.cell? ⟨g,k+(m-1)*1,none⟩=some (u8 l[k+m-1]):=by
     have:=zdK hRYd i0;rw [e0,UW,UQ] at this;rw [UW,<- Nat.add_sub_assoc hm1];exact this
    refine⟨m,rfl,by omega,?_⟩;refine⟨_,a1,((m-1:Nat):Int),(ze (by omega)).trans (by omega),m-1,rfl,by omega,?_⟩;refine⟨_,a0,biE (fun hne=>?_) fun hne=>?_⟩
    ·have hne:¬ l[k+m]=l[k+m-1]:=fun e=>by
      have hne:(!decide (((l[k+m]).toNat:Int)=((l[k+m-1]).toNat:Int)))=true:=hne;rw [e,Uq rfl] at hne;cases hne
     rw [Gm hne] at nx;refine⟨m,rfl,by omega,?_⟩;refine⟨_,a1,q,rfl,by omega,?_⟩;refine zit k5 rfl hRYd (i:=q) (by omega) l[k+m] fun Z hRZ gZ sZ=>nxI (by omega) (nxI (by omega) ⟨(m+1,q+1,M.set q l[k+m]),(cvE rfl rfl),⟨⟨by omega,by show k+(m+1)<=_;omega⟩,⟨?_,by show q+1+1<=k+(m+1);omega⟩,⟨by rw [QN];exact hM,?_,fun j hj=>?_⟩,hRZ,zd gYd gZ⟩,zdc (by omega)⟩)
     ·show q+1=(ded (l.take (k+(m+1)))).length;rw [<- UC,nx,lap,<- hq];rfl
     ·show (M.set q l[k+m]).take (q+1)=ded (l.take (k+(m+1)));rw [<- UC,nx,<- hMt];rw [tsg (by rw [QN];omega),List.take_set_of_le (UV _),List.getElem_set_self]
     ·show (M.set q l[k+m])[j]?=l[j]?;have hj:q+1<=j:=hj;rw [JU (by omega)];exact hMj j (by omega)
    ·have heq:l[k+m]=l[k+m-1]:=by
      have hne:(!decide (((l[k+m]).toNat:Int)=((l[k+m-1]).toNat:Int)))=false:=hne;have h2:decide (((l[k+m]).toNat:Int)=((l[k+m-1]).toNat:Int))=true:=(by simpa using hne);exact qu.1 (dT h2)
     rw [Gn heq] at nx;exact nxI (by omega) ⟨(m+1,q,M),(cvE rfl rfl),⟨⟨by omega,by show k+(m+1)<=_;omega⟩,⟨by show q=(ded (l.take (k+(m+1)))).length;rw [<- UC,nx];exact hq,by show q+1<=k+(m+1);omega⟩,⟨hM,by show M.take q=ded (l.take (k+(m+1)));rw [<- UC,nx];exact hMt,hMj⟩,hRYd,gYd⟩,zdc (by omega)⟩
   ·have hc:¬ (m:Int)<((l.length-k:Nat):Int):=dF hc;have hkm:k+m=l.length:=(by omega);rw [hkm,Qv] at hq hMt;refine⟨q,rfl,by show q<=l.length;omega,?_⟩;have hcb2:jq (some ⟨g,0,none⟩) cap q 1=some ⟨g,q,none⟩:=by
     unfold jq;rw [Gm (by omega)];show some ((⟨g,0,none⟩:Addr).add (q*1))=_;rw [zbp,UW,UQ]
    have hfl:(M.flatMap zW.enc++sp).length=cap:=by
     rw [lap,qE,hM];show l.length*1+_=_;omega
    have hcl:SatR ((Builtin.clear_ #[23] 0 #[.slice (some ⟨g,q,none⟩) (l.length-q) (cap-q)]).run PG Y) fun _ Z=>Z.heap[g]?=some (.cells ((M.flatMap zW.enc++sp).take q++List.replicate (l.length-q) (u8 0)++(M.flatMap zW.enc++sp).drop (q+(l.length-q))).toArray 5 (0,0))/\Y.grownBy Z (some g) :=
     zoC Tryz.underlying23 k5 rfl rfl (by omega) hRY (by show q+(l.length-q)<=(M.flatMap zW.enc++sp).length;rw [hfl];omega) fun Z fZ gZ sZ=>⟨fZ,gZ⟩
    obtain⟨v,Z,hrun,fZ,gZ⟩:=hcl;refine⟨v,Z,by rw [hcb2];exact hrun,?_⟩;refine⟨q,rfl,by show q<=cap;omega,?_⟩;rw [<- hq];refine⟨by show Ending.returned (Value.slice (jq (some ⟨g,0,none⟩) cap 0 1) (q-0) (cap-0))=_;rw [zc9];rfl,?_,zd gY gZ⟩;unfold OwnS World.ownsRow;refine⟨by rw [qE],.inr ⟨g,cap,_,rfl,hB,fZ,by omega,hcm,?_,?_⟩⟩
    ·show (List.length _)=cap*1;rw [lap,lap,Qt,JM,Qs,hfl];omega
    ·rw [<- hq];show ((M.flatMap zW.enc++sp).take q++List.replicate (l.length-q) (u8 0)++(M.flatMap zW.enc++sp).drop (q+(l.length-q))).take (q*1)=_;rw [UW,KN,Jg (by rw [Qt,hfl];omega),List.take_take,Nat.min_self,Jg (by rw [qE,hM];show q<=l.length*1;omega),<- hMt];have:=JP q M;have e2:M.flatMap zW.enc=(M.take q).flatMap zW.enc++(M.drop q).flatMap zW.enc:=(by rw [<- Kg,JP]);rw [e2,QV (by rw [qE,Qt];show min q M.length*1=q;omega)]
  ·have he:¬ l[k]=l[k-1]:=fun e=>(dF he) (by rw [e]);rw [Gm he,hdk] at hnx;exact nxI (by omega) ⟨k+1,(cvE rfl rfl),⟨by omega,hk,by rw [hnx,tsg hk],hRd,gd⟩,zdc (by omega)⟩
 ·have hc:¬ (k:Int)<(l.length:Int):=dF hc;obtain rfl:k=l.length:=by omega
  rw [Qv] at hdk;rw [hdk];refine⟨rfl,?_,gX⟩;unfold OwnS World.ownsRow;refine⟨by rw [qE],.inr ⟨g,cap,_,rfl,hB,hRX,by omega,hcm,?_,?_⟩⟩
  ·show (l.flatMap zW.enc++sp).length=cap*1;rw [lap,qE];show l.length*1+_=_;omega
  ·exact QV (qE l)
end
def prE:Enc (Nat×Nat):=⟨fun x=>[u8 (UInt8.ofNat x.1),u8 (UInt8.ofNat x.2)],2,fun _=>rfl,by decide,fun a u hu=>by
 simp only [UB,Qu,Gk] at hu;rcases hu with rfl | rfl <;> rfl⟩
def zgZ:Enc Nat:=⟨fun x=>[s32 x],1,fun _=>rfl,by decide,fun a u hu=>by
 simp only [UB,Qu,Gk] at hu;subst hu;rfl⟩
theorem zs2 {s:Nat} {w:Wd} (hT:Tz32M w) (h0:s≠0) (h:s<2^32):Calls PG 178 #[s32 s] w fun e w'=>e = .returned (i64 (ctz s:Nat))/\w=w':=by
 refine zI 14 [s32 s] Tryz.func178 ?_;obtain⟨h2,h3⟩:=zhU h0 h;obtain⟨t1,t2⟩:=zo3 h3;refine brN (Uf (fun e=>h0 (by omega))) ⟨((2^32-s:Nat):Int),by unfold IntKind.wrap;simp only [IntKind.bits,IntKind.signed,Uh,Kt,Gj];omega,?_⟩;refine⟨((2^ctz s:Nat):Int),(zmF (a:=s) (b:=2^32-s) h (by omega)).trans (by rw [h2]),?_⟩;refine⟨((2^ctz s*125613361%4294967296:Nat):Int),by
  have e:(((2^ctz s:Nat):Int)*125613361)=((2^ctz s*125613361:Nat):Int):=by rw [QG];rfl
  rw [e];generalize 2^ctz s*125613361=n;unfold IntKind.wrap;simp only [IntKind.bits,IntKind.signed,Uh,Kt,Gj];omega,?_⟩
 refine⟨by decide,((2^ctz s*125613361%4294967296/2^27:Nat):Int),by
  generalize 2^ctz s*125613361%4294967296=n;show (n:Int).fdiv (2^(min (Int.toNat (27:Int)) IntKind.u32.bits))=_;rw [show min (Int.toNat (27:Int)) IntKind.u32.bits=27 from rfl,Jl _ (by decide)];omega,?_⟩
 refine⟨_,rfl,t1,?_⟩;have hv:(zin.map u8)[2^ctz s*125613361%4294967296/2^27]?=some (u8 (UInt8.ofNat (ctz s))):=by rw [KT,t2];rfl
 refine⟨u8 (UInt8.ofNat (ctz s)),by rw [UW];exact zc hT hv,?_⟩;have e:(UInt8.ofNat (ctz s)).toNat=ctz s:=by rw [KH];omega
 exact⟨(ctz s:Int),by rw [e];exact ze (by omega),rfl,rfl⟩
def zad:Nat->List Nat->List (Nat×Nat)
 | _,[]=>[]
 | i,s::r=>(els s).map (fun a=>(a,i))++zad (i+1) r
theorem zhf (f:Nat->Nat):∀ (n i:Nat),zad i ((List.range' i n).map f)=(List.range' i n).flatMap fun i=>(els (f i)).map fun a=>(a,i)
 | 0,i=>rfl
 | n+1,i=>by
  rw [List.range'_succ,UA,KR];show (els (f i)).map _++zad (i+1) _=_;rw [zhf f n (i+1)]
theorem zdU (f:Nat->Nat) (n:Nat):zad 0 ((List.range n).map f)=zc2 f n:=by
 unfold zc2;rw [List.range_eq_range'];exact zhf f n 0
theorem zl5 (l:List Nat) (x:Nat):∀ i,zad i (l++[x])=zad i l++(els x).map (fun a=>(a,i+l.length)):=by
 induction l with
 | nil=>intro i;show (els x).map _++[]=_;rw [QI];rfl
 | cons y r ih =>
  intro i;show (els y).map _++zad (i+1) (r++[x])=((els y).map _++zad (i+1) r)++_;rw [ih,KN,Qr];congr 3;funext a;congr 1;omega
theorem zfJ:∀ (l:List Nat) (i:Nat),(zad i l).length<=64*l.length
 | [],_=>UY _
 | x::r,i=>by
  show ((els x).map _++zad (i+1) r).length<=_;rw [lap,QL,Qr];have h1:=zfJ r (i+1);have h2:=zfi x;omega
section
variable {p:OA} {cap:Nat} {l:List Nat} {w:Wd}
theorem zjz (hl:SlR zgZ w p l) (hn:l.length<=24) (hb:∀ x∈l,x<2^32) (hT:Tz32M w) :
  Calls PG 150 #[.slice p l.length cap] w fun e w'=>(∃ q c,e = .returned (.slice q (zad 0 l).length c)/\OwnS prE 231 w.heap.size w' q c (zad 0 l))/\Bw w w':=by
 refine zI 30 [.slice p l.length cap] Tryz.func150 ?_;refine⟨Nat×OA×Nat,fun s=>⟨[(3,.slice s.2.1 (zad 0 (l.take s.1)).length s.2.2),(6,.slice p l.length cap),(7,i64 l.length),(8,i64 (s.1:Nat))],[]⟩,
  fun s X=>s.1<=l.length/\OwnS prE 231 w.heap.size X s.2.1 s.2.2 (zad 0 (l.take s.1))/\Bw w X,fun s=>l.length-s.1,(0,none,0),
  (cvE rfl rfl),⟨UY _,OwnS.nil,Ga _ _⟩,?_⟩
 rintro⟨k,q,c⟩ X ⟨hk,ho,hbX⟩;dsimp only at hk ho ⊢;refine biE (fun hc=>?_) fun hc=>?_
 ·have hc:(k:Int)<(l.length:Int):=dT hc;have hkl:k<l.length:=by omega
  obtain⟨b,o,hp,hlt',hat⟩:=(hl.below hbX).at hkl;have ep:some (Value.slice p l.length cap)=some (Value.slice (some ⟨b,o,none⟩) l.length cap):=by rw [hp]
  subst hp;refine⟨k,rfl,hkl,s32 l[k],by have:=zc (hat k hkl) (i:=0) (v:=s32 l[k]) rfl;exact this,?_⟩;have hlk:=hb _ (gM hkl);have htl:(l.take k).length=k:=by rw [Qt];omega
  have hpl:=zfJ (l.take k) 0;have tk:l.take (k+1)=l.take k++[l[k]]:=tsg hkl;refine⟨Nat×List (Nat×Nat)×OA×Nat,fun s=>⟨[(3,.slice s.2.2.1 s.2.1.length s.2.2.2),(4,i64 (k:Nat)),(5,s32 s.1),(6,.slice (some ⟨b,o,none⟩) l.length cap),(7,i64 l.length),(8,i64 (k:Nat))],[]⟩,
   fun s Y=>(zad 0 (l.take (k+1))=s.2.1++(els s.1).map (fun a=>(a,k))/\s.1<2^32/\s.2.1.length+(els s.1).length<=64*(k+1))/\OwnS prE 231 w.heap.size Y s.2.2.1 s.2.2.2 s.2.1/\Bw w Y,fun s=>s.1,(l[k],zad 0 (l.take k),q,c),
   (cvE rfl rfl),⟨⟨by rw [tk,zl5,htl,UQ],hlk,by have:=zfi l[k];show (zad 0 (l.take k)).length+(els l[k]).length<=_;omega⟩,ho,hbX⟩,?_⟩
  rintro⟨s,m,q,c⟩ Y ⟨⟨he,hs,hlen⟩,ho,hbY⟩;dsimp only at he hs hlen ho ⊢;refine biE (fun hc=>?_) fun hc=>?_
  ·have hc:(!decide ((s:Int)=0))=true:=hc;have h0:s≠0:=fun e=>by
    subst e;exact Gp hc (by decide)
   have hs64:s<2^64:=nL hs (by decide);obtain⟨e1,e2,_,_⟩:=jX h0 hs64;obtain⟨_,hc32⟩:=zhU h0 hs;rw [e1] at hlen;refine cmo (zs2 (hT.below hbY) h0 hs) ?_;rintro e _ ⟨rfl,rfl⟩;refine⟨_,w8N _,_,w8N _,prE.enc (ctz s,k),rfl,⟨by decide,by decide,rfl⟩,prE.enc (ctz s,k),za2 rfl rfl,?_⟩;have hba:Bw Y (Y.alloc (.cells (prE.enc (ctz s,k)).toArray 231)):=zba _ _;simp only [Qr] at hlen;refine jJ (E:=prE) (T:=231) (B:=w.heap.size) (l:=m) (news:=[(ctz s,k)]) (cap:=c) (m:=1) Tryz.underlying136 zux rfl rfl rfl (ho.below hba) rfl (qN prE (ctz s,k)) (by have:=hbY.size;have:=hba.size;omega) (by omega) (by show (m.length+1)*2<=_;omega) ?_;intro p2 c2 Z oZ gZ hbZ hat2;refine⟨((s-1:Nat):Int),(w32 (a:=(s:Int)-1) (by omega)).trans (by omega),((qI s:Nat):Int),zmF (a:=s) (b:=s-1) hs (by omega),(qI s,m++[(ctz s,k)],p2,c2),(cvE rfl rfl),⟨⟨?_,by show qI s<_;omega,?_⟩,oZ,((zst hbY hba)).trans hbZ⟩,e2⟩
   ·rw [he,e1,UA,KN];rfl
   ·simp only [lap,Qr,QM];omega
  ·have hc:(!decide ((s:Int)=0))=false:=hc;have h0:s=0:=by
    have h1:decide ((s:Int)=0)=true:=(by simpa using hc);exact Ux (dT h1)
   subst h0;rw [zao,List.map_nil,QI] at he;exact nxI (by omega) ⟨(k+1,q,c),⟨.cons (by rw [he];rfl) (.cons rfl (.cons rfl (.cons rfl .nil))),rfl⟩,⟨hkl,by show OwnS prE _ _ _ _ _ (zad 0 (l.take (k+1)));rw [he];exact ho,hbY⟩,zdc (by omega)⟩
 ·have hc:¬ (k:Int)<(l.length:Int):=dF hc;obtain rfl:k=l.length:=by omega
  rw [Qv] at ho;refine⟨⟨q,c,by rw [Qv];rfl,ho⟩,hbX⟩
theorem zjc {p:OA} {cap:Nat} {l:List Ev} {w:Wd} (hl:SlR evE w p l) (hn:l.length<=100000) (hc:p=none->cap=0) :
  Calls PG 79 #[.slice p l.length cap] w fun e w'=>(∃ q c,e = .returned (.slice q l.length c)/\OwnS evE 49 w.heap.size w' q c l)/\Bw w w':=by
 refine zI 8 [.slice p l.length cap] Tryz.func79 ?_;refine⟨_,fun w=>ztK Tryz.underlying34 _ _ p l.length cap w,?_⟩
 cases p with
 | none =>
  refine brT ?_;have e:=hl.none;subst e;exact⟨⟨none,0,rfl,OwnS.nil⟩,Ga _ _⟩
 | some a =>
  refine brF ⟨⟨by decide,by decide,rfl⟩,[],rfl,?_⟩;have hb0:Bw w (w.alloc (.cells #[] 49)):=zba w _;refine zgO (E:=evE) (T:=49) (B:=w.heap.size) (l:=[]) (news:=l) (cap:=0) Tryz.underlying34 k49 rfl rfl rfl zhh rfl (hl.below hb0) (fun h=>by cases h) hb0.size (by simp;omega) (by show (0+l.length)*16<=_;omega) ?_;intro p' cap' w' ho hg hbw;exact⟨⟨p',cap',rfl,ho⟩,hb0.trans hbw⟩
end
def zid (P:PathD) (q1:OA) (c1:Nat) (q2:OA) (c2:Nat) (q3:OA) (c3:Nat) (q4:OA) (c4:Nat):List Value :=
 [.slice q1 P.ev.length c1,.slice q2 P.data.length c2,.slice q3 P.ctrl.length c3,.slice q4 P.rmw.length c4]++seg 8 (fun i=>u8 (P.regs i))
theorem zkI (P:PathD) (q1 c1 q2 c2 q3 c3 q4 c4):(zid P q1 c1 q2 c2 q3 c3 q4 c4).all Value.oneCell'=true:=by
 unfold zid;rw [QH,zbD fun _=>rfl];rfl
theorem zkJ (P:PathD) (q1 c1 q2 c2 q3 c3 q4 c4):(zid P q1 c1 q2 c2 q3 c3 q4 c4).length=12:=by
 unfold zid;rw [lap,zE];rfl
def zuG (R:RunD):Prop:=∀ i,i<R.many->R.data i<2^32/\R.ctrl i<2^32/\R.att i<2^32
section
variable {R:RunD} {b:Nat} {w:Wd}
theorem zn3 {X:Wd} {o n m:Nat} {f:Nat->Nat} (hb:b<X.heap.size) (h:∀ i,i<n->X.cell? ⟨b,o+i,none⟩=some (s32 (f i))) (hm:m<=n):SlR zgZ X (some ⟨b,o,none⟩) ((List.range m).map f):=by
 refine .inr ⟨b,o,rfl,hb,fun i hi=>?_⟩;have hi:i<m:=by simpa using hi
 rw [Qp,Ky];refine za4 fun j v hv=>?_
 cases j with
 | zero =>
  have hv:s32 (f i)=v:=by simpa [zgZ] using hv
  rw [<- hv];show X.cell? ⟨b,o+i*1+0,none⟩=_;rw [UW,UK];exact h i (by omega)
 | succ j=>simp [zgZ] at hv
theorem zr2 {X:Wd} {m:Nat} (f:jC X b R) (hm:m<=24):SlR evE X (some ⟨b,19,none⟩) ((List.range m).map R.ev):=by
 have hc:=zmN f;refine .inr ⟨b,19,rfl,hlt f,fun i hi=>?_⟩;have hi:i<m:=by simpa using hi
 rw [Qp,Ky,<- zqb R.ev (show i<24 by omega)];exact zR hc
theorem ztl (f:jC w b R) (hm:R.many<=24) (hB:zuG R) (hT:Tz32M w) :
  Calls PG 105 #[AtR b] w fun e w'=>(∃ q1 c1 q2 c2 q3 c3 q4 c4,e = .returned (.agg (zid (ja R) q1 c1 q2 c2 q3 c3 q4 c4).toArray)/\OwnS evE 49 w.heap.size w' q1 c1 (ja R).ev/\OwnS prE 231 w.heap.size w' q2 c2 (ja R).data/\OwnS prE 231 w.heap.size w' q3 c3 (ja R).ctrl/\OwnS prE 231 w.heap.size w' q4 c4 (ja R).rmw)/\Bw w w':=by
 refine zI 44 [AtR b] Tryz.func105 ?_;obtain⟨Z0,hZ0⟩:∃ Z0:List Value,Z0=zid ⟨[],[],[],[],fun _=>0⟩ none 0 none 0 none 0 none 0:=⟨_,rfl⟩;have f0:=zw w (.cells Z0.toArray 138);have hb0:Bw w (w.alloc (.cells Z0.toArray 138)):=zba w _;obtain⟨X,hX⟩:=nm ((w.alloc (.cells Z0.toArray 138)).drew);have hbX:Bw w X:=by rw [hX];exact hb0.drew
 have f0X:X.heap[w.heap.size]?=some (.cells Z0.toArray 138 (0,0)):=by rw [hX];exact f0
 have fX:=zb hbX f;have hX':(w.alloc (.cells (#[.slice none 0 0,.slice none 0 0,.slice none 0 0,.slice none 0 0,.int .u8 0,.int .u8 0,.int .u8 0,.int .u8 0,.int .u8 0,.int .u8 0,.int .u8 0,.int .u8 0]:Array Value) 138)).drew=X:=by rw [hX,hZ0];rfl
 refine DrawE.ord [41] [0,1,2,3,4,5,6,7,9,10,11,12,13,14,15,16,18,19,20,21,22,23,24,25,27,28,29,30,31,32,33,34,36,37,38,39,8,17,26,35,40,41] (by kernel_rfl) ?_;have cut:∀ (o e:Nat),Value.slice (jq (some ⟨b,0+o,none⟩) 24 0 e) (R.many-0) (24-0) = .slice (some ⟨b,o,none⟩) R.many 24:=fun o e=>by rw [zc9,UQ];rfl
 have lm:∀ {α:Type} (g:Nat->α),((List.range R.many).map g).length=R.many:=fun g=>by rw [QL,KU]
 have hbx:=hlt fX;have sd:∀ {o:Nat} {g:Nat->Nat},(∀ i,i<24->(qQ R)[o+i]?=some (s32 (g i)))->SlR zgZ X (some ⟨b,o,none⟩) ((List.range R.many).map g):=fun {o g} h=>zn3 hbx (fun i hi=>by
  have:=zc (za fX) (h i hi);rw [UQ] at this;exact this) hm
 rw [hX'];refine⟨_,zc (za fX) (i:=18) (zbN R),R.many,rfl,hm,_,zc (za fX) (i:=18) (zbN R),R.many,rfl,hm,_,zc (za fX) (i:=18) (zbN R),R.many,rfl,hm,_,zc (za fX) (i:=18) (zbN R),R.many,rfl,hm,seg 8 (fun i=>u8 (R.regs i)),zE _ _,?_,hbx,?_⟩
 ·have:=zR (n:=1) (m:=8) (za fX);have e:((qQ R).toArray.toList.drop 1).take 8=seg 8 (fun i=>u8 (R.regs i)):=by
   show (seg 8 (fun i=>u8 (R.regs i))++_).take 8=_;exact QV (zE _ _)
  rw [e] at this;exact this
 have c1:=zjc (w:=X) (cap:=24) (zr2 fX hm) (by rw [lm];omega) (fun h=>by cases h);rw [lm,<- cut 19 7] at c1;refine cmo c1 ?_;rintro e Y1 ⟨⟨q1,k1,rfl,o1⟩,hb1⟩;refine⟨hb1,?_⟩;have hw1:=zst hbX hb1;have c2:=zjz (w:=Y1) (cap:=24) ((sd (o:=187) (g:=R.data) fun i hi=>zkq R hi).below hb1) (by rw [lm];exact hm) (fun x hx=>by
  obtain⟨i,hi,rfl⟩:=UI.1 hx;exact (hB i (Um.1 hi)).1) (hT.below hw1)
 rw [lm,<- cut 187 1,zdU] at c2;refine cmo c2 ?_;rintro e Y2 ⟨⟨q2,k2,rfl,o2⟩,hb2⟩;refine⟨hb2,?_⟩;have hx2:=zst hb1 hb2;have hw2:=zst hbX hx2;have c3:=zjz (w:=Y2) (cap:=24) ((sd (o:=211) (g:=R.ctrl) fun i hi=>zkr R hi).below hx2) (by rw [lm];exact hm) (fun x hx=>by
  obtain⟨i,hi,rfl⟩:=UI.1 hx;exact (hB i (Um.1 hi)).2.1) (hT.below hw2)
 rw [lm,<- cut 211 1,zdU] at c3;refine cmo c3 ?_;rintro e Y3 ⟨⟨q3,k3,rfl,o3⟩,hb3⟩;refine⟨hb3,?_⟩;have hx3:=zst hx2 hb3;have hw3:=zst hbX hx3;have c4:=zjz (w:=Y3) (cap:=24) ((sd (o:=235) (g:=R.att) fun i hi=>zjq R hi).below hx3) (by rw [lm];exact hm) (fun x hx=>by
  obtain⟨i,hi,rfl⟩:=UI.1 hx;exact (hB i (Um.1 hi)).2.2) (hT.below hw3)
 rw [lm,<- cut 235 1,zdU] at c4;refine cmo c4 ?_;rintro e Y4 ⟨⟨q4,k4,rfl,o4⟩,hb4⟩;refine⟨hb4,?_⟩;have hx4:=zst hx3 hb4;have hw4:=zst hbX hx4;have le1:(ja R).ev.length=R.many:=lm _;obtain⟨cs,hcs⟩:=nm (zid (ja R) q1 k1 q2 k2 q3 k3 q4 k4);refine⟨cs,by rw [hcs];unfold zid;rw [le1];rfl,?_⟩;have f4:=zb hx4 f0X;have hone:cs.all Value.oneCell'=true:=by rw [hcs];exact zkI ..
 have hlen:cs.length=12:=by rw [hcs];exact zkJ ..
 refine zt (v := .agg cs.toArray) zor f4 hlen (by rw [hZ0];rfl) hone ?_;have f5:=zn (cs':=(Value.agg cs.toArray).cells) f4;have hs:w.heap.size<=X.heap.size:=hbX.size;have keep:∀ {α:Type} {E:Enc α} {T B c:Nat} {p:OA} {l:List α},X.heap.size<=B->OwnS E T B Y4 p c l->OwnS E T w.heap.size (Y4.setRow w.heap.size (Value.agg cs.toArray).cells) p c l:=fun {α E T B c p l} hB o=>by
  refine OwnS.lower (o.kept (jI Y4 w.heap.size _) fun g hg e=>?_) (UL hs hB);rcases o.inv with ⟨h,_⟩ | ⟨g',cur,h,h2,_⟩
  ·rw [h] at hg;cases hg
  ·rw [h] at hg;simp only [KY,Us,Gh] at hg e;have:=hlt f0X;omega
 have n1:=hb1.size;have n2:=hb2.size;have n3:=hb3.size;refine⟨cs,hlen,za f5,⟨q1,k1,q2,k2,q3,k3,q4,k4,by rw [hcs];rfl,keep (UV _) (((o1.below hb2).below hb3).below hb4),keep (by omega) ((o2.below hb3).below hb4),keep (by omega) (o3.below hb4),keep (by omega) o4⟩,zl hw4 (UV _) _⟩
end
theorem zac (c : UInt8) (w : Wd) : Calls PG 131 #[u8 c] w fun e w' => e = .returned (i64 (ql c)) ∧ w = w' := by
  refine zeH (S := sg 47) (zbC _) (args := [u8 c]) (.s .p (.c .p .p)) Tryz.func131 rfl rfl (JR rfl) rfl ?_
  refine ⟨Unit, fun _ => ⟨[(0, u8 c)], []⟩, fun _ X => zgc c = false ∧ zhE c = false ∧ w = X, ?_, ?_⟩
  · repeat first
      | exact ⟨(), ⟨.cons rfl .nil, rfl⟩, by unfold zgc; simp only [*]; rfl, by unfold zhE; simp only [*]; rfl, rfl⟩
      | exact ⟨by
          first
          | (have e : zgc c = true := by unfold zgc; simp only [*]; rfl
             unfold ql; rw [e]; rfl)
          | (have e1 : zgc c = false := by unfold zgc; simp only [*]; rfl
             have e2 : zhE c = true := by unfold zhE; simp only [*]; rfl
             unfold ql; rw [e1, e2]; rfl), rfl⟩
      | refine brT ?_
      | refine brF ?_
      | refine brE (by assumption) ?_
      | refine brN (by assumption) ?_
      | refine Gf (fun h => ?_) (fun h => ?_)
  rintro _ _ ⟨h1, h2, rfl⟩
  have key : ql c = (bif eqB c 32 || eqB c 9 then 1 else bif eqB c 10 then 2 else bif eqB c 95 then 5 else bif eqB c 35 then 7 else bif zng c then 6 else 0) := by unfold ql; rw [h1, h2]; rfl
  rw [key]
  clear key h1 h2
  unfold zng
  refine Gf (fun h => ?_) (fun h => ?_)
  · have h : eqB c 32 = true := h
    refine brE h ?_
    exact ⟨by rw [h]; rfl, rfl⟩
  have h32 : eqB c 32 = false := h
  refine Gf (fun h => ?_) (fun h => ?_)
  · have h : eqB c 9 = true := h
    exact ⟨by rw [h32, h]; rfl, rfl⟩
  have h9 : eqB c 9 = false := h
  refine Gf (fun h => ?_) (fun h => ?_)
  · have h : eqB c 10 = true := h
    exact ⟨by rw [h32, h9, h]; rfl, rfl⟩
  have h10 : eqB c 10 = false := h
  refine Gf (fun h => ?_) (fun h => ?_)
  · have h : eqB c 95 = true := h
    exact ⟨by rw [h32, h9, h10, h]; rfl, rfl⟩
  have h95 : eqB c 95 = false := h
  refine Gf (fun h => ?_) (fun h => ?_)
  · have h : eqB c 35 = true := h
    exact ⟨by rw [h32, h9, h10, h95, h]; rfl, rfl⟩
  have h35 : eqB c 35 = false := h
  rw [h32, h9, h10, h95, h35]
  refine Gf (fun h => ?_) (fun h => ?_)
  · have h : eqB c 61 = true := h
    refine brE h ?_
    exact ⟨by rw [h]; rfl, rfl⟩
  have h61 : eqB c 61 = false := h
  refine Gf (fun h => ?_) (fun h => ?_)
  · have h : eqB c 43 = true := h
    refine brE h ?_
    exact ⟨by rw [h61, h]; rfl, rfl⟩
  have h43 : eqB c 43 = false := h
  refine Gf (fun h => ?_) (fun h => ?_)
  · have h : eqB c 45 = true := h
    refine brE h ?_
    exact ⟨by rw [h61, h43, h]; rfl, rfl⟩
  have h45 : eqB c 45 = false := h
  refine Gf (fun h => ?_) (fun h => ?_)
  · have h : eqB c 94 = true := h
    refine brE h ?_
    exact ⟨by rw [h61, h43, h45, h]; rfl, rfl⟩
  have h94 : eqB c 94 = false := h
  refine Gf (fun h => ?_) (fun h => ?_)
  · have h : eqB c 38 = true := h
    refine brE h ?_
    exact ⟨by rw [h61, h43, h45, h94, h]; rfl, rfl⟩
  have h38 : eqB c 38 = false := h
  refine Gf (fun h => ?_) (fun h => ?_)
  · have h : eqB c 124 = true := h
    refine brE h ?_
    exact ⟨by rw [h61, h43, h45, h94, h38, h]; rfl, rfl⟩
  have h124 : eqB c 124 = false := h
  refine Gf (fun h => ?_) (fun h => ?_)
  · have h : eqB c 33 = true := h
    refine brE h ?_
    exact ⟨by rw [h61, h43, h45, h94, h38, h124, h]; rfl, rfl⟩
  have h33 : eqB c 33 = false := h
  refine Gf (fun h => ?_) (fun h => ?_)
  · have h : eqB c 40 = true := h
    refine brE h ?_
    exact ⟨by rw [h61, h43, h45, h94, h38, h124, h33, h]; rfl, rfl⟩
  have h40 : eqB c 40 = false := h
  refine Gf (fun h => ?_) (fun h => ?_)
  · have h : eqB c 41 = true := h
    refine brE h ?_
    exact ⟨by rw [h61, h43, h45, h94, h38, h124, h33, h40, h]; rfl, rfl⟩
  have h41 : eqB c 41 = false := h
  refine Gf (fun h => ?_) (fun h => ?_)
  · have h : eqB c 58 = true := h
    refine brE h ?_
    exact ⟨by rw [h61, h43, h45, h94, h38, h124, h33, h40, h41, h]; rfl, rfl⟩
  have h58 : eqB c 58 = false := h
  refine Gf (fun h => ?_) (fun h => ?_)
  · have h : eqB c 60 = true := h
    exact ⟨by rw [h61, h43, h45, h94, h38, h124, h33, h40, h41, h58, h]; rfl, rfl⟩
  have h60 : eqB c 60 = false := h
  exact ⟨by rw [h61, h43, h45, h94, h38, h124, h33, h40, h41, h58, h60]; rfl, rfl⟩
theorem zk4 (c : UInt8) (w : Wd) : Calls PG 133 #[u8 c] w fun e w' => e = .returned (.bool (qJ c)) ∧ w = w' := by
  refine jz (S := sg 16) (zbC _) (args := [u8 c]) Tryz.func133 rfl rfl (JR rfl) rfl ?_
  refine Gb (zac c w) ?_
  rintro e _ ⟨rfl, rfl⟩
  have e3 : ∀ k : Nat, decide ((ql c : Int) = (k : Int)) = decide (ql c = k) := fun k => by rw [QE]; omega
  refine Gf (fun h => ?_) (fun h => ?_)
  · have h : decide (ql c = 3) = true := (e3 3).symm.trans h
    refine Gf (fun _ => ?_) (fun h => by cases h)
    exact ⟨rb (by unfold qJ; rw [h]; rfl), rfl⟩
  have h3 : decide (ql c = 3) = false := (e3 3).symm.trans h
  refine Gf (fun h => ?_) (fun h => ?_)
  · have h : decide (ql c = 4) = true := (e3 4).symm.trans h
    exact ⟨rb (by unfold qJ; rw [h3, h]; rfl), rfl⟩
  have h4 : decide (ql c = 4) = false := (e3 4).symm.trans h
  exact ⟨rb (by unfold qJ; rw [h3, h4]; exact e3 5), rfl⟩
end Go.Proofs.YtkpaomeeknegpaaGreatDoor
